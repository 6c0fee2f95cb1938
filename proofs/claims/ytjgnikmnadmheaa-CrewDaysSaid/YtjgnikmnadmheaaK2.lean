/- The closed check 'works', reckoned out by the second machine: CheckYard, CheckTasks and suits at the yards and tasks of the examples, and Close, are known by contracts. -/
import Derived.Test.YtjgnikmnadmheaaK1
namespace Go.Proofs.Ytjgnikmnadmheaa
open Go.RowKit

noncomputable def isNil (v : Value) : Bool := match v with
  | .slice none 0 0 => true
  | _ => false
noncomputable def isYardC (l : List Value) (H : Tr AO) (n : Nat) (cl : List Int) : Bool := Bool.rec false (match dropQ l 24 with
    | [c, p, m, d] => Bool.rec false (Bool.rec false (Bool.rec false (isInt d 1) (isAnn (rowAt H m 1 78 4))) (isInts (rowAt H p 2 87 6) [0, 2, 2, 0, 5, 9])) (isInts (rowAt H c n 3 n) cl)
    | _ => false) (isInts (takeQ l 24) seas)
noncomputable def yardNo (l : List Value) (H : Tr AO) : Option Bool := Bool.rec (Bool.rec none (some true) (isYardC l H 2 [2, 3])) (some false) (isYardC l H 1 [3])
noncomputable def isTasks (v : Value) (H : Tr AO) : Bool := match rowAt H v 3 48 12 with
  | [w1, n1, a1, c1, w2, n2, a2, c2, w3, n3, a3, c3] => Bool.rec false (Bool.rec false (Bool.rec false (Bool.rec false (Bool.rec false (Bool.rec false (isInts (rowAt H a3 2 3 2) [0, 1]) (isNil a2)) (isNil a1)) (isNil c3)) (isNil c2)) (isNil c1)) (isInts [w1, n1, w2, n2, w3, n3] [400, 3, 400, 3, 400, 3])
  | _ => false
def suitN (two : Bool) (i m : Nat) : Bool := Nat.ble m 100000 && (!(Nat.beq m 3) && (!(two && Nat.beq m 2) && (Nat.beq (m % 360 / 30) 0 && (Nat.ble (i + 1) (cond (Nat.ble 2 m) 2 0 + cond (Nat.ble 5 m) 9 0) && Nat.blt m 100))))
noncomputable def suitC2 (two : Bool) (i : Nat) (d : Int) : Bool := Int.rec (fun m => suitN two i m) (fun _ => false) d
noncomputable def task3 (v : Value) : Option Nat := match v with
  | .int .i64 (.ofNat i) => Bool.rec none (some i) (Nat.blt i 3)
  | _ => none
noncomputable def intOf (v : Value) : Option Int := match v with
  | .int .i64 i => some i
  | _ => none
noncomputable def extF (g : Nat) (args : Array Value) (H : Tr AO) : Option Value := match args.toList with
  | [y] => (match y with
    | .agg y => Bool.rec none (match yardNo y.toList H with | some _ => some (int1 0) | none => none) (Nat.beq g 16)
    | l => Bool.rec none (Bool.rec none (some (int1 0)) (isTasks l H)) (Nat.beq g 18))
  | [y, l, i, d] => (match y with
    | .agg y => Bool.rec none (Bool.rec none (match yardNo y.toList H with
        | some two => (match task3 i with
          | some i => (match intOf d with | some d => some (.bool (suitC2 two i d)) | none => none)
          | none => none)
        | none => none) (isTasks l H)) (Nat.beq g 97)
    | _ => none)
  | _ => none
noncomputable def E2 : Env := ⟨Try.prog, tvs.get, fs.get, fun _ _ _ => none, extF, extC⟩
end Go.Proofs.Ytjgnikmnadmheaa
