/- The second machine over the crew's program: Close at the yard of the examples is known by a contract; the closed check 'works', reckoned out. -/
import Derived.Test.YtjgnikmnadmheaaK0
namespace Go.Proofs.Ytjgnikmnadmheaa
open Go.RowKit

noncomputable def isInt (v : Value) (k : Int) : Bool := match v with
  | .int .i64 m => decide (m = k)
  | _ => false
noncomputable def isInts (l : List Value) : List Int → Bool := List.rec (fun ks => match ks with | [] => true | _ => false) (fun v _ ih ks => match ks with
  | k :: ks => Bool.rec false (ih ks) (isInt v k)
  | [] => false) l
noncomputable def isAnn (l : List Value) : Bool := match l with
  | .string s :: l => Bool.rec false (isInts l [0, 100, 4]) (decide (s = ⟨#[97, 110, 110]⟩))
  | _ => false
noncomputable def rowAt (H : Tr AO) (v : Value) (m e n : Nat) : List Value := match v with
  | .slice (some ⟨b, o, none⟩) l _ => match H.get b with
    | some (.cells row e' _) => Bool.rec [] (Bool.rec [] (takeQ (dropQ row.toList o) n) (Nat.beq l m)) (Nat.beq e' e)
    | _ => []
  | _ => []
def seas : List Int := [600, 500, 0, 0, 0, 0, 0, 0, 0, 0, 0, 0, 0, 0, 0, 0, 0, 0, 0, 0, 0, 0, 0, 0]
noncomputable def isYard (l : List Value) (H : Tr AO) : Bool := Bool.rec false (match dropQ l 24 with
    | [c, p, m, d] => Bool.rec false (Bool.rec false (Bool.rec false (isInt d 1) (isAnn (rowAt H m 1 78 4))) (isInts (rowAt H p 2 87 6) [0, 2, 2, 0, 5, 9])) (isInts (rowAt H c 1 3 1) [3])
    | _ => false) (isInts (takeQ l 24) seas)
def int1 (k : Int) : Value := .int .i64 k
def closedYard (n : Nat) : Value := .tuple #[.agg ((seas.map int1 ++ [.slice (some ⟨n, 0, none⟩) 2 unk, .slice (some ⟨n + 1, 0, none⟩) 2 unk, .slice (some ⟨n + 2, 0, none⟩) 1 unk, int1 1]).toArray), int1 0]
def closedRows : List AO := [.cells #[int1 2, int1 3] 3 none, .cells #[int1 0, int1 2, int1 2, int1 0, int1 5, int1 9] 87 none, .cells #[.string ⟨#[97, 110, 110]⟩, int1 0, int1 100, int1 4] 78 none]
noncomputable def extC (g : Nat) (args : Array Value) (H : Tr AO) (n : Nat) : Option (Value × List AO) := match args.toList with
  | [.agg y, d] => Bool.rec none (Bool.rec none (Bool.rec none (some (closedYard n, closedRows)) (isYard y.toList H)) (isInt d 2)) (Nat.beq g 20)
  | _ => none
noncomputable def fs : Tr FI := tree (mkFn Try.prog [87, 104, 122]) 133 .e
noncomputable def E1 : Env := ⟨Try.prog, tvs.get, fs.get, fun _ _ _ => none, fun _ _ _ => none, extC⟩
noncomputable def isTrueR (x : Option (Value × Tr AO × Nat)) : Bool := match x with | some (.bool b, _, _) => b | _ => false
end Go.Proofs.Ytjgnikmnadmheaa
