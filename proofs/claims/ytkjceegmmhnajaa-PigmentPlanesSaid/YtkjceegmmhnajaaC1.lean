/- Reach, reckoned out by the second machine for each number of tints, where no choice of tints gives the shade: checkWant and recipe by their contracts. -/
import Derived.Test.YtkjceegmmhnajaaN1
namespace Go.Proofs.Ytkjceegmmhnajaa
open Go.RowKit

noncomputable def okI (n : Nat) (v : Value) : Bool := match v with
  | .int .i64 k => Int.rec (fun m => Nat.blt m n) (fun _ => false) k
  | _ => false
noncomputable def okArg (n : Nat) (v : Value) (H : Tr AO) : Bool := match v with
  | .slice (some ⟨b, o, none⟩) m _ => match H.get b with
    | some (.cells row e _) => Bool.rec false (Bool.rec false (Bool.rec false (Bool.rec false (allQ (okI n) (takeQ (dropQ row.toList o) m)) (Nat.ble (o + m) (lenQ row.toList))) (Nat.ble m 4)) (Nat.ble 1 m)) (Nat.beq e 3)
    | _ => false
  | _ => false
def tA (n : Nat) : Value := .slice (some ⟨0, 0, some 0⟩) n 0
def wA : Value := .agg #[.chan (some 2), .chan (some 3), .chan (some 4)]
noncomputable def isT (n : Nat) (v : Value) : Bool := match v with
  | .slice (some ⟨0, 0, some 0⟩) m 0 => Nat.beq m n
  | _ => false
noncomputable def isW (v : Value) : Bool := match v with
  | .agg c => match c.toList with
    | [.chan (some 2), .chan (some 3), .chan (some 4)] => true
    | _ => false
  | _ => false
noncomputable def extR (n g : Nat) (args : Array Value) (H : Tr AO) : Option Value := match args.toList with
  | [t, w] => Bool.rec none (Bool.rec none (Bool.rec none (some (.int .i64 0)) (isW w)) (isT n t)) (Nat.beq g 36)
  | [t, l, w] => Bool.rec none (Bool.rec none (Bool.rec none (Bool.rec none (some (.tuple #[.agg #[.slice none 0 0], .bool false])) (okArg n l H)) (isW w)) (isT n t)) (Nat.beq g 69)
  | _ => none
noncomputable def ER (n : Nat) : Env := ⟨Try.prog, tvs.get, fs.get, fun _ _ _ => none, extR n⟩
noncomputable def runR (n : Nat) : Option (Value × Tr AO × Nat) := callF (ER n) (exec (ER n) 100000) 5 15 #[tA n, wA] .e 5
noncomputable def noReach (x : Option (Value × Tr AO × Nat)) : Bool := match x with
  | some (.tuple a, _, _) => match a.toList with
    | [.agg c, .bool false, .int .i64 0] => match c.toList with
      | [.slice none 0 0] => true
      | _ => false
    | _ => false
  | _ => false
set_option maxRecDepth 100000 in
theorem runs_R : allQ (fun n => noReach (runR n)) [1, 2, 3, 4, 5, 6, 7] = true := by decide +kernel
end Go.Proofs.Ytkjceegmmhnajaa
