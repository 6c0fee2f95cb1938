import Derived.Test.YtjgnikmnadmheaaS1
namespace Go.Proofs.Ytjgnikmnadmheaa
open Go.RowKit
def seaI (d : Int) : Nat := (d % 360 / 30).toNat
theorem seaI_lt (d : Int) : seaI d < 12 := by unfold seaI; omega
theorem seaI_eq (d : Int) : d % 360 / 30 = (seaI d : Int) := by unfold seaI; omega
def PairEnd (a b : Int) (w : World) (e : Ending) (w' : World) : Prop := e = .returned (.agg #[.int .i64 a, .int .i64 b]) ∧ Below w.heap.size w w'
set_option maxHeartbeats 400000 in
theorem season_any (C : Array Value) (Y : Yd) (d : Int) (w : World) (hY : YardAt w w.heap.size C Y) (h0 : 0 ≤ d) (h1 : d ≤ 100000) : Calls Try.prog 105 #[.agg C, .int .i64 d] w (PairEnd (Y.se (2 * seaI d)) (Y.se (2 * seaI d + 1)) w) := by
  have hi := seaI_lt d
  have he := seaI_eq d
  have hs := hY.size
  have c0 : C[seaI d * 2]? = some (.int .i64 (Y.se (2 * seaI d))) := by rw [Nat.mul_comm]; exact hY.se _ (by omega)
  have c1 : C[seaI d * 2 + 1]? = some (.int .i64 (Y.se (2 * seaI d + 1))) := by rw [Nat.mul_comm]; exact hY.se _ (by omega)
  generalize seaI d = i at *
  generalize Y.se (2 * i) = a at *
  generalize Y.se (2 * i + 1) = b at *
  clear hY
  have hk : Bk ((w.alloc (.cells C 29)).alloc (.cells #[.int .i64 0, .int .i64 0] 23)) w.heap.size 29 C := (Bk.new w 29 C).alloc _
  have z0 := hk.cell _ c0
  have z1 := hk.cell _ c1
  have hn : (0 : Int) ≤ (i : Int) := by omega
  have hl : (i : Int) < 12 := by omega
  clear c0 c1 hk hs
  go_enter Try.func105, Try.ntmps105
  go_wp2
  exact bodyPost_ret (v := .agg #[.int .i64 a, .int .i64 b]) (by simp [results, Try.results105, go_sem]) rfl ⟨rfl, by exact (by repeat (first | with_reducible exact Below.refl _ _ | with_reducible assumption | with_reducible refine Below.drew ?_ | with_reducible refine below_drewN ?_ _ | (with_reducible refine Below.alloc ?_ ?_ _; rotate_left; (try simp) <;> omega) | (with_reducible refine Below.setCell ?_ ?_ _; rotate_left; (try simp) <;> omega)))⟩
end Go.Proofs.Ytjgnikmnadmheaa
