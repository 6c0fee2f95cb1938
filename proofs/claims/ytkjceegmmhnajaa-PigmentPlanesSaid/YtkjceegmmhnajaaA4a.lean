import Derived.Test.YtkjceegmmhnajaaA4
import Derived.ChangeKeysEq
namespace Go.Proofs.Ytkjceegmmhnajaa
open Go.RowKit

theorem info3 : (Try.prog.info? 3).map (fun i => (i.zero, i.size, i.bytes)) = some (some (.int .i64 0), 1, 8) := by kernel_rfl
theorem cells3 : Try.prog.cellsOf 3 = 1 := by kernel_rfl
theorem cells29 : Try.prog.cellsOf 29 = 2 := by kernel_rfl
theorem info29 : (Try.prog.info? 29).map (fun i => (i.zero, i.size, i.bytes)) = some (some (.agg #[.int .i64 0, .int .i64 0]), 2, 16) := by kernel_rfl

set_option maxRecDepth 100000 in
theorem eq84 (a b c x y z : Int) (w : World) : (Op.equalIn 10000 84 (.agg #[.int .i64 a, .int .i64 b, .int .i64 c]) (.agg #[.int .i64 x, .int .i64 y, .int .i64 z])).run Try.prog w = .ok (a == x && (b == y && c == z)) w := by
  obtain ⟨i0, hi0, hz0, hz1, hz2⟩ := info_parts info3
  rw [run_equalIn_array w 9999 _ _ Try.underlying84 hi0, cells3]
  simp [Op.eqItems, part, List.range_succ, go_sem, Try.underlying3]
  by_cases h1 : a = x <;> by_cases h2 : b = y <;> by_cases h3 : c = z <;> simp [h1, h2, h3]

theorem eq29 (d : Nat) (a b x y : Int) (w : World) : (Op.equalIn (d + 2) 29 (.agg #[.int .i64 a, .int .i64 b]) (.agg #[.int .i64 x, .int .i64 y])).run Try.prog w = .ok (a == x && b == y) w := by
  rw [run_equalIn_agg w (d + 1) 29 _ _ (by kernel_rfl) (by kernel_rfl)]
  simp [go_sem, Program.fieldsOf, Try.underlying29, Op.eqFields, part, Try.underlying3]
  by_cases g1 : a = x <;> by_cases g2 : b = y <;> simp [g1, g2]
set_option maxRecDepth 100000 in
theorem eq30 (a b c d e f a' b' c' d' e' f' : Int) (w : World) : (Op.equalIn 10000 30 (.agg #[.int .i64 a, .int .i64 b, .int .i64 c, .int .i64 d, .int .i64 e, .int .i64 f]) (.agg #[.int .i64 a', .int .i64 b', .int .i64 c', .int .i64 d', .int .i64 e', .int .i64 f'])).run Try.prog w = .ok ((a == a' && b == b') && ((c == c' && d == d') && (e == e' && f == f'))) w := by
  obtain ⟨i0, hi0, hz0, hz1, hz2⟩ := info_parts info29
  rw [run_equalIn_array w 9999 _ _ Try.underlying30 hi0, cells29]
  have e0 := fun a b x y w => eq29 9997 a b x y w
  simp [Op.eqItems, part, List.range_succ, go_sem, e0]
  by_cases g1 : a = a' <;> by_cases g2 : b = b' <;> by_cases g3 : c = c' <;> by_cases g4 : d = d' <;> by_cases g5 : e = e' <;> by_cases g6 : f = f' <;> simp [g1, g2, g3, g4, g5, g6]
end Go.Proofs.Ytkjceegmmhnajaa
