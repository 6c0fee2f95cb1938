/- crew.Close returns the yard of the law. -/
import Derived.Test.YtjgnikmnadmheaaS14
namespace Go.Proofs.Ytjgnikmnadmheaa
open Go.RowKit

theorem Close_any (C : Array Value) (Y : Yd) (d : Int) (w : World) (hY : YardAt w w.heap.size C Y) (hs : Small Y) : Calls Try.prog 20 #[.agg C, .int .i64 d] w (YardEnd (closeY Y d) (closeE Y d) w) := by
  unfold closeY closeE
  cases h : okY Y with
  | false =>
    have hn : chkY Y ≠ 0 := fun e => by unfold okY at h; rw [e] at h; cases h
    simp only [Bool.false_eq_true, if_false, hn]
    exact close_bad C Y d w hY hs h
  | true =>
    cases hd : inB d 0 100000 with
    | false => simp; exact close_day C Y d w hY hs h hd
    | true =>
      cases hc : Y.cl.contains d with
      | true => simp; exact close_twice C Y d w hY hs h hd hc
      | false =>
        by_cases hf : 200 ≤ Y.cl.length
        · simp only [Bool.false_eq_true, if_false, if_true, hf]; exact close_full C Y d w hY hs h hd hc hf
        · simp only [Bool.false_eq_true, if_false, if_true, hf]
          exact (close_ok C Y d w hY hs h hd hc hf).mono fun e w' ⟨C', h1, h2, h3, _⟩ => ⟨C', h1, h2, h3⟩
end Go.Proofs.Ytjgnikmnadmheaa
