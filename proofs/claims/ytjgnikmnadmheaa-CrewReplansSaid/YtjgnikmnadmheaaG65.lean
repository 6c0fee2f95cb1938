/- slices.Clone at turns. -/
import Derived.Lib.SliceRun
import Derived.WalkSpells
import Derived.Test.YtjgnikmnadmheaaG02
import Derived.Test.YtjgnikmnadmheaaG61
import Derived.Test.YtjgnikmnadmheaaG63
import Derived.Test.YtjgnikmnadmheaaG64

namespace Go.Proofs.Ytjgnikmnadmheaa
open Go.RowKit Go.Shelf Go.Lib

set_option maxHeartbeats 400000 in
theorem clone_turns (l : List Tu) (A : Option Addr) (c : Nat) (w : World) (hl : Lies w w.heap.size A (turnsC l)) (hm : l.length ≤ 1000) : Calls Try.prog 118 #[.slice A l.length c] w (RowEnd 55 3 l.length (turnsC l) w) := by
  have hln : (turnsC l).length = l.length * 3 := turns_len l
  have q22 : ∀ (w : World) (a : Option Addr) (n c n' c' : Nat), (binOp .eql 40 (.slice a n c) (.slice none n' c')).run Try.prog w = .ok (.bool a.isNone) w := fun w a n c n' c' => Lib.run_eql_slice_nil w _ _ a n c n' c' Try.underlying40
  have u22 : ∀ w, Sem.run Try.prog (underlying 40) w = .ok (TypeDesc.slice 55) w := run_underlying Try.underlying40
  obtain ⟨i0, hi, hz0, hz1, hz2⟩ := info_parts info55
  have I := Lib.hid (And.intro hi (And.intro hz0 (And.intro hz1 hz2))); clear hi hz0 hz1 hz2
  cases A with
  | none =>
    have h0 : l = [] := Classical.byContradiction fun hne => by
      have : turnsC l ≠ [] := fun e => by rw [e] at hln; simp at hln; exact hne (List.length_eq_zero_iff.1 (by omega))
      obtain ⟨ad, e, _⟩ := hl this
      cases e
    subst h0
    clear hl hln
    go_enter Try.func118, Try.ntmps118
    go_wp2
    go_ret
    exact ⟨_, rfl, World.ownsRow_nil _ _ _ _, Below.refl _ _⟩
  | some ad =>
    have hcell : Hid (∀ j u, (turnsC l)[j]? = some u → w.cell? (ad.add j) = some u) := fun j u hu => by
      obtain ⟨ad2, e, _, hc⟩ := hl (by intro e; rw [e] at hu; simp at hu)
      cases e
      exact hc j u hu
    have HL := Lib.hid hln
    clear hl hln
    go_enter Try.func118, Try.ntmps118
    go_wp2_with (at_builtin; refine wpList_append_own _ rfl _ _ 40 rfl w.heap.size 55 i0 (.agg #[.int .i64 0, .int .i64 0, .int .i64 0]) 3 24 Try.underlying40 I.out.1 I.out.2.1 I.out.2.2.1 I.out.2.2.2 rfl (by decide) _ _ _ rfl (World.ownsRow_made w #[] 0 (Nat.le_refl _) (Nat.zero_le _) rfl) ad l.length c (turnsC l) rfl ?qc1 ?qc2 ?qc3 ?qc4 ?qc5 ?qc6 ?_)
    case qc1 => exact HL.out
    case qc2 => exact fun j u hj => Lib.cell?_alloc_some _ (hcell.out j u hj)
    case qc3 => exact one_turns l
    case qc4 => unfold maxLen; omega
    case qc5 => omega
    case qc6 => simp
    intro v' w1 hown hgrow hnil
    go_wp2
    go_ret
    exact ⟨v', rfl, by simpa using hown, ((Below.refl _ w).alloc (Nat.le_refl _) _).grown hgrow (by simp) (by intro k hk; simp [Value.ownBlock] at hk; omega)⟩


end Go.Proofs.Ytjgnikmnadmheaa

namespace Go.Proofs.Ytjgnikmnadmheaa
open Go.RowKit

/-- the days that suit the next task -/
def nextL (Y : Yd) (l : List Tk) (f : Int) (ds : List Int) : List Int := match l[ds.length]? with
  | some t => suitK Y t ds.length (lowS Y.dry f t.af ds) (f + 400 - lowS Y.dry f t.af ds).toNat
  | none => []
/-- the next day, where some days are fixed -/
def stepE (Y : Yd) (l : List Tk) (f : Int) (fx : Nat → Option Int) (ds : List Int) : Option Int := match fx ds.length with
  | some d => (match l[ds.length]? with
    | some t => if lowS Y.dry f t.af ds ≤ d ∧ d < f + 400 ∧ suitB Y t ds.length d = true then some d else none
    | none => none)
  | none => (nextL Y l f ds).head?
def est (Y : Yd) (l : List Tk) (f : Int) (fx : Nat → Option Int) : Nat → List Int → Option (List Int)
  | 0, ds => some ds
  | m + 1, ds => match stepE Y l f fx ds with
    | some d => est Y l f fx m (ds ++ [d])
    | none => none
def EstEnd (o : Option (List Int)) (w : World) (e : Ending) (w' : World) : Prop := match o with
  | none => e = .returned (.tuple #[.slice none 0 0, .bool false]) ∧ Below w.heap.size w w'
  | some L => ∃ v : Value, e = .returned (.tuple #[v, .bool true]) ∧ w'.ownsRow w.heap.size 3 1 v L.length (ints L) ∧ Below w.heap.size w w'
theorem est_zero (Y : Yd) (l : List Tk) (f : Int) (fx : Nat → Option Int) {ds : List Int} (h : ds.length = l.length) : est Y l f fx (l.length - ds.length) ds = some ds := by rw [h, Nat.sub_self]; rfl
theorem est_some {Y : Yd} {l : List Tk} {f : Int} {fx : Nat → Option Int} {ds : List Int} {d : Int} (h : ds.length < l.length) (hs : stepE Y l f fx ds = some d) : est Y l f fx (l.length - ds.length) ds = est Y l f fx (l.length - (ds ++ [d]).length) (ds ++ [d]) := by
  obtain ⟨m, hm⟩ : ∃ m, l.length - ds.length = m + 1 := ⟨l.length - ds.length - 1, by omega⟩
  have : l.length - (ds ++ [d]).length = m := by simp; omega
  rw [hm, this]
  show (match stepE Y l f fx ds with | some d => est Y l f fx m (ds ++ [d]) | none => none) = _
  rw [hs]
theorem est_none {Y : Yd} {l : List Tk} {f : Int} {fx : Nat → Option Int} {ds : List Int} (h : ds.length < l.length) (hs : stepE Y l f fx ds = none) : est Y l f fx (l.length - ds.length) ds = none := by
  obtain ⟨m, hm⟩ : ∃ m, l.length - ds.length = m + 1 := ⟨l.length - ds.length - 1, by omega⟩
  rw [hm]
  show (match stepE Y l f fx ds with | some d => est Y l f fx m (ds ++ [d]) | none => none) = _
  rw [hs]
theorem suitK_mem {Y : Yd} {t : Tk} {i : Nat} {d0 x : Int} {k : Nat} (h : x ∈ suitK Y t i d0 k) : d0 ≤ x ∧ x < d0 + (k : Int) ∧ suitB Y t i x = true := by
  unfold suitK at h
  rw [List.mem_filter, List.mem_map] at h
  obtain ⟨⟨j, h1, rfl⟩, h2⟩ := h
  rw [List.mem_range] at h1
  exact ⟨by omega, by omega, h2⟩
theorem nextL_at {Y : Yd} {l : List Tk} {f : Int} {ds : List Int} (h : ds.length < l.length) : nextL Y l f ds = suitK Y l[ds.length] ds.length (lowS Y.dry f l[ds.length].af ds) (f + 400 - lowS Y.dry f l[ds.length].af ds).toNat := by
  unfold nextL; rw [List.getElem?_eq_getElem h]
theorem nextL_mem {Y : Yd} {l : List Tk} {f x : Int} {ds : List Int} (h : ds.length < l.length) (hx : x ∈ nextL Y l f ds) : lowS Y.dry f l[ds.length].af ds ≤ x ∧ x < f + 400 ∧ suitB Y l[ds.length] ds.length x = true := by
  rw [nextL_at h] at hx
  have := suitK_mem hx
  refine ⟨this.1, ?_, this.2.2⟩
  omega

theorem look_nil (k : Int) (w : World) : (Instr.lookup 108 (.map none) (.int .i64 k) true).run Try.prog w = .ok (.tuple #[.int .i64 0, .bool false]) w := by kernel_rfl

set_option maxRecDepth 100000 in
set_option maxHeartbeats 1000000 in
theorem earliest_nil (bj : Nat) (C : Array Value) (Y : Yd) (l : List Tk) (A : Option Addr) (c : Nat) (f : Int) (days : List Int) (D : Option Addr) (cd : Nat) (w : World) (hj : JobAt w w.heap.size bj C Y l A c f) (hv : Valid Y) (ht : ValidT l) (hm : tame l) (hf : 0 ≤ f ∧ f ≤ 100000)
    (hD : Lies w w.heap.size D (ints days)) (hn : days.length ≤ l.length) (hd : ∀ x ∈ days, -1000 ≤ x ∧ x ≤ 200000) :
    Calls Try.prog 83 #[.pointer (some ⟨bj, 0, none⟩), .slice D days.length cd, .map none] w (EstEnd (est Y l f (fun _ => none) (l.length - days.length) days) w) := by
  have hlj := hj.lt
  have hl12 := ht.n
  have HJ := Lib.hid (fun W (hb : Below w.heap.size w W) => (hj.below hb (Nat.le_refl _)))
  have HCL := Lib.hid (clone_ints days D cd w hD (by omega))
  have HLO : Hid (∀ W : World, Below w.heap.size w W → ∀ (ds : List Int) (v : Value) (A2 : Option Addr) (c2 : Nat) (h : ds.length < l.length), W.ownsRow w.heap.size 3 1 (.slice A2 ds.length c2) ds.length (ints ds) → (∀ x ∈ ds, -1000 ≤ x ∧ x ≤ 200000) → Calls Try.prog 96 #[.pointer (some ⟨bj, 0, none⟩), .slice A2 ds.length c2] W (IntEnd (lowS Y.dry f l[ds.length].af ds) W)) :=
    fun W hb ds v A2 c2 h ho hx => lower_any bj C Y l A c f ds A2 c2 W ((hj.below hb (Nat.le_refl _)).more hb.size) hv ht hm hf (ownsRow_lies ho) h hx
  have HFI : Hid (∀ W : World, Below w.heap.size w W → ∀ (ds : List Int) (h : ds.length < l.length) (d : Int), 0 ≤ d ∧ d ≤ 1000000 → Calls Try.prog 117 #[.pointer (some ⟨bj, 0, none⟩), .int .i64 ds.length, .int .i64 d] W (FirstEnd (suitK Y l[ds.length] ds.length d (f + 400 - d).toNat) W)) :=
    fun W hb ds h d hd => first_any bj C Y l A c ds.length f d W ((hj.below hb (Nat.le_refl _)).more hb.size) hv hm.1 h hf hd
  have HLB : Hid (∀ (ds : List Int) (h : ds.length < l.length), (∀ x ∈ ds, -1000 ≤ x ∧ x ≤ 200000) → f ≤ lowS Y.dry f l[ds.length].af ds ∧ lowS Y.dry f l[ds.length].af ds ≤ 200031) := fun ds h hx => lowK_bd hf hv.dry hx _ (Nat.le_refl _)
  have c28 := hj.tasks
  have HB := Lib.hid hd
  generalize hE : est Y l f (fun _ => none) (l.length - days.length) days = E at *
  have HE := Lib.hid hE
  obtain ⟨i0, hi0, hz0, hz1, hz2⟩ := info_parts info3
  have I3 := Lib.hid (And.intro hi0 (And.intro hz0 (And.intro hz1 hz2))); clear hi0 hz0 hz1 hz2
  clear hj hv ht hm hD hd hE
  have hlI : (l.length : Int) ≤ 12 := by omega
  go_enter Try.func83, Try.ntmps83
  go_wp2_with (go_at_call 78; refine HCL.out.mono ?_; rintro e w1 ⟨v1, rfl, ho1, hb1⟩; obtain ⟨A1, c1, rfl, _, _⟩ := ownsSlice ho1)
  go_loopw [1, 8] (fun v y wr => ∃ ds : List Int, days.length ≤ ds.length ∧ ds.length ≤ l.length ∧ y = .int .i64 ds.length ∧ wr.ownsRow w.heap.size 3 1 v ds.length (ints ds) ∧ Hid (est Y l f (fun _ => none) (l.length - ds.length) ds = E) ∧ Hid (∀ x ∈ ds, -1000 ≤ x ∧ x ≤ 200000) ∧ Below w.heap.size w wr) (fun _ y _ => l.length - (intOf y).toNat)
  case atStart => exact ⟨days, Nat.le_refl _, hn, rfl, ho1, HE, HB, hb1⟩
  case round =>
  clear ho1 hb1
  obtain ⟨ds, hn1, hn2, rfl, hown, HEd, HBd, hbw⟩ := hrel
  obtain ⟨A2, c2, rfl, _, _⟩ := ownsSlice hown
  have hbs := hbw.size
  have b28 := (HJ.out wr hbw).tasks
  by_cases hlt : ds.length < l.length
  · have hltI : (ds.length : Int) < (l.length : Int) := by omega
    have hds0 : 0 ≤ (ds.length : Int) := by omega
    have HL1 := Lib.hid (HLO.out wr hbw ds (.slice A2 ds.length c2) A2 c2 hlt hown HBd.out)
    have hlb := HLB.out ds hlt HBd.out
    have HFI1 := Lib.hid (fun W hb => HFI.out W hb ds hlt)
    have HNL := Lib.hid (nextL_at (f := f) (Y := Y) hlt)
    have HNM := Lib.hid (fun x => nextL_mem (Y := Y) (f := f) (x := x) hlt)
    have HS1 := Lib.hid (fun d (h : stepE Y l f (fun _ => none) ds = some d) => est_some hlt h)
    have HS0 := Lib.hid (fun (h : stepE Y l f (fun _ => none) ds = none) => est_none hlt h)
    have HST : Hid (stepE Y l f (fun _ => none) ds = (nextL Y l f ds).head?) := rfl
    generalize l[ds.length] = t at *
    generalize lowS Y.dry f t.af ds = low at *
    obtain ⟨hlb1, hlb2⟩ := hlb
    have hlk := look_nil
    cases hN : nextL Y l f ds with
    | nil =>
      have HEE : Hid (E = none) := by
        show _ = _
        rw [← HEd.out]; exact HS0.out (by rw [HST.out, hN]; rfl)
      rw [hN] at HNL
      clear HS1 HS0 HST hN HNM
      go_wp2_with (first | (go_at_call 96; refine HL1.out.mono ?_; rintro e w3 ⟨rfl, hb3⟩; have hB3 : Below w.heap.size w w3 := hbw.trans (hb3.mono hbs)) | (go_at_call 117; refine (HFI1.out _ hB3 low (by omega)).mono ?_; rintro e w4 ⟨rfl, hb4⟩; rw [← HNL.out]; have hB4 : Below w.heap.size w w4 := hB3.trans (hb4.mono hB3.size)))
      go_ret2
      rw [HEE.out]
      exact ⟨rfl, hB4⟩
    | cons x r =>
      have hx := HNM.out x (by rw [hN]; exact List.mem_cons_self ..)
      have HEE : Hid (est Y l f (fun _ => none) (l.length - (ds ++ [x]).length) (ds ++ [x]) = E) := by
        show _ = _
        rw [← HEd.out]; exact (HS1.out x (by rw [HST.out, hN]; rfl)).symm
      have HXB : Hid (∀ y ∈ ds ++ [x], -1000 ≤ y ∧ y ≤ 200000) := fun y hy => by
        rcases List.mem_append.1 hy with h | h
        · exact HBd.out y h
        · rw [List.mem_singleton.1 h]; omega
      rw [hN] at HNL
      clear HS1 HS0 HST hN HNM hx
      go_wp2_with (first | (go_at_call 96; refine HL1.out.mono ?_; rintro e w3 ⟨rfl, hb3⟩; have hB3 : Below w.heap.size w w3 := hbw.trans (hb3.mono hbs)) | (go_at_call 117; refine (HFI1.out _ hB3 low (by omega)).mono ?_; rintro e w4 ⟨rfl, hb4⟩; rw [← HNL.out]; have hB4 : Below w.heap.size w w4 := hB3.trans (hb4.mono hB3.size); have hown4 := ownsRow_below hown (hb3.trans (hb4.mono hb3.size)) (Nat.le_refl _); have hz4 := hB4.size) | (at_builtin; refine wpList_append_own _ rfl (.tmp 66) (.tmp 68) 25 rfl (w.heap.size) 3 i0 (.int .i64 0) 1 8 Try.underlying25 I3.out.1 I3.out.2.1 I3.out.2.2.1 I3.out.2.2.2 rfl (by decide) _ ds.length (ints ds) rfl (hown4.alloc _) ⟨w4.heap.size, 0, none⟩ 1 1 [.int .i64 x] rfl rfl ?_ ?_ ?_ ?_ ?_ ?_; (exact cell_one_new _ _ _); (intro u hu; simp at hu; subst hu; rfl); (unfold maxLen; omega); (omega); (have := hB4.size; simp; omega); intro v5 w5 hown5 hgrow5 _; have hB5 : Below w.heap.size w w5 := below_own (by exact (by repeat (first | with_reducible exact Below.refl _ _ | with_reducible assumption | with_reducible refine Below.drew ?_ | with_reducible refine below_drewN ?_ _ | (with_reducible refine Below.alloc ?_ ?_ _; rotate_left; (try simp) <;> omega) | (with_reducible refine Below.setCell ?_ ?_ _; rotate_left; (try simp) <;> omega)))) (hown4.alloc _) hgrow5 (Nat.le_refl _) (by have := hB4.size; simp; omega); clear hgrow5))
      rw [ints_snoc] at hown5
      have hlen : Hid (ds.length + 1 = (ds ++ [x]).length) := by show _ = _; simp
      rw [hlen.out] at hown5
      go_wp2
      go_roundw
      case rel => exact ⟨ds ++ [x], by simp; omega, by simp; omega, by rw [← hlen.out]; go_num, hown5, HEE, HXB, hB5⟩
      case measure => simp [intOf]; omega
  · have hn3 : ds.length = l.length := by omega
    have HEE : Hid (E = some ds) := by show _ = _; rw [← HEd.out]; exact est_zero Y l f _ hn3
    have HN3 := Lib.hid hn3; clear hn3
    go_wp2
    go_ret2
    rw [HEE.out]
    exact ⟨_, rfl, hown, hbw⟩
end Go.Proofs.Ytjgnikmnadmheaa

namespace Go.Proofs.Ytjgnikmnadmheaa
open Go.RowKit

theorem own_ne_type {w : World} {base e size n g t : Nat} {v : Value} {xs : List Value} {C : Array Value} (ho : w.ownsRow base e size v n xs) (hk : Bk w g t C) (h : t ≠ e) : some g ≠ v.ownBlock := by
  rcases ho.2 with ⟨rfl, _⟩ | ⟨g', cap, cur, rfl, _, h3, _⟩
  · simp [Value.ownBlock]
  · intro e
    simp only [Value.ownBlock, Option.some.injEq] at e
    subst e
    unfold Bk at hk
    rw [hk] at h3
    cases h3
    exact h rfl
theorem own_ne_map {w : World} {base e size n g k sz : Nat} {v : Value} {xs : List Value} {f : Int → Option Int} (ho : w.ownsRow base e size v n xs) (hk : MapC w g k sz f) : some g ≠ v.ownBlock := by
  obtain ⟨D, ⟨es, clock, h1, _⟩, _⟩ := hk.out
  rcases ho.2 with ⟨rfl, _⟩ | ⟨g', cap, cur, rfl, _, h3, _⟩
  · simp [Value.ownBlock]
  · intro e
    simp only [Value.ownBlock, Option.some.injEq] at e
    subst e
    rw [h1] at h3
    cases h3
theorem own_grown {w w' : World} {base e size n : Nat} {v : Value} {xs : List Value} {row : Option Nat} (ho : w.ownsRow base e size v n xs) (hg : w.grownBy w' row) (hne : ∀ g, row = some g → some g ≠ v.ownBlock) : w'.ownsRow base e size v n xs := by
  refine ⟨ho.1, ?_⟩
  rcases ho.2 with h2 | ⟨g', cap, cur, h1, h2, h3, h4⟩
  · exact .inl h2
  · refine .inr ⟨g', cap, cur, h1, h2, (hg.block g' (Array.getElem?_eq_some_iff.1 h3).1 ?_).trans h3, h4⟩
    intro e
    exact hne g' e.symm (by rw [h1]; rfl)
theorem map_ne_bk {w : World} {g b k sz t : Nat} {f : Int → Option Int} {C : Array Value} (hk : MapC w g k sz f) (hb : Bk w b t C) : b ≠ g := by
  obtain ⟨D, ⟨es, clock, h1, _⟩, _⟩ := hk.out
  intro e
  subst e
  unfold Bk at hb
  rw [h1] at hb
  cases hb
theorem Far.refl (w : World) (b : Nat) : Far w w b := ⟨rfl, fun _ _ => rfl, fun _ _ _ h => h⟩
theorem Far.drew {w w' : World} {b : Nat} (h : Far w w' b) : Far w w'.drew b := ⟨h.size, h.blk, fun B a hB hb => (h.bel B a hB hb).drew⟩
theorem Far.trans {w w' w'' : World} {b : Nat} (h : Far w w' b) (k : Far w' w'' b) : Far w w'' b := ⟨k.size.trans h.size, fun g hg => (k.blk g hg).trans (h.blk g hg), fun B a hB hb => k.bel B a hB (h.bel B a hB hb)⟩
theorem Far.setCell {w w' : World} {b : Nat} (h : Far w w' b) (o : Nat) (v : Value) : Far w (w'.setCell ⟨b, o, none⟩ v) b := h.trans (far_setCells b [v] o w')
theorem own_far {w w' : World} {b base e size n : Nat} {v : Value} {xs : List Value} (h : Far w w' b) (ho : w.ownsRow base e size v n xs) (hne : some b ≠ v.ownBlock) : w'.ownsRow base e size v n xs := by
  refine ⟨ho.1, ?_⟩
  rcases ho.2 with h2 | ⟨g, cap, cur, h1, h2, h3, h4⟩
  · exact .inl h2
  · refine .inr ⟨g, cap, cur, h1, h2, (h.blk g (fun e => hne ?_)).trans h3, h4⟩
    rw [h1, e]; rfl
theorem own_fresh {w : World} {b base e size n : Nat} {v : Value} {xs : List Value} (ho : w.ownsRow base e size v n xs) (hb : w.heap.size ≤ b) : some b ≠ v.ownBlock := fun e => by
  have := own_lt ho b e.symm
  omega
theorem MapC.far {w w' : World} {b g n sz : Nat} {f : Int → Option Int} (h : MapC w g n sz f) (hf : Far w w' b) (hne : g ≠ b) : MapC w' g n sz f := by
  obtain ⟨D, ⟨es, clock, h1, h4⟩, h0, h2⟩ := h.out
  exact ⟨⟨D, ⟨es, clock, (hf.blk g hne).trans h1, h4⟩, h0, h2⟩⟩
/-- how often each pit is used -/
def gOf (ts : List Tu) : Int → Option Int := fun x => if cntP ts x = 0 then none else some (cntP ts x)
theorem gOf_get (ts : List Tu) (x : Int) : (gOf ts x).getD 0 = cntP ts x := by unfold gOf; split <;> simp_all
theorem gOf_nil : gOf [] = gNone := by funext x; unfold gOf gNone cntP; simp
theorem gOf_snoc (ts : List Tu) (t : Tu) : gPut (gOf ts) t.pit (cntP ts t.pit + 1) = gOf (ts ++ [t]) := by
  funext x
  unfold gPut gOf
  rw [cntP_snoc]
  have := cntP_bd ts x
  by_cases h : x = t.pit
  · subst h; rw [if_pos rfl, if_pos rfl, if_neg (by omega)]
  · have h2 : ¬ t.pit = x := fun e => h e.symm
    rw [if_neg h]; simp only [h2, if_false]
/-- the first pit that serves, of those below k; -1: there is none -/
def pitK (pi : List Pit) (ts : List Tu) (d : Int) (k : Nat) : Int := match (List.range k).find? (pitOK pi ts d) with
  | some i => (i : Int)
  | none => -1
theorem pitK_succ (pi : List Pit) (ts : List Tu) (d : Int) (k : Nat) : pitK pi ts d (k + 1) = if pitK pi ts d k < 0 ∧ pitOK pi ts d k = true then (k : Int) else pitK pi ts d k := by
  unfold pitK
  rw [List.range_succ, List.find?_append]
  cases h : (List.range k).find? (pitOK pi ts d) with
  | some i => simp; omega
  | none =>
    cases h2 : pitOK pi ts d k <;> simp [h2]
theorem pitK_bd (pi : List Pit) (ts : List Tu) (d : Int) (k : Nat) : -1 ≤ pitK pi ts d k ∧ pitK pi ts d k < k := by
  unfold pitK
  cases h : (List.range k).find? (pitOK pi ts d) with
  | some i =>
    have := List.mem_of_find?_eq_some h
    rw [List.mem_range] at this
    dsimp only; omega
  | none => dsimp only; omega
theorem pitK_end (pi : List Pit) (ts : List Tu) (d : Int) : pitK pi ts d pi.length = pitOf pi ts d := rfl

set_option maxRecDepth 100000 in
set_option maxHeartbeats 1000000 in
theorem plan_any (bj : Nat) (C : Array Value) (Y : Yd) (l : List Tk) (A : Option Addr) (c : Nat) (f : Int) (stay : List Tu) (T : Option Addr) (ct : Nat) (days : List Int) (D : Option Addr) (cd : Nat) (w : World) (hj : JobAt w w.heap.size bj C Y l A c f) (hv : Valid Y)
    (hT : Lies w w.heap.size T (turnsC stay)) (hp : ∀ t ∈ stay, i64v t.pit) (hD : Lies w w.heap.size D (ints days)) (hn : days.length ≤ l.length) (hl : l.length ≤ 12) (hs : stay.length ≤ 20) :
    Calls Try.prog 84 #[.pointer (some ⟨bj, 0, none⟩), .slice T stay.length ct, .slice D days.length cd] w (PlanEnd (usual Y l stay days) w) := by
  have hlj := hj.lt
  have HJ := Lib.hid (fun W (hb : Below w.heap.size w W) => hj.below hb (Nat.le_refl _))
  have HCL := Lib.hid (fun W (hb : Below w.heap.size w W) => clone_turns stay T ct W ((hT.below hb (Nat.le_refl _)).more hb.size) (by omega))
  have HTT := Lib.hid (fun W (hb : Below w.heap.size w W) => hT.below hb (Nat.le_refl _))
  have HPB : Hid (∀ k (hk : k < stay.length), i64v stay[k].pit) := fun k hk => hp _ (List.getElem_mem hk)
  obtain ⟨i0, hi0, hz0, hz1, hz2⟩ := info_parts info55
  have I5 := Lib.hid (And.intro hi0 (And.intro hz0 (And.intro hz1 hz2))); clear hi0 hz0 hz1 hz2
  have hmm := @run_makeMap Try.prog
  obtain ⟨Ap, kp, e2, L2⟩ := hj.yat.pi
  obtain ⟨Am, km_, e3, L3⟩ := hj.yat.ma
  have h28 := hj.yat.size
  have HPP := Lib.hid hv.pi
  have hm8 := hv.n2
  have hm12 := hv.n3
  have HL2 := Lib.hid (fun W (hb : Below w.heap.size w W) => L2.below hb (Nat.le_refl _))
  have HL3 := Lib.hid (fun W (hb : Below w.heap.size w W) => L3.below hb (Nat.le_refl _))
  have HLT := Lib.hid (fun W (hb : Below w.heap.size w W) => hj.tat.at_.below hb (Nat.le_refl _))
  have HDD := Lib.hid (fun W (hb : Below w.heap.size w W) => hD.below hb (Nat.le_refl _))
  have HSK := Lib.hid (fun W (hb : Below w.heap.size w W) (d need : Int) => skilled_any C Y d need W ((hj.yat.below hb (Nat.le_refl _)).more hb.size) hv)
  have HC25 : Hid (∀ W : World, Below w.heap.size w W → W.cell? ⟨bj, 25, none⟩ = some (.slice Ap Y.pi.length kp)) := fun W hb => (hj.below hb (Nat.le_refl _)).blk.cell 25 (by rw [Array.getElem?_append_left (by omega)]; exact e2)
  have HC26 : Hid (∀ W : World, Below w.heap.size w W → W.cell? ⟨bj, 26, none⟩ = some (.slice Am Y.ma.length km_)) := fun W hb => (hj.below hb (Nat.le_refl _)).blk.cell 26 (by rw [Array.getElem?_append_left (by omega)]; exact e3)
  clear L2 L3 e2 e3 hD hT hj hv
  generalize hE : usual Y l stay days = E at *
  have HE := Lib.hid hE; clear hE hp
  go_enter Try.func84, Try.ntmps84
  go_upto_region 3 with (go_at_call 118; refine (HCL.out _ (by exact (by repeat (first | with_reducible exact Below.refl _ _ | with_reducible assumption | with_reducible refine Below.drew ?_ | with_reducible refine below_drewN ?_ _ | (with_reducible refine Below.alloc ?_ ?_ _; rotate_left; (try simp) <;> omega) | (with_reducible refine Below.setCell ?_ ?_ _; rotate_left; (try simp) <;> omega))))).mono ?_; rintro e w1 ⟨v1, rfl, ho1, hb1⟩; obtain ⟨A1, c1, rfl, _, _⟩ := ownsSlice ho1; have hB1 : Below w.heap.size w w1 := Below.trans (by exact (by repeat (first | with_reducible exact Below.refl _ _ | with_reducible assumption | with_reducible refine Below.drew ?_ | with_reducible refine below_drewN ?_ _ | (with_reducible refine Below.alloc ?_ ?_ _; rotate_left; (try simp) <;> omega) | (with_reducible refine Below.setCell ?_ ?_ _; rotate_left; (try simp) <;> omega)))) (hb1.mono (by simp)); have h61 : Bk w1 w.heap.size 42 #[.slice none 0 0] := Bk.below (by exact (by repeat (first | with_reducible assumption | with_reducible exact Bk.new _ _ _ | with_reducible refine Bk.drew ?_ | with_reducible refine Bk.drewN ?_ _ | with_reducible refine Bk.alloc ?_ _ | (with_reducible refine Bk.far ?_ ?_ _; rotate_left; (try simp) <;> omega)))) hb1 (by simp); clear hb1)
  have ho2 := ownsRow_base (b' := w.heap.size + 1) ho1 (by simp)
  have hz1 := h61.lt
  have k7 : Bk ((w1.alloc (.cells #[.slice A1 stay.length c1] 42)).alloc (.map #[] 0)) w1.heap.size 42 #[.slice A1 stay.length c1] := (Bk.new _ _ _).alloc _
  have k6 : Bk ((w1.alloc (.cells #[.slice A1 stay.length c1] 42)).alloc (.map #[] 0)) w.heap.size 42 #[.slice none 0 0] := (h61.alloc _).alloc _
  have km : MapC ((w1.alloc (.cells #[.slice A1 stay.length c1] 42)).alloc (.map #[] 0)) (w1.heap.size + 1) 0 0 gNone := by simpa using MapC.made (w1.alloc (.cells #[.slice A1 stay.length c1] 42))
  have ko : ((w1.alloc (.cells #[.slice A1 stay.length c1] 42)).alloc (.map #[] 0)).ownsRow (w.heap.size + 1) 55 3 (.slice A1 stay.length c1) stay.length (turnsC stay) := (ho2.alloc _).alloc _
  have kb : Below w.heap.size w ((w1.alloc (.cells #[.slice A1 stay.length c1] 42)).alloc (.map #[] 0)) := by exact (by repeat (first | with_reducible exact Below.refl _ _ | with_reducible assumption | with_reducible refine Below.drew ?_ | with_reducible refine below_drewN ?_ _ | (with_reducible refine Below.alloc ?_ ?_ _; rotate_left; (try simp) <;> omega) | (with_reducible refine Below.setCell ?_ ?_ _; rotate_left; (try simp) <;> omega)))
  rw [← gOf_nil] at km
  generalize (w1.alloc (.cells #[.slice A1 stay.length c1] 42)).alloc (.map #[] 0) = w2 at *
  have hb7 : w.heap.size < w1.heap.size := by omega
  clear ho1 ho2 h61 hB1
  generalize w1.heap.size = b7 at *
  have hb8 : b7 + 1 < w2.heap.size := km.lt
  go_wp2
  go_loopw [24] (fun y wr => ∃ (k n sz : Nat), k ≤ stay.length ∧ n ≤ k ∧ y = .int .i64 k ∧ MapC wr (b7 + 1) n sz (gOf (stay.take k)) ∧ wr.ownsRow (w.heap.size + 1) 55 3 (.slice A1 stay.length c1) stay.length (turnsC stay) ∧ Below w.heap.size w wr ∧ (Bk wr w.heap.size 42 #[.slice none 0 0] ∧ Bk wr b7 42 #[.slice A1 stay.length c1])) (fun y _ => stay.length - (intOf y).toNat)
  case atStart => exact ⟨0, 0, 0, by omega, by omega, rfl, km, ko, kb, k6, k7⟩
  case round =>
  clear km ko kb k6 k7 hb8
  obtain ⟨k, n, sz, hk, hnk, rfl, hm, hown, hbw, h6, h7⟩ := hrel
  have hml := hm.lt
  have h7l := h7.lt
  by_cases hlt : k < stay.length
  · obtain ⟨a1, rfl, ha1, t0, t1, t2⟩ := turn_at (HTT.out wr hbw) hlt
    have hq := HPB.out k hlt
    have hcb := cntP_bd (stay.take k) stay[k].pit
    have htl : (stay.take k).length ≤ k := List.length_take_le _ _
    have HSN : Hid (gPut (gOf (stay.take k)) stay[k].pit (cntP (stay.take k) stay[k].pit + 1) = gOf (stay.take (k + 1))) := by
      show _ = _
      rw [List.take_succ_eq_append_getElem hlt, gOf_snoc]
    have HGG := Lib.hid (gOf_get (stay.take k) stay[k].pit)
    generalize stay[k] = t at *
    obtain ⟨td, tp, tm⟩ := t
    dsimp only at *
    have hm1 := hm.alloc (.cells #[.int .i64 td, .int .i64 tp, .int .i64 tm] 55)
    have hlk := hm1.look hq
    rw [HGG.out] at hlk
    generalize cntP (stay.take k) tp = cn at *
    obtain ⟨hcb0, hcb1⟩ := hcb
    obtain ⟨w5, hrun, hm5, hg5⟩ := hm1.put (by unfold maxLen; omega) hq (v := cn + 1) (by unfold i64v; omega)
    rw [HSN.out] at hm5
    have hB5 : Below w.heap.size w w5 := Below.grown (by exact (by repeat (first | with_reducible exact Below.refl _ _ | with_reducible assumption | with_reducible refine Below.drew ?_ | with_reducible refine below_drewN ?_ _ | (with_reducible refine Below.alloc ?_ ?_ _; rotate_left; (try simp) <;> omega) | (with_reducible refine Below.setCell ?_ ?_ _; rotate_left; (try simp) <;> omega)))) hg5 (by simp; omega) (fun k e => by cases e; omega)
    have hown5 := own_grown (hown.alloc (.cells #[.int .i64 td, .int .i64 tp, .int .i64 tm] 55)) hg5 (fun g e => by cases e; exact own_ne_map hown hm)
    have h65 := (h6.alloc (.cells #[.int .i64 td, .int .i64 tp, .int .i64 tm] 55)).grown hg5 (by simp; omega)
    have h75 := (h7.alloc (.cells #[.int .i64 td, .int .i64 tp, .int .i64 tm] 55)).grown hg5 (by simp)
    have hkI : (k : Int) < (stay.length : Int) := by omega
    have hk0 : 0 ≤ (k : Int) := by omega
    go_wp2
    go_roundw
    case rel => exact ⟨k + 1, n + 1, _, by omega, by omega, by go_num, hm5, hown5, hB5, h65, h75⟩
    case measure => simp [intOf]; omega
  · obtain rfl : k = stay.length := by omega
    rw [List.take_length] at hm
    clear hlt hk
    go_wp2
    go_loopw [11] (fun y wr => ∃ (ts : List Tu) (n sz : Nat) (A2 : Option Addr) (c2 : Nat), ts.length ≤ 20 ∧ n ≤ 20 + ts.length ∧ y = .int .i64 ts.length ∧ MapC wr (b7 + 1) n sz (gOf ts) ∧ wr.ownsRow (w.heap.size + 1) 55 3 (.slice A2 ts.length c2) ts.length (turnsC ts) ∧ Hid (usual Y l ts days = E) ∧ Below w.heap.size w wr ∧ (Bk wr w.heap.size 42 #[.slice none 0 0] ∧ Bk wr b7 42 #[.slice A2 ts.length c2])) (fun y _ => days.length - (intOf y).toNat)
    case atStart => exact ⟨stay, n, sz, A1, c1, hs, by omega, rfl, hm, hown, HE, hbw, h6, h7⟩
    case round =>
    clear hm hown hbw h6 h7 HTT HPB hml h7l hnk HE HCL
    obtain ⟨ts, n, sz, A2, c2, hts, hn40, rfl, hm, hown, HU, hbw, h6, h7⟩ := hrel
    generalize wr = wo at *
    have hml := hm.lt
    by_cases hlt : ts.length < days.length
    · obtain ⟨a1, rfl, ha1, d0⟩ := int_at (HDD.out wo hbw) hlt
      have HST := Lib.hid (usual_step (Y := Y) (l := l) hlt)
      rw [usualT_at hlt (by omega)] at HST
      have HNL := Lib.hid (show ts.length < l.length by omega)
      generalize days[ts.length] = d at *
      have c25 := HC25.out wo hbw
      have hbjr : bj < wo.heap.size := by have := hbw.size; omega
      have HPK := Lib.hid (fun i => pitK_succ Y.pi ts d i)
      have HPD := Lib.hid (fun i => pitK_bd Y.pi ts d i)
      have HPE : Hid (pitK Y.pi ts d Y.pi.length = pitOf Y.pi ts d) := pitK_end Y.pi ts d
      have HPA := Lib.hid (fun i (hi : i < Y.pi.length) => pitOK_at (ts := ts) (d := d) hi)
      have HP0 : Hid (pitK Y.pi ts d 0 = -1) := rfl
      generalize pitK Y.pi ts d = PK at *
      have hnI : (ts.length : Int) < (days.length : Int) := by omega
      have hn0 : 0 ≤ (ts.length : Int) := by omega
      have kt : Bk (wo.alloc (.cells #[.int .i64 d, .int .i64 (-1), .int .i64 (-1)] 55)) wo.heap.size 55 #[.int .i64 d, .int .i64 (-1), .int .i64 (-1)] := Bk.new _ _ _
      have kb : Below wo.heap.size wo (wo.alloc (.cells #[.int .i64 d, .int .i64 (-1), .int .i64 (-1)] 55)) := by exact (by repeat (first | with_reducible exact Below.refl _ _ | with_reducible assumption | with_reducible refine Below.drew ?_ | with_reducible refine below_drewN ?_ _ | (with_reducible refine Below.alloc ?_ ?_ _; rotate_left; (try simp) <;> omega) | (with_reducible refine Below.setCell ?_ ?_ _; rotate_left; (try simp) <;> omega)))
      go_wp2
      go_loopw [54] (fun y wr => ∃ i : Nat, i ≤ Y.pi.length ∧ y = .int .i64 i ∧ Bk wr wo.heap.size 55 #[.int .i64 d, .int .i64 (PK i), .int .i64 (-1)] ∧ Below wo.heap.size wo wr) (fun y _ => Y.pi.length - (intOf y).toNat)
      case atStart => exact ⟨0, by omega, rfl, by rw [HP0.out]; exact kt, kb⟩
      case round =>
      clear kt kb
      obtain ⟨i, hi, rfl, kt, kb⟩ := hrel
      have hktl := kt.lt
      have hkf := kt.fro 1
      have y1 := kt.cell 1 rfl
      have hB : Below w.heap.size w wr := hbw.trans (kb.mono hbw.size)
      by_cases hit : i < Y.pi.length
      · obtain ⟨a2, rfl, ha2, p0, p1, p2⟩ := pit_at (HL2.out wr hB) hit
        obtain ⟨⟨q1, q2⟩, ⟨q3, q4⟩, q5, q6⟩ := HPP.out _ (List.getElem_mem hit)
        have HK1 := Lib.hid (HPK.out i)
        have HK2 := Lib.hid (HPA.out i hit)
        have hkd := HPD.out i
        have HA := Lib.hid (fun W => aged_any Y.pi[i] d W ⟨q1, q2⟩ ⟨q3, q4⟩)
        have hmx := hm.below kb hml
        have hiv : i64v (i : Int) := by unfold i64v; omega
        have HGG := Lib.hid (gOf_get ts (i : Int))
        generalize pitOK Y.pi ts d i = ok at *
        generalize agedB Y.pi[i] d = ag at *
        generalize Y.pi[i] = p at *
        obtain ⟨ps, pa, pb⟩ := p
        dsimp only at *
        generalize PK i = q at *
        have hi0 : 0 ≤ (i : Int) := by omega
        have hiI : (i : Int) < (Y.pi.length : Int) := by omega
        have ha2' : (a2.add (i * 3)).block < wr.heap.size := by rw [add_block]; have := hB.size; omega
        have hkw := kb.size
        by_cases hq : q < 0
        · cases ag with
          | false =>
            have HE : Hid (PK (i + 1) = q) := by show _ = _; rw [HK1.out, HK2.out]; simp
            clear HK1 HK2
            go_wp2_with (go_at_call 99; refine (HA.out _).mono ?_; rintro e w5 ⟨rfl, hb5⟩; have kt5 : Bk w5 wo.heap.size 55 #[.int .i64 d, .int .i64 q, .int .i64 (-1)] := Bk.below (by exact (by repeat (first | with_reducible assumption | with_reducible exact Bk.new _ _ _ | with_reducible refine Bk.drew ?_ | with_reducible refine Bk.drewN ?_ _ | with_reducible refine Bk.alloc ?_ _ | (with_reducible refine Bk.far ?_ ?_ _; rotate_left; (try simp) <;> omega)))) hb5 (by simp; omega); have kb5 : Below wo.heap.size wo w5 := Below.trans (by exact (by repeat (first | with_reducible exact Below.refl _ _ | with_reducible assumption | with_reducible refine Below.drew ?_ | with_reducible refine below_drewN ?_ _ | (with_reducible refine Below.alloc ?_ ?_ _; rotate_left; (try simp) <;> omega) | (with_reducible refine Below.setCell ?_ ?_ _; rotate_left; (try simp) <;> omega)))) (hb5.mono (by simp; omega)); have kp5 : Bk w5 wr.heap.size 87 #[.int .i64 ps, .int .i64 pa, .int .i64 pb] := Bk.below (Bk.new _ _ _) hb5 (by simp); have z2 := kp5.cell 2 rfl; have hlk := ((hmx.alloc (.cells #[.int .i64 ps, .int .i64 pa, .int .i64 pb] 87)).below hb5 (by simp; omega)).look hiv; rw [HGG.out] at hlk; have y5 := kt5.cell 1 rfl; have f5 := kt5.fro 1; have l5 := kt5.lt; clear hb5)
            go_roundw
            case rel => exact ⟨i + 1, by omega, by go_num, by rw [HE.out]; exact kt5, kb5⟩
            case measure => simp [intOf]; omega
          | true =>
            by_cases hcn : cntP ts i < pb
            · have HE : Hid (PK (i + 1) = i) := by show _ = _; rw [HK1.out, HK2.out]; simp [hq, hcn]
              clear HK1 HK2
              generalize cntP ts i = cn at *
              go_wp2_with (go_at_call 99; refine (HA.out _).mono ?_; rintro e w5 ⟨rfl, hb5⟩; have kt5 : Bk w5 wo.heap.size 55 #[.int .i64 d, .int .i64 q, .int .i64 (-1)] := Bk.below (by exact (by repeat (first | with_reducible assumption | with_reducible exact Bk.new _ _ _ | with_reducible refine Bk.drew ?_ | with_reducible refine Bk.drewN ?_ _ | with_reducible refine Bk.alloc ?_ _ | (with_reducible refine Bk.far ?_ ?_ _; rotate_left; (try simp) <;> omega)))) hb5 (by simp; omega); have kb5 : Below wo.heap.size wo w5 := Below.trans (by exact (by repeat (first | with_reducible exact Below.refl _ _ | with_reducible assumption | with_reducible refine Below.drew ?_ | with_reducible refine below_drewN ?_ _ | (with_reducible refine Below.alloc ?_ ?_ _; rotate_left; (try simp) <;> omega) | (with_reducible refine Below.setCell ?_ ?_ _; rotate_left; (try simp) <;> omega)))) (hb5.mono (by simp; omega)); have kp5 : Bk w5 wr.heap.size 87 #[.int .i64 ps, .int .i64 pa, .int .i64 pb] := Bk.below (Bk.new _ _ _) hb5 (by simp); have z2 := kp5.cell 2 rfl; have hlk := ((hmx.alloc (.cells #[.int .i64 ps, .int .i64 pa, .int .i64 pb] 87)).below hb5 (by simp; omega)).look hiv; rw [HGG.out] at hlk; have y5 := kt5.cell 1 rfl; have f5 := kt5.fro 1; have l5 := kt5.lt; clear hb5)
              go_roundw
              case rel => exact ⟨i + 1, by omega, by go_num, by rw [HE.out]; exact kt5.set 1 _, kb5.setCell (Nat.le_refl _) _⟩
              case measure => simp [intOf]; omega
            · have HE : Hid (PK (i + 1) = q) := by show _ = _; rw [HK1.out, HK2.out]; simp [hcn]
              clear HK1 HK2
              generalize cntP ts i = cn at *
              go_wp2_with (go_at_call 99; refine (HA.out _).mono ?_; rintro e w5 ⟨rfl, hb5⟩; have kt5 : Bk w5 wo.heap.size 55 #[.int .i64 d, .int .i64 q, .int .i64 (-1)] := Bk.below (by exact (by repeat (first | with_reducible assumption | with_reducible exact Bk.new _ _ _ | with_reducible refine Bk.drew ?_ | with_reducible refine Bk.drewN ?_ _ | with_reducible refine Bk.alloc ?_ _ | (with_reducible refine Bk.far ?_ ?_ _; rotate_left; (try simp) <;> omega)))) hb5 (by simp; omega); have kb5 : Below wo.heap.size wo w5 := Below.trans (by exact (by repeat (first | with_reducible exact Below.refl _ _ | with_reducible assumption | with_reducible refine Below.drew ?_ | with_reducible refine below_drewN ?_ _ | (with_reducible refine Below.alloc ?_ ?_ _; rotate_left; (try simp) <;> omega) | (with_reducible refine Below.setCell ?_ ?_ _; rotate_left; (try simp) <;> omega)))) (hb5.mono (by simp; omega)); have kp5 : Bk w5 wr.heap.size 87 #[.int .i64 ps, .int .i64 pa, .int .i64 pb] := Bk.below (Bk.new _ _ _) hb5 (by simp); have z2 := kp5.cell 2 rfl; have hlk := ((hmx.alloc (.cells #[.int .i64 ps, .int .i64 pa, .int .i64 pb] 87)).below hb5 (by simp; omega)).look hiv; rw [HGG.out] at hlk; have y5 := kt5.cell 1 rfl; have f5 := kt5.fro 1; have l5 := kt5.lt; clear hb5)
              go_roundw
              case rel => exact ⟨i + 1, by omega, by go_num, by rw [HE.out]; exact kt5, kb5⟩
              case measure => simp [intOf]; omega
        · have HE : Hid (PK (i + 1) = q) := by show _ = _; rw [HK1.out]; simp [hq]
          clear HK1 HK2
          go_wp2
          go_roundw
          case rel => exact ⟨i + 1, by omega, by go_num, by rw [HE.out]; exact kt.alloc _, by exact (by repeat (first | with_reducible exact Below.refl _ _ | with_reducible assumption | with_reducible refine Below.drew ?_ | with_reducible refine below_drewN ?_ _ | (with_reducible refine Below.alloc ?_ ?_ _; rotate_left; (try simp) <;> omega) | (with_reducible refine Below.setCell ?_ ?_ _; rotate_left; (try simp) <;> omega)))⟩
          case measure => simp [intOf]; omega
      · obtain rfl : i = Y.pi.length := by omega
        rw [HPE.out] at kt y1
        clear hit
        have hpd := HPD.out Y.pi.length
        rw [HPE.out] at hpd
        generalize pitOf Y.pi ts d = pp at *
        clear HPK HPD HPE HPA HP0 y1 hkf hB hi c25
        have hppv : i64v pp := by unfold i64v; omega
        have hmx := hm.below kb hml
        have hcb := cntP_bd ts pp
        obtain ⟨a3, rfl, ha3, _, tn, _, _⟩ := task_at (HLT.out wo hbw) HNL.out
        have HTN := Lib.hid (fun W (hb : Below w.heap.size w W) => task_at (HLT.out W hb) HNL.out)
        generalize hnd : l[ts.length].need = nd at *
        have HND := Lib.hid hnd; clear hnd
        have HSB := Lib.hid (skL_bd Y.ma d nd)
        have hlnL := skK_len Y.ma d nd Y.ma.length
        rw [show skK Y.ma d nd Y.ma.length = skL Y.ma d nd from rfl] at hlnL
        have HSK1 := Lib.hid (fun W hb => HSK.out W hb d nd)
        clear HSK
        generalize skL Y.ma d nd = L at *
        have HLS := Lib.hid (fun k (hk : k < L.length) => show bestM Y.ma (L.take (k + 1)) = bestStep Y.ma (bestM Y.ma (L.take k)) L[k] from by rw [List.take_succ_eq_append_getElem hk, bestM_snoc])
        have HLBD := Lib.hid (fun k => bestM_bd Y.ma (L.take k) (fun x hx => HSB.out x (List.mem_of_mem_take hx)))
        have HGG := Lib.hid (gOf_get ts pp)
        have hlk := hmx.look hppv
        rw [HGG.out] at hlk
        generalize hcn : cntP ts pp = cn at *
        obtain ⟨hcb0, hcb1⟩ := hcb
        obtain ⟨w6, hrun, hm6, hg6⟩ := hmx.put (by unfold maxLen; omega) hppv (v := cn + 1) (by unfold i64v; omega)
        have HG6 : Hid (gPut (gOf ts) pp (cn + 1) = gOf (ts ++ [(⟨d, pp, bestM Y.ma L⟩ : Tu)])) := by show _ = _; rw [← gOf_snoc, ← hcn]
        rw [HG6.out] at hm6
        clear hcn
        have hwr : Below w.heap.size w wr := hbw.trans (kb.mono hbw.size)
        have hB6 : Below w.heap.size w w6 := hwr.grown hg6 hwr.size (fun k e => by cases e; omega)
        have own6 := own_grown (ownsRow_below hown kb (Nat.le_refl _)) hg6 (fun g e => by cases e; exact own_ne_map (ownsRow_below hown kb (Nat.le_refl _)) hmx)
        have k66 : Bk w6 w.heap.size 42 #[.slice none 0 0] := (h6.below kb h6.lt).grown hg6 (by simp; omega)
        have k76 : Bk w6 b7 42 #[.slice A2 ts.length c2] := (h7.below kb h7.lt).grown hg6 (by simp)
        have kt6 : Bk w6 wo.heap.size 55 #[.int .i64 d, .int .i64 pp, .int .i64 (-1)] := kt.grown hg6 (by simp; omega)
        have hz6 : wo.heap.size < w6.heap.size := kt6.lt
        have y1 := kt.cell 1 rfl
        go_upto_region 20 with fail
        clear hlk hrun hg6 y1
        have hj6 := HJ.out w6 hB6
        have ha3' : (a3.add (ts.length * 4)).block < w.heap.size := by rw [add_block]; exact ha3
        have HS : Hid (∀ W : World, Below w6.heap.size w6 W → W.rangeAt bj 0 C.toList ∧ W.cell? ⟨bj, 28, none⟩ = some (.slice (some a3) l.length c) ∧ W.cell? ⟨(a3.add (ts.length * 4)).block, (a3.add (ts.length * 4)).off + 1, none⟩ = some (.int .i64 nd)) := fun W hb => by
          have hW := hB6.trans (hb.mono hB6.size)
          have hjW := HJ.out W hW
          obtain ⟨b3, e3, _, _, q3, _, _⟩ := HTN.out W hW
          cases e3
          exact ⟨hjW.yard, hjW.tasks, q3⟩
        have hnL : (ts.length : Int) < (l.length : Int) := by have := HNL.out; omega
        have hi29 : (Try.prog.info? 29).map (·.size) = some C.toList.length := by rw [Array.length_toList, h28]; exact info29
        have hu29 := Try.underlying29
        refine wp_region_held_drew (S := (fun w' => w'.rangeAt bj 0 C.toList ∧ w'.cell? ⟨bj, 28, none⟩ = some (.slice (some a3) l.length c) ∧ w'.cell? ⟨(a3.add (ts.length * 4)).block, (a3.add (ts.length * 4)).off + 1, none⟩ = some (.int .i64 nd))) (by kernel_rfl) ?_ (fun hHeld => ?_)
        · exact HS.out _ (by exact (by repeat (first | with_reducible exact Below.refl _ _ | with_reducible assumption | with_reducible refine Below.drew ?_ | with_reducible refine below_drewN ?_ _ | (with_reducible refine Below.alloc ?_ ?_ _; rotate_left; (try simp) <;> omega) | (with_reducible refine Below.setCell ?_ ?_ _; rotate_left; (try simp) <;> omega))))
        refine tk 0 83 ?_
        refine tk 1 84 ?_
        refine tk 2 85 ?_
        (refine held_row 3 (some 86) 29 (.tmp 85) (bj) 0 C.toList _ rfl rfl (by kernel_rfl) (by kernel_rfl) (by kernel_rfl) (by rfl) rfl (fun _ _ _ h => h) (by assumption) (fun _ hS => hS.1) Try.underlying29 rfl (by assumption) ?_; (try simp only [Act.put, List.setIfInBounds_toArray, List.set_cons_zero, List.set_cons_succ]))
        refine tk 4 87 ?_
        refine tk 5 88 ?_
        refine tk 6 89 ?_
        refine tk 7 90 ?_
        refine tk 8 91 ?_
        refine tk 9 92 ?_
        refine tk 10 93 ?_
        refine tk 11 94 ?_
        refine tk 12 95 ?_
        refine tk 15 98 ?_
        (refine held_call 13 (some 96) 98 _ rfl (by kernel_rfl) (by rfl) ?_ (HSK1.out _ (by exact (by repeat (first | with_reducible exact Below.refl _ _ | with_reducible assumption | with_reducible refine Below.drew ?_ | with_reducible refine below_drewN ?_ _ | (with_reducible refine Below.alloc ?_ ?_ _; rotate_left; (try simp) <;> omega) | (with_reducible refine Below.setCell ?_ ?_ _; rotate_left; (try simp) <;> omega))))) ?_; rotate_left; rotate_left; (simp only [List.getElem?_toArray, List.getElem?_cons_zero, List.getElem?_cons_succ, Option.map_some]; refine congrArg some ?_; go_simp))
        rintro e w7 ⟨v7, rfl, hoL, hb7'⟩
        obtain ⟨AL, cL, rfl, _, _⟩ := ownsSlice hoL
        have hb67 : Below w6.heap.size w6 w7 := Below.trans (by exact (by repeat (first | with_reducible exact Below.refl _ _ | with_reducible assumption | with_reducible refine Below.drew ?_ | with_reducible refine below_drewN ?_ _ | (with_reducible refine Below.alloc ?_ ?_ _; rotate_left; (try simp) <;> omega) | (with_reducible refine Below.setCell ?_ ?_ _; rotate_left; (try simp) <;> omega)))) hb7'
        have hS7 := HS.out _ hb67
        refine ⟨_, rfl, hS7, fun hHeld => ?_⟩
        (try simp only [Act.put, List.setIfInBounds_toArray, List.set_cons_zero, List.set_cons_succ])
        refine tk 14 97 ?_
        refine wpAnyH_done (by kernel_rfl) ?_ _
        have hB7 : Below w.heap.size w w7 := hB6.trans (hb67.mono hB6.size)
        have own7 := ownsRow_below own6 hb67 (Nat.le_refl _)
        have k67 := k66.below hb67 k66.lt
        have k77 := k76.below hb67 k76.lt
        have kt7 := kt6.below hb67 kt6.lt
        have hm7 := hm6.below hb67 hm6.lt
        have hLL := ownsRow_lies hoL
        have hneL := own_ne' (b := wo.heap.size) hoL (by simpa using hz6)
        have hz7 := kt7.lt
        have hbto := Lib.hid (own_fresh hown (Nat.le_refl wo.heap.size))
        clear own6 k66 k76 kt6 hm6 hHeld hS7 hb67 hb7' hoL hj6 kt kb hB6 hm hown h6 h7 hmx hwr
        go_wp2
        go_loopw [98] (fun y wx => ∃ k : Nat, k ≤ L.length ∧ y = .int .i64 k ∧ Far w7 wx wo.heap.size ∧ Bk wx wo.heap.size 55 #[.int .i64 d, .int .i64 pp, .int .i64 (bestM Y.ma (L.take k))]) (fun y _ => L.length - (intOf y).toNat)
        case atStart => exact ⟨0, by omega, rfl, Far.refl _ _, kt7⟩
        case round =>
        clear kt7
        obtain ⟨k, hk, rfl, hF, kt⟩ := hrel
        generalize wr = wy at *
        have hBy : Below w.heap.size w wy := hF.bel _ _ (by omega) hB7
        have hlN := Far.bk hF (by omega) k77
        by_cases hkt : k < L.length
        · obtain ⟨aL, eL, haL, c0⟩ := int_at (hF.lies hLL hneL) hkt
          subst eL
          have hx := HSB.out L[k] (List.getElem_mem hkt)
          have HS2 := Lib.hid (HLS.out k hkt)
          have hbd := HLBD.out k
          generalize bestM Y.ma (L.take k) = b at *
          obtain ⟨j, hj⟩ : ∃ j : Nat, L[k] = (j : Int) := ⟨L[k].toNat, by omega⟩
          rw [hj] at c0 hx HS2
          have HJ2 := Lib.hid hj; clear hj
          have hjn : j < Y.ma.length := by omega
          obtain ⟨am, rfl, ham, _, _, _, m3⟩ := mas_at (HL3.out wy hBy) hjn
          have HSJ := Lib.hid (skillAt_nat hjn)
          generalize Y.ma[j].k = kj at *
          have c26 := HC26.out wy hBy
          have z2 := kt.cell 2 rfl
          have zf := kt.fro 2
          have hkI : (k : Int) < (L.length : Int) := by omega
          have hk0 : 0 ≤ (k : Int) := by omega
          have hjI : (j : Int) < (Y.ma.length : Int) := by omega
          have hj0 : 0 ≤ (j : Int) := by omega
          obtain ⟨hbd0, hbd1⟩ := hbd
          by_cases hneg : b < 0
          · have HE2 : Hid (bestM Y.ma (L.take (k + 1)) = j) := by show _ = _; rw [HS2.out]; unfold bestStep; rw [if_pos (.inl hneg)]
            go_wp2
            refine wp_region_held_drew (S := (fun w' => w'.cell? ⟨wo.heap.size, 2, none⟩ = some (.int .i64 b))) (by kernel_rfl) ?_ (fun hHeld => ?_)
            · first | assumption | go_keep
            refine tk 0 102 ?_
            refine tk 1 103 ?_
            refine tk 2 104 ?_
            refine tk 3 105 ?_
            refine sk 4 106 ?_
            refine sk 5 107 ?_
            refine sk 6 108 ?_
            refine sk 7 109 ?_
            refine sk 8 110 ?_
            refine sk 9 111 ?_
            refine sk 10 112 ?_
            refine sk 11 113 ?_
            refine sk 12 114 ?_
            refine sk 13 115 ?_
            refine sk 14 116 ?_
            refine sk 15 117 ?_
            refine sk 16 118 ?_
            refine sk 17 119 ?_
            refine sk 18 120 ?_
            refine sk 19 121 ?_
            refine sk 20 122 ?_
            refine sk 21 123 ?_
            refine sk 22 124 ?_
            refine sk 23 125 ?_
            refine tk 24 126 ?_
            refine wpAnyH_done (by kernel_rfl) ?_ _
            go_wp2
            go_roundw
            case rel => (first | exact ⟨k + 1, by omega, by go_num, (hF.setCell 2 _).drew, by rw [HE2.out]; exact (kt.set 2 _).drew⟩ | ((repeat apply Exists.intro); exact ⟨⟨k + 1, by omega, by go_num, (hF.setCell 2 _).drew, by rw [HE2.out]; exact (kt.set 2 _).drew⟩, rfl⟩))
            case measure => simp [intOf]; omega
          · obtain ⟨i, hi⟩ : ∃ i : Nat, b = (i : Int) := ⟨b.toNat, by omega⟩
            subst hi
            have hin : i < Y.ma.length := by omega
            obtain ⟨a4, e4, ha4, _, _, _, n3⟩ := mas_at (HL3.out wy hBy) hin
            cases e4
            have HSI := Lib.hid (skillAt_nat hin)
            generalize Y.ma[i].k = ki at *
            have hiI : (i : Int) < (Y.ma.length : Int) := by omega
            have hi0 : 0 ≤ (i : Int) := by omega
            by_cases hlt2 : kj < ki
            · have HE2 : Hid (bestM Y.ma (L.take (k + 1)) = j) := by show _ = _; rw [HS2.out]; unfold bestStep; rw [if_pos (.inr (by rw [HSJ.out, HSI.out]; exact hlt2))]
              go_wp2
              refine wp_region_held_drew (S := (fun w' => w'.cell? ⟨wo.heap.size, 2, none⟩ = some (.int .i64 i) ∧ w'.cell? ⟨bj, 26, none⟩ = some (.slice (some am) Y.ma.length km_) ∧ w'.cell? ⟨(am.add (j * 4)).block, (am.add (j * 4)).off + 3, none⟩ = some (.int .i64 kj) ∧ w'.cell? ⟨(am.add (i * 4)).block, (am.add (i * 4)).off + 3, none⟩ = some (.int .i64 ki))) (by kernel_rfl) ?_ (fun hHeld => ?_)
              · (refine ⟨?_, ?_, ?_, ?_⟩ <;> first | assumption | go_keep)
              refine tk 0 102 ?_
              refine tk 1 103 ?_
              refine tk 2 104 ?_
              refine tk 3 105 ?_
              refine tk 4 106 ?_
              refine tk 5 107 ?_
              refine tk 6 108 ?_
              refine tk 7 109 ?_
              refine tk 8 110 ?_
              refine tk 9 111 ?_
              refine tk 10 112 ?_
              refine tk 11 113 ?_
              refine tk 12 114 ?_
              refine tk 13 115 ?_
              refine tk 14 116 ?_
              refine tk 15 117 ?_
              refine tk 16 118 ?_
              refine tk 17 119 ?_
              refine tk 18 120 ?_
              refine tk 19 121 ?_
              refine tk 20 122 ?_
              refine tk 21 123 ?_
              refine tk 22 124 ?_
              refine tk 23 125 ?_
              refine tk 24 126 ?_
              refine wpAnyH_done (by kernel_rfl) ?_ _
              go_wp2
              go_roundw
              case rel => (first | exact ⟨k + 1, by omega, by go_num, (hF.setCell 2 _).drew, by rw [HE2.out]; exact (kt.set 2 _).drew⟩ | ((repeat apply Exists.intro); exact ⟨⟨k + 1, by omega, by go_num, (hF.setCell 2 _).drew, by rw [HE2.out]; exact (kt.set 2 _).drew⟩, rfl⟩))
              case measure => simp [intOf]; omega
            · have HE2 : Hid (bestM Y.ma (L.take (k + 1)) = i) := by show _ = _; rw [HS2.out]; unfold bestStep; rw [if_neg (by rw [HSJ.out, HSI.out]; omega)]
              go_wp2
              refine wp_region_held_drew (S := (fun w' => w'.cell? ⟨wo.heap.size, 2, none⟩ = some (.int .i64 i) ∧ w'.cell? ⟨bj, 26, none⟩ = some (.slice (some am) Y.ma.length km_) ∧ w'.cell? ⟨(am.add (j * 4)).block, (am.add (j * 4)).off + 3, none⟩ = some (.int .i64 kj) ∧ w'.cell? ⟨(am.add (i * 4)).block, (am.add (i * 4)).off + 3, none⟩ = some (.int .i64 ki))) (by kernel_rfl) ?_ (fun hHeld => ?_)
              · (refine ⟨?_, ?_, ?_, ?_⟩ <;> first | assumption | go_keep)
              refine tk 0 102 ?_
              refine tk 1 103 ?_
              refine tk 2 104 ?_
              refine tk 3 105 ?_
              refine tk 4 106 ?_
              refine tk 5 107 ?_
              refine tk 6 108 ?_
              refine tk 7 109 ?_
              refine tk 8 110 ?_
              refine tk 9 111 ?_
              refine tk 10 112 ?_
              refine tk 11 113 ?_
              refine tk 12 114 ?_
              refine tk 13 115 ?_
              refine tk 14 116 ?_
              refine tk 15 117 ?_
              refine tk 16 118 ?_
              refine tk 17 119 ?_
              refine tk 18 120 ?_
              refine tk 19 121 ?_
              refine tk 20 122 ?_
              refine tk 21 123 ?_
              refine tk 22 124 ?_
              refine tk 23 125 ?_
              refine tk 24 126 ?_
              refine wpAnyH_done (by kernel_rfl) ?_ _
              go_wp2
              go_roundw
              case rel => (first | exact ⟨k + 1, by omega, by go_num, hF.drew, by rw [HE2.out]; exact kt.drew⟩ | ((repeat apply Exists.intro); exact ⟨⟨k + 1, by omega, by go_num, hF.drew, by rw [HE2.out]; exact kt.drew⟩, rfl⟩))
              case measure => simp [intOf]; omega
        · obtain rfl : k = L.length := by omega
          rw [List.take_length] at kt
          clear hkt hk HLBD HLS HSB HTN HSK1 HC25 HC26 HL2 HL3 HPP
          have owny := own_far hF own7 hbto.out
          have k7y := hlN
          have k6y := Far.bk hF (by omega) k67
          have hmy := hm7.far hF (by omega)
          have x7 := k7y.cell 0 rfl
          have f7 := k7y.fro 0
          have g0 := kt.cell 0 rfl
          have g1 := kt.cell 1 rfl
          have g2 := kt.cell 2 rfl
          have hzy := kt.lt
          have hl7 := k7y.lt
          generalize bestM Y.ma L = mm at *
          clear hF hLL hneL own7 k67 k77 hm7 hlN HS
          go_wp2_with (at_builtin; refine wpList_append_own _ rfl (.tmp 131) (.tmp 133) 40 rfl (w.heap.size + 1) 55 i0 (.agg #[.int .i64 0, .int .i64 0, .int .i64 0]) 3 24 Try.underlying40 I5.out.1 I5.out.2.1 I5.out.2.2.1 I5.out.2.2.2 rfl (by decide) (.slice A2 ts.length c2) ts.length (turnsC ts) rfl (owny.alloc _) ⟨wy.heap.size, 0, none⟩ 1 1 [.int .i64 d, .int .i64 pp, .int .i64 mm] rfl rfl ?_ ?_ ?_ ?_ ?_ ?_; (exact fun j u hj => cells_new wy _ 55 j u hj); (intro u hu; simp at hu; rcases hu with rfl | rfl | rfl <;> rfl); (unfold maxLen; omega); (omega); (simp; omega); intro v9 w9 own9 hg9 _; have hB9 : Below w.heap.size w w9 := below_own (by exact (by repeat (first | with_reducible exact Below.refl _ _ | with_reducible assumption | with_reducible refine Below.drew ?_ | with_reducible refine below_drewN ?_ _ | (with_reducible refine Below.alloc ?_ ?_ _; rotate_left; (try simp) <;> omega) | (with_reducible refine Below.setCell ?_ ?_ _; rotate_left; (try simp) <;> omega)))) (owny.alloc _) hg9 (by omega) (by simp; omega); have k79 : Bk w9 b7 42 #[.slice A2 ts.length c2] := Bk.grown (k7y.alloc _) hg9 (own_ne_type owny k7y (by decide)); have k69 : Bk w9 w.heap.size 42 #[.slice none 0 0] := Bk.grown (k6y.alloc _) hg9 (own_ne_type owny k6y (by decide)); have hm9 := (hmy.alloc (.cells #[.int .i64 d, .int .i64 pp, .int .i64 mm] 55)).kept hg9 (own_ne_map owny hmy); have x9 := k79.cell 0 rfl; have f9 := k79.fro 0; obtain ⟨A9, c9, rfl, _, _⟩ := ownsSlice own9; clear hg9)
          have HE9 : Hid (usual Y l (ts ++ [⟨d, pp, mm⟩]) days = E) := by show _ = _; rw [← HST.out]; exact HU.out
          have hlen : Hid (ts.length + 1 = (ts ++ [(⟨d, pp, mm⟩ : Tu)]).length) := by show _ = _; simp
          have HTS := Lib.hid (turns_snoc ts ⟨d, pp, mm⟩)
          rw [show ([.int .i64 d, .int .i64 pp, .int .i64 mm] : List Value) = (⟨d, pp, mm⟩ : Tu).cells from rfl, HTS.out] at own9
          have hFs : Far w9 (w9.setCell ⟨b7, 0, none⟩ (.slice A9 (ts.length + 1) c9)) b7 := far_setCells b7 [.slice A9 (ts.length + 1) c9] 0 w9
          have own10 := own_far hFs own9 (own_ne_type own9 k79 (by decide))
          have k710 := k79.set 0 (.slice A9 (ts.length + 1) c9)
          have k610 := Far.bk hFs (by omega) k69
          have hm10 := hm9.far hFs (by omega)
          have hB10 := hFs.bel _ _ (by omega) hB9
          clear x9 f9
          go_roundw
          case rel =>
            exact ⟨ts ++ [⟨d, pp, mm⟩], n + 1, _, A9, c9, by rw [← hlen.out]; omega, by rw [← hlen.out]; omega, by rw [← hlen.out]; go_num, hm10, by rw [← hlen.out]; exact own10, HE9, hB10, k610, by rw [← hlen.out]; exact k710⟩
          case measure => simp [intOf]; omega
    · have HEE : Hid (E = ts) := by show _ = _; rw [← HU.out]; exact usual_end (by omega)
      have x6 := h6.cell 0 rfl
      have f6 := h6.fro 0
      have x7 := h7.cell 0 rfl
      go_wp2
      have hF := far_setCells w.heap.size [.slice A2 ts.length c2] 0 wo
      have hs6 := h6.set 0 (.slice A2 ts.length c2)
      have x9 := hs6.cell 0 rfl
      have ho9 : (wo.setCell ⟨w.heap.size, 0, none⟩ (.slice A2 ts.length c2)).ownsRow (w.heap.size + 1) 55 3 (.slice A2 ts.length c2) ts.length (turnsC ts) := hF.own hown (by omega)
      have hb9 : Below w.heap.size w (wo.setCell ⟨w.heap.size, 0, none⟩ (.slice A2 ts.length c2)) := hbw.setCell (Nat.le_refl _) _
      clear hF hs6 x6 f6 x7
      generalize wo.setCell ⟨w.heap.size, 0, none⟩ (.slice A2 ts.length c2) = w9 at *
      refine bodyPost_ret (v := .agg #[.slice A2 ts.length c2]) (by simp [results, Try.results84, go_sem, x9]) rfl ?_
      rw [HEE.out]
      exact ⟨_, rfl, ownsRow_base ho9 (by omega), hb9⟩
end Go.Proofs.Ytjgnikmnadmheaa
