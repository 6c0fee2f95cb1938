/- Worlds that differ in one old block alone. -/
import Derived.Test.YtjgnikmnadmheaaG02
import Derived.Test.YtjgnikmnadmheaaG07
import Derived.Test.YtjgnikmnadmheaaG64
import Derived.Test.YtjgnikmnadmheaaG91

namespace Go.Proofs.Ytjgnikmnadmheaa
open Go.RowKit

/-! worlds that differ in one old block alone -/
structure Nb (w w' : World) (b : Nat) : Prop where
  size : w.heap.size ≤ w'.heap.size
  blk : ∀ g, g < w.heap.size → g ≠ b → w'.heap[g]? = w.heap[g]?
section
variable {w w' w'' : World} {b : Nat}
theorem Nb.refl (w : World) (b : Nat) : Nb w w b := ⟨Nat.le_refl _, fun _ _ _ => rfl⟩
theorem Nb.step (h : Nb w w' b) (k : Below w'.heap.size w' w'') : Nb w w'' b := ⟨Nat.le_trans h.size k.size, fun g hg hb => (k.block g (Nat.lt_of_lt_of_le hg h.size)).trans (h.blk g hg hb)⟩
theorem Nb.base {B : Nat} (h : Nb w w' b) (k : Below B w' w'') (hB : w.heap.size ≤ B) : Nb w w'' b := ⟨Nat.le_trans h.size k.size, fun g hg hb => (k.block g (Nat.lt_of_lt_of_le hg hB)).trans (h.blk g hg hb)⟩
theorem Nb.alloc (h : Nb w w' b) (o : Obj) : Nb w (w'.alloc o) b := ⟨by have := h.size; simp; omega, fun g hg hb => (Below.heap_alloc w' o g (Nat.lt_of_lt_of_le hg h.size)).trans (h.blk g hg hb)⟩
theorem Nb.drew (h : Nb w w' b) : Nb w w'.drew b := ⟨h.size, h.blk⟩
theorem Nb.set (h : Nb w w' b) (o : Nat) (v : Value) : Nb w (w'.setCell ⟨b, o, none⟩ v) b := ⟨by have := h.size; simpa [World.setCell] using this, fun g hg hb => (Below.heap_setCell w' ⟨b, o, none⟩ v g hb).trans (h.blk g hg hb)⟩
theorem Nb.far {b' : Nat} (h : Nb w w' b) (k : Far w' w'' b') (hb' : b' = b ∨ w.heap.size ≤ b') : Nb w w'' b := ⟨by rw [k.size]; exact h.size, fun g hg hb => (k.blk g (by omega)).trans (h.blk g hg hb)⟩
theorem Nb.grown {row : Option Nat} (h : Nb w w' b) (k : w'.grownBy w'' row) (hr : ∀ g, row = some g → w.heap.size ≤ g) (hs : w'.heap.size ≤ w''.heap.size) : Nb w w'' b := ⟨Nat.le_trans h.size hs, fun g hg hb => (k.block g (Nat.lt_of_lt_of_le hg h.size) (fun e => by have := hr g e.symm; omega)).trans (h.blk g hg hb)⟩
theorem Nb.bk {g t : Nat} {C : Array Value} (h : Nb w w' b) (k : Bk w g t C) (hg : g ≠ b) : Bk w' g t C := (h.blk g k.lt hg).trans k
theorem Nb.lies {A : Option Addr} {cs : List Value} (h : Nb w w' b) (hl : Lies w w.heap.size A cs) (hA : ∀ ad, A = some ad → ad.block ≠ b) : Lies w' w'.heap.size A cs := fun hn => by
  obtain ⟨ad, e, hb, hc⟩ := hl hn
  refine ⟨ad, e, Nat.lt_of_lt_of_le hb h.size, fun j u hu => ?_⟩
  have e2 := h.blk ad.block hb (hA ad e)
  have := hc j u hu
  unfold World.cell? at this ⊢
  rw [add_block] at this ⊢
  rw [e2]
  exact this
end
theorem own_ge {w : World} {base e size n c : Nat} {A : Option Addr} {xs : List Value} (h : w.ownsRow base e size (.slice A n c) n xs) (ad : Addr) (hA : A = some ad) : base ≤ ad.block := by
  rcases h.2 with ⟨h1, _⟩ | ⟨g', cap, cur, h1, h2, _⟩
  · cases h1; cases hA
  · cases h1
    cases hA
    exact h2
end Go.Proofs.Ytjgnikmnadmheaa

namespace Go.Proofs.Ytjgnikmnadmheaa
open Go.RowKit

def pt (b : Nat) : Value := .pointer (some ⟨b, 0, none⟩)
def chArgs (task : Int) (b1 b2 B b6 b7 b8 : Nat) : Array Value := #[.int .i64 task, .pointer (some ⟨b1, 0, none⟩), .pointer (some ⟨b2, 0, none⟩), .pointer (some ⟨B + 3, 0, none⟩), .pointer (some ⟨B + 4, 0, none⟩), .pointer (some ⟨B + 1, 0, none⟩), .pointer (some ⟨b6, 0, none⟩), .pointer (some ⟨b7, 0, none⟩), .pointer (some ⟨b8, 0, none⟩), .pointer (some ⟨B, 0, none⟩)]
def chFn (b1 b2 B b6 b7 b8 : Nat) : Value := .func (.func 87) #[] #[.pointer (some ⟨b1, 0, none⟩), .pointer (some ⟨b2, 0, none⟩), .pointer (some ⟨B + 3, 0, none⟩), .pointer (some ⟨B + 4, 0, none⟩), .pointer (some ⟨B + 1, 0, none⟩), .pointer (some ⟨b6, 0, none⟩), .pointer (some ⟨b7, 0, none⟩), .pointer (some ⟨b8, 0, none⟩), .pointer (some ⟨B, 0, none⟩)]
/-- what stays as it is while choose runs: it lies below w0's end -/
structure ChFix (w0 : World) (b1 b2 b6 b7 b8 bj : Nat) (C : Array Value) (Y : Yd) (l : List Tk) (A : Option Addr) (c : Nat) (f : Int) (old : List Tu) (T : Option Addr) (ct : Nat) (ds : List Int) (D0 : Option Addr) (cd : Nat) (L : List Int) (L0 : Option Addr) (cl : Nat) : Prop where
  k1 : Bk w0 b1 30 #[.slice A l.length c]
  k2 : Bk w0 b2 42 #[.slice T old.length ct]
  k6 : Bk w0 b6 99 #[.pointer (some ⟨bj, 0, none⟩)]
  k7 : Bk w0 b7 25 #[.slice D0 ds.length cd]
  k8 : Bk w0 b8 25 #[.slice L0 L.length cl]
  job : JobAt w0 w0.heap.size bj C Y l A c f
  old_ : Lies w0 w0.heap.size T (turnsC old)
  lds : Lies w0 w0.heap.size D0 (ints ds)
  lL : Lies w0 w0.heap.size L0 (ints L)
  v : Valid Y
  vt : ValidT l
  tm : tame l
  hf : 0 ≤ f ∧ f ≤ 100000
  hd : ds.length ≤ l.length
  hx : ∀ x ∈ ds, -1000 ≤ x ∧ x ≤ 200000
  hL : L.length = l.length
  ho : old.length ≤ 20
  gi : ∀ t ∈ old, i64v t.day
/-- what the search has found so far, and the choice at hand -/
structure ChSt (w0 W : World) (b1 b2 b6 b7 b8 : Nat) (nn sz : Nat) (g : Int → Option Int) (s : St2) : Prop where
  bel : Below w0.heap.size w0 W
  hz : w0.heap.size + 5 ≤ W.heap.size
  k9 : ∃ B0 cb, Bk W w0.heap.size 25 #[.slice B0 s.2.length cb] ∧ Lies W W.heap.size B0 (ints s.2) ∧ ∀ ad, B0 = some ad → w0.heap.size + 5 ≤ ad.block
  k5 : Bk W (w0.heap.size + 1) 3 #[.int .i64 s.1]
  mp : MapC W (w0.heap.size + 2) nn sz g
  k3 : Bk W (w0.heap.size + 3) 108 #[.map (some (w0.heap.size + 2))]
  k4 : Bk W (w0.heap.size + 4) 109 #[chFn b1 b2 w0.heap.size b6 b7 b8]
section
variable {w0 W W' : World} {b1 b2 b6 b7 b8 nn sz : Nat} {g : Int → Option Int} {s : St2}
theorem ChSt.step (h : ChSt w0 W b1 b2 b6 b7 b8 nn sz g s) (hb : Below W.heap.size W W') : ChSt w0 W' b1 b2 b6 b7 b8 nn sz g s := by
  have hz := h.hz
  have hs := hb.size
  have h0 := h.bel.size
  obtain ⟨B0, cb, k9, kl, kg⟩ := h.k9
  exact ⟨h.bel.trans (hb.mono h0), by omega, ⟨B0, cb, k9.below hb (by omega), (kl.below hb (Nat.le_refl _)).more hs, kg⟩, h.k5.below hb (by omega), h.mp.below hb (by omega), h.k3.below hb (by omega), h.k4.below hb (by omega)⟩
theorem ChSt.drew (h : ChSt w0 W b1 b2 b6 b7 b8 nn sz g s) : ChSt w0 W.drew b1 b2 b6 b7 b8 nn sz g s := h.step (Below.refl _ _).drew
/-- a better find is written down -/
theorem ChSt.found (h : ChSt w0 W b1 b2 b6 b7 b8 nn sz g s) {m : Int} {D : List Int} {A : Option Addr} {ca : Nat} (hA : Lies W W.heap.size A (ints D)) (hg : ∀ ad, A = some ad → w0.heap.size + 5 ≤ ad.block) :
    ChSt w0 ((W.setCell ⟨w0.heap.size + 1, 0, none⟩ (.int .i64 m)).setCell ⟨w0.heap.size, 0, none⟩ (.slice A D.length ca)) b1 b2 b6 b7 b8 nn sz g (m, D) := by
  have hz := h.hz
  have hsz : ((W.setCell ⟨w0.heap.size + 1, 0, none⟩ (.int .i64 m)).setCell ⟨w0.heap.size, 0, none⟩ (.slice A D.length ca)).heap.size = W.heap.size := by simp [World.setCell]
  obtain ⟨B0, cb, k9, _, _⟩ := h.k9
  refine ⟨(h.bel.setCell (by dsimp only; omega) _).setCell (Nat.le_refl _) _, by rw [hsz]; exact hz, ⟨A, ca, ?_, ?_, hg⟩, ?_, ?_, ?_, ?_⟩
  · exact (k9.far (p := ⟨w0.heap.size + 1, 0, none⟩) (by dsimp only; omega) _).set 0 _
  · rw [hsz]
    refine (far_setCells w0.heap.size [_] 0 _).lies ((far_setCells (w0.heap.size + 1) [_] 0 W).lies hA fun ad e => ?_) fun ad e => ?_
    · have := hg ad e; omega
    · have := hg ad e; omega
  · exact (h.k5.set 0 (.int .i64 m)).far (p := ⟨w0.heap.size, 0, none⟩) (by dsimp only; omega) _
  · exact (h.mp.setCell (a := ⟨w0.heap.size + 1, 0, none⟩) (by dsimp only; omega) _).setCell (a := ⟨w0.heap.size, 0, none⟩) (by dsimp only; omega) _
  · exact (h.k3.far (p := ⟨w0.heap.size + 1, 0, none⟩) (by dsimp only; omega) _).far (p := ⟨w0.heap.size, 0, none⟩) (by dsimp only; omega) _
  · exact (h.k4.far (p := ⟨w0.heap.size + 1, 0, none⟩) (by dsimp only; omega) _).far (p := ⟨w0.heap.size, 0, none⟩) (by dsimp only; omega) _
end
def ChEnd (w0 : World) (b1 b2 b6 b7 b8 : Nat) (lim sz : Nat) (g : Int → Option Int) (s : St2) (e : Ending) (W' : World) : Prop := e = .returned (.tuple #[]) ∧ ∃ nn, nn ≤ lim ∧ ChSt w0 W' b1 b2 b6 b7 b8 nn sz g s

set_option maxRecDepth 100000 in
set_option maxHeartbeats 4000000 in
theorem choose_leaf {w0 : World} {b1 b2 b6 b7 b8 bj : Nat} {C : Array Value} {Y : Yd} {l : List Tk} {A : Option Addr} {c : Nat} {f : Int} {old : List Tu} {T : Option Addr} {ct : Nat} {ds : List Int} {D0 : Option Addr} {cd : Nat} {L : List Int} {L0 : Option Addr} {cl : Nat}
    (hF : ChFix w0 b1 b2 b6 b7 b8 bj C Y l A c f old T ct ds D0 cd L L0 cl) (W : World) (nn sz : Nat) (g : Int → Option Int) (s : St2) (hS : ChSt w0 W b1 b2 b6 b7 b8 nn sz g s) (hsz : (sz : Int) = szK (fun i => g (i : Int)) l.length) (hok : SOK l.length s) :
    Calls Try.prog 87 (chArgs l.length b1 b2 w0.heap.size b6 b7 b8) W (ChEnd w0 b1 b2 b6 b7 b8 nn sz g (leafS Y l f ds (endL L) (fun i => g (i : Int)) s)) := by
  have hlt1 := hF.k1.lt
  have hlt2 := hF.k2.lt
  have hlt6 := hF.k6.lt
  have hlt7 := hF.k7.lt
  have hlt8 := hF.k8.lt
  have hlj := hF.job.lt
  have hl12 := hF.vt.n
  have hLl := hF.hL
  have hszl : sz ≤ 1000000 := by
    have h1 := szK_le (fun i => g (i : Int)) l.length
    omega
  have hz := hS.hz
  have hw0 := hS.bel.size
  have q1 := (hF.k1.below hS.bel hlt1).cell 0 rfl
  have q3 := hS.k3.cell 0 rfl
  have q5 := hS.k5.cell 0 rfl
  have q6 := (hF.k6.below hS.bel hlt6).cell 0 rfl
  have q7 := (hF.k7.below hS.bel hlt7).cell 0 rfl
  have hln := fun ty => hS.mp.len ty
  have HS := Lib.hid hS
  have HOK := Lib.hid hok
  have HSZ := Lib.hid hsz
  have HLL := Lib.hid hLl
  have hnn : ¬ (l.length : Int) < (l.length : Int) := by omega
  have HEF := Lib.hid (earliest_fix bj C Y l A c f ds D0 cd (w0.heap.size + 2) nn sz g W ((hF.job.below hS.bel (Nat.le_refl _)).more hw0) hF.v hF.vt hF.tm hF.hf ((hF.lds.below hS.bel (Nat.le_refl _)).more hw0) hF.hd hF.hx hS.mp)
  have HEL := Lib.hid (fun D (h : est Y l f (fun i => g (i : Int)) (l.length - ds.length) ds = some D) => est_length hF.hd h)
  have HLF : Hid (leafS Y l f ds (endL L) (fun i => g (i : Int)) s = if (sz : Int) < s.1 then s else match est Y l f (fun i => g (i : Int)) (l.length - ds.length) ds with
    | none => s
    | some D => if D ≠ [] ∧ endL D ≠ endL L then s else if s.1 < (sz : Int) ∨ betB D s.2 = true then ((sz : Int), D) else s) := by show _ = _; rw [hsz]; rfl
  have HK8 : Hid (∀ W', Below W.heap.size W W' → W'.cell? ⟨b8, 0, none⟩ = some (.slice L0 L.length cl)) := fun W' hb => ((hF.k8.below hS.bel hlt8).below hb (by omega)).cell 0 rfl
  have HLW : Hid (∀ W', Below W.heap.size W W' → Lies W' W'.heap.size L0 (ints L)) := fun W' hb => ((((hF.lL.below hS.bel (Nat.le_refl _)).more hw0).below hb (Nat.le_refl _)).more hb.size)
  clear hF hS hok hsz hLl
  obtain ⟨s1, s2⟩ := s
  dsimp only at q5 HLF HOK
  generalize leafS Y l f ds (endL L) (fun i => g (i : Int)) (s1, s2) = R at *
  by_cases h1 : (sz : Int) < s1
  · have HR : Hid (R = (s1, s2)) := by show _ = _; rw [HLF.out, if_pos h1]
    clear HLF HEF
    unfold chArgs
    go_enter Try.func87, Try.ntmps87
    go_wp2
    first | refine bodyPost_ret (results_none rfl _ _ _) rfl ⟨rfl, nn, Nat.le_refl _, ?_⟩ | refine bodyPost_end (results_none rfl _ _ _) rfl ⟨rfl, nn, Nat.le_refl _, ?_⟩
    rw [HR.out]
    exact HS.out
  · have HLF2 := Lib.hid (HLF.out.trans (if_neg h1))
    generalize hE : est Y l f (fun i => g (i : Int)) (l.length - ds.length) ds = E at *
    clear hE HLF
    unfold chArgs
    cases E with
    | none =>
      have HR : Hid (R = (s1, s2)) := HLF2.out
      clear HLF2
      go_enter Try.func87, Try.ntmps87
      go_upto_region 8 with (first | (go_at_call 83; refine HEF.out.mono ?_; rintro e w1 h83; obtain ⟨rfl, hb1⟩ := h83; have x8 := HK8.out w1 hb1; clear hln q3 q5 q6 q7 q1))
      refine wp_region_held_drew (S := (fun w' => w'.cell? ⟨b8, 0, none⟩ = some (.slice L0 L.length cl))) (by kernel_rfl) ?_ (fun hHeld => ?_)
      · exact x8
      refine tk 0 51 ?_
      refine tk 1 52 ?_
      refine tk 2 53 ?_
      refine sk 3 54 ?_
      refine sk 4 55 ?_
      refine sk 5 56 ?_
      refine sk 6 57 ?_
      refine sk 7 58 ?_
      refine sk 8 59 ?_
      refine sk 9 60 ?_
      refine sk 10 61 ?_
      refine sk 11 62 ?_
      refine sk 12 63 ?_
      refine sk 13 64 ?_
      refine sk 14 65 ?_
      refine sk 15 66 ?_
      refine sk 16 67 ?_
      refine sk 17 68 ?_
      refine sk 18 69 ?_
      refine sk 19 70 ?_
      refine sk 20 71 ?_
      refine tk 21 72 ?_
      refine wpAnyH_done (by kernel_rfl) ?_ _
      clear hHeld
      go_wp2
      first | refine bodyPost_ret (results_none rfl _ _ _) rfl ⟨rfl, nn, Nat.le_refl _, ?_⟩ | refine bodyPost_end (results_none rfl _ _ _) rfl ⟨rfl, nn, Nat.le_refl _, ?_⟩
      rw [HR.out]
      exact HS.out.step hb1.drew
    | some D =>
      have hDl := HEL.out D rfl
      have hDL : D.length = L.length := by rw [hDl, HLL.out]
      have HDL := Lib.hid hDL
      have hd12 : D.length ≤ 12 := by omega
      clear hDL hDl
      by_cases hn0 : D = []
      · subst hn0
        by_cases h3 : s1 < (sz : Int)
        · have HR : Hid (R = ((sz : Int), ([] : List Int))) := by show _ = _; rw [HLF2.out]; dsimp only; rw [if_neg (by intro h; exact h.1 rfl), if_pos (.inl h3)]
          clear HLF2
          go_enter Try.func87, Try.ntmps87
          go_upto_region 8 with (first | (go_at_call 83; refine HEF.out.mono ?_; rintro e w1 h83; obtain ⟨v5, rfl, ho5, hb1⟩ := h83; obtain ⟨A5, c5, rfl, _, _⟩ := ownsSlice ho5; have x8 := HK8.out w1 hb1; have s8 := HS.out.step hb1; have q3' := s8.k3.cell 0 rfl; have q5' := s8.k5.cell 0 rfl; have hln' := fun ty => s8.drew.mp.len ty; obtain ⟨B0, cb, k9, kl, kg⟩ := s8.k9; have q9 := k9.cell 0 rfl; have f5 := s8.k5.fro 0; have f9 := k9.fro 0; have HS8 := Lib.hid s8; clear s8 hln q3 q5 q6 q7 q1))
          refine wp_region_held_drew (S := (fun w' => w'.cell? ⟨b8, 0, none⟩ = some (.slice L0 L.length cl))) (by kernel_rfl) ?_ (fun hHeld => ?_)
          · exact x8
          refine tk 0 51 ?_
          refine tk 1 52 ?_
          refine tk 2 53 ?_
          refine tk 3 54 ?_
          refine tk 4 55 ?_
          refine tk 5 56 ?_
          refine tk 6 57 ?_
          refine sk 7 58 ?_
          refine sk 8 59 ?_
          refine sk 9 60 ?_
          refine sk 10 61 ?_
          refine sk 11 62 ?_
          refine sk 12 63 ?_
          refine sk 13 64 ?_
          refine sk 14 65 ?_
          refine sk 15 66 ?_
          refine sk 16 67 ?_
          refine sk 17 68 ?_
          refine sk 18 69 ?_
          refine sk 19 70 ?_
          refine tk 20 71 ?_
          refine tk 21 72 ?_
          refine wpAnyH_done (by kernel_rfl) ?_ _
          clear hHeld
          have HBE : Hid (∀ W', Below w1.heap.size w1 W' → Calls Try.prog 88 #[.slice A5 0 c5, .slice B0 s2.length cb] W' (ShEnd (betB [] s2) W')) := fun W' hb => better_any [] s2 A5 B0 c5 cb W' (((ownsRow_lies ho5).below hb (Nat.le_refl _)).more hb.size) ((kl.below hb (Nat.le_refl _)).more hb.size) (fun hne => by rcases HOK.out with e | e; (exact absurd (congrArg Prod.snd e) hne); (have := e.2; simp only at this; rw [HDL.out, this, HLL.out])) (by omega)
          go_wp2
          have h5o := (ownsRow_lies ho5)
          have hge : ∀ ad, A5 = some ad → w0.heap.size + 5 ≤ ad.block := fun ad e => by have := own_ge ho5 ad e; omega
          first | refine bodyPost_ret (results_none rfl _ _ _) rfl ⟨rfl, nn, Nat.le_refl _, ?_⟩ | refine bodyPost_end (results_none rfl _ _ _) rfl ⟨rfl, nn, Nat.le_refl _, ?_⟩
          rw [HR.out]
          exact HS8.out.drew.found ((h5o.below ((Below.refl w1.heap.size w1).drew) (Nat.le_refl _)).more ((Below.refl w1.heap.size w1).drew).size) hge
        · cases hbb : betB [] s2 with
          | true =>
            have HR : Hid (R = ((sz : Int), ([] : List Int))) := by show _ = _; rw [HLF2.out]; dsimp only; rw [if_neg (by intro h; exact h.1 rfl), if_pos (.inr hbb)]
            have HBB := Lib.hid hbb
            clear HLF2 hbb
            go_enter Try.func87, Try.ntmps87
            go_upto_region 8 with (first | (go_at_call 83; refine HEF.out.mono ?_; rintro e w1 h83; obtain ⟨v5, rfl, ho5, hb1⟩ := h83; obtain ⟨A5, c5, rfl, _, _⟩ := ownsSlice ho5; have x8 := HK8.out w1 hb1; have s8 := HS.out.step hb1; have q3' := s8.k3.cell 0 rfl; have q5' := s8.k5.cell 0 rfl; have hln' := fun ty => s8.drew.mp.len ty; obtain ⟨B0, cb, k9, kl, kg⟩ := s8.k9; have q9 := k9.cell 0 rfl; have f5 := s8.k5.fro 0; have f9 := k9.fro 0; have HS8 := Lib.hid s8; clear s8 hln q3 q5 q6 q7 q1))
            refine wp_region_held_drew (S := (fun w' => w'.cell? ⟨b8, 0, none⟩ = some (.slice L0 L.length cl))) (by kernel_rfl) ?_ (fun hHeld => ?_)
            · exact x8
            refine tk 0 51 ?_
            refine tk 1 52 ?_
            refine tk 2 53 ?_
            refine tk 3 54 ?_
            refine tk 4 55 ?_
            refine tk 5 56 ?_
            refine tk 6 57 ?_
            refine sk 7 58 ?_
            refine sk 8 59 ?_
            refine sk 9 60 ?_
            refine sk 10 61 ?_
            refine sk 11 62 ?_
            refine sk 12 63 ?_
            refine sk 13 64 ?_
            refine sk 14 65 ?_
            refine sk 15 66 ?_
            refine sk 16 67 ?_
            refine sk 17 68 ?_
            refine sk 18 69 ?_
            refine sk 19 70 ?_
            refine tk 20 71 ?_
            refine tk 21 72 ?_
            refine wpAnyH_done (by kernel_rfl) ?_ _
            clear hHeld
            have HBE : Hid (∀ W', Below w1.heap.size w1 W' → Calls Try.prog 88 #[.slice A5 0 c5, .slice B0 s2.length cb] W' (ShEnd (betB [] s2) W')) := fun W' hb => better_any [] s2 A5 B0 c5 cb W' (((ownsRow_lies ho5).below hb (Nat.le_refl _)).more hb.size) ((kl.below hb (Nat.le_refl _)).more hb.size) (fun hne => by rcases HOK.out with e | e; (exact absurd (congrArg Prod.snd e) hne); (have := e.2; simp only at this; rw [HDL.out, this, HLL.out])) (by omega)
            go_wp2_with (first | (go_at_call 88; refine (HBE.out _ (by exact (by repeat (first | with_reducible exact Below.refl _ _ | with_reducible assumption | with_reducible refine Below.drew ?_ | with_reducible refine below_drewN ?_ _ | (with_reducible refine Below.alloc ?_ ?_ _; rotate_left; (try simp) <;> omega) | (with_reducible refine Below.setCell ?_ ?_ _; rotate_left; (try simp) <;> omega))))).mono ?_; rintro e w2 ⟨rfl, hb2⟩; rw [HBB.out]; have hb12 : Below w1.heap.size w1 w2 := Below.trans (by exact (by repeat (first | with_reducible exact Below.refl _ _ | with_reducible assumption | with_reducible refine Below.drew ?_ | with_reducible refine below_drewN ?_ _ | (with_reducible refine Below.alloc ?_ ?_ _; rotate_left; (try simp) <;> omega) | (with_reducible refine Below.setCell ?_ ?_ _; rotate_left; (try simp) <;> omega)))) (hb2.mono (by first | exact Nat.le_refl _ | simp)); have s9 := HS8.out.step hb12; have q3'' := s9.k3.cell 0 rfl; have q5'' := s9.k5.cell 0 rfl; have hln'' := fun ty => s9.mp.len ty; obtain ⟨B1, cb1, k91, _, _⟩ := s9.k9; have f5' := s9.k5.fro 0; have f9' := k91.fro 0; have q9' := k91.cell 0 rfl; have HS9 := Lib.hid s9; clear s9 hln' q3' q5' q9 f5 f9))
            have h5o := (ownsRow_lies ho5)
            have hge : ∀ ad, A5 = some ad → w0.heap.size + 5 ≤ ad.block := fun ad e => by have := own_ge ho5 ad e; omega
            first | refine bodyPost_ret (results_none rfl _ _ _) rfl ⟨rfl, nn, Nat.le_refl _, ?_⟩ | refine bodyPost_end (results_none rfl _ _ _) rfl ⟨rfl, nn, Nat.le_refl _, ?_⟩
            rw [HR.out]
            exact HS9.out.found ((h5o.below (hb12) (Nat.le_refl _)).more (hb12).size) hge
          | false =>
            have HR : Hid (R = (s1, s2)) := by show _ = _; rw [HLF2.out]; dsimp only; rw [if_neg (by intro h; exact h.1 rfl), if_neg (by intro h; rcases h with h | h; (exact h3 h); (rw [hbb] at h; cases h))]
            have HBB := Lib.hid hbb
            clear HLF2 hbb
            go_enter Try.func87, Try.ntmps87
            go_upto_region 8 with (first | (go_at_call 83; refine HEF.out.mono ?_; rintro e w1 h83; obtain ⟨v5, rfl, ho5, hb1⟩ := h83; obtain ⟨A5, c5, rfl, _, _⟩ := ownsSlice ho5; have x8 := HK8.out w1 hb1; have s8 := HS.out.step hb1; have q3' := s8.k3.cell 0 rfl; have q5' := s8.k5.cell 0 rfl; have hln' := fun ty => s8.drew.mp.len ty; obtain ⟨B0, cb, k9, kl, kg⟩ := s8.k9; have q9 := k9.cell 0 rfl; have f5 := s8.k5.fro 0; have f9 := k9.fro 0; have HS8 := Lib.hid s8; clear s8 hln q3 q5 q6 q7 q1))
            refine wp_region_held_drew (S := (fun w' => w'.cell? ⟨b8, 0, none⟩ = some (.slice L0 L.length cl))) (by kernel_rfl) ?_ (fun hHeld => ?_)
            · exact x8
            refine tk 0 51 ?_
            refine tk 1 52 ?_
            refine tk 2 53 ?_
            refine tk 3 54 ?_
            refine tk 4 55 ?_
            refine tk 5 56 ?_
            refine tk 6 57 ?_
            refine sk 7 58 ?_
            refine sk 8 59 ?_
            refine sk 9 60 ?_
            refine sk 10 61 ?_
            refine sk 11 62 ?_
            refine sk 12 63 ?_
            refine sk 13 64 ?_
            refine sk 14 65 ?_
            refine sk 15 66 ?_
            refine sk 16 67 ?_
            refine sk 17 68 ?_
            refine sk 18 69 ?_
            refine sk 19 70 ?_
            refine tk 20 71 ?_
            refine tk 21 72 ?_
            refine wpAnyH_done (by kernel_rfl) ?_ _
            clear hHeld
            have HBE : Hid (∀ W', Below w1.heap.size w1 W' → Calls Try.prog 88 #[.slice A5 0 c5, .slice B0 s2.length cb] W' (ShEnd (betB [] s2) W')) := fun W' hb => better_any [] s2 A5 B0 c5 cb W' (((ownsRow_lies ho5).below hb (Nat.le_refl _)).more hb.size) ((kl.below hb (Nat.le_refl _)).more hb.size) (fun hne => by rcases HOK.out with e | e; (exact absurd (congrArg Prod.snd e) hne); (have := e.2; simp only at this; rw [HDL.out, this, HLL.out])) (by omega)
            go_wp2_with (first | (go_at_call 88; refine (HBE.out _ (by exact (by repeat (first | with_reducible exact Below.refl _ _ | with_reducible assumption | with_reducible refine Below.drew ?_ | with_reducible refine below_drewN ?_ _ | (with_reducible refine Below.alloc ?_ ?_ _; rotate_left; (try simp) <;> omega) | (with_reducible refine Below.setCell ?_ ?_ _; rotate_left; (try simp) <;> omega))))).mono ?_; rintro e w2 ⟨rfl, hb2⟩; rw [HBB.out]; have hb12 : Below w1.heap.size w1 w2 := Below.trans (by exact (by repeat (first | with_reducible exact Below.refl _ _ | with_reducible assumption | with_reducible refine Below.drew ?_ | with_reducible refine below_drewN ?_ _ | (with_reducible refine Below.alloc ?_ ?_ _; rotate_left; (try simp) <;> omega) | (with_reducible refine Below.setCell ?_ ?_ _; rotate_left; (try simp) <;> omega)))) (hb2.mono (by first | exact Nat.le_refl _ | simp)); have s9 := HS8.out.step hb12; have q3'' := s9.k3.cell 0 rfl; have q5'' := s9.k5.cell 0 rfl; have hln'' := fun ty => s9.mp.len ty; obtain ⟨B1, cb1, k91, _, _⟩ := s9.k9; have f5' := s9.k5.fro 0; have f9' := k91.fro 0; have q9' := k91.cell 0 rfl; have HS9 := Lib.hid s9; clear s9 hln' q3' q5' q9 f5 f9))
            first | refine bodyPost_ret (results_none rfl _ _ _) rfl ⟨rfl, nn, Nat.le_refl _, ?_⟩ | refine bodyPost_end (results_none rfl _ _ _) rfl ⟨rfl, nn, Nat.le_refl _, ?_⟩
            rw [HR.out]
            exact HS9.out
      · have hpos : 0 < D.length := List.length_pos_iff.2 hn0
        have hposI : (0 : Int) < (D.length : Int) := by omega
        have hposL : 0 < L.length := by have := HDL.out; omega
        have hposLI : (0 : Int) < (L.length : Int) := by omega
        have hl12L : L.length ≤ 12 := by have := HDL.out; omega
        have hk5 : D.length - 1 < D.length := by omega
        have hk6 : L.length - 1 < L.length := by omega
        have W5 : IntKind.i64.wrap ((D.length : Int) - 1) = (D.length : Int) - 1 := IntWalk.i64_in _ (by omega)
        have WL5 := Lib.hid W5
        clear W5
        have W6 : IntKind.i64.wrap ((L.length : Int) - 1) = (L.length : Int) - 1 := IntWalk.i64_in _ (by omega)
        have W5 := WL5.out
        have e5 : ((D.length : Int) - 1).toNat = D.length - 1 := by clear W5 W6; omega
        have e6 : ((L.length : Int) - 1).toNat = L.length - 1 := by clear W5 W6 e5; omega
        have g5 : 0 ≤ (D.length : Int) - 1 := by clear W5 W6 e5 e6; omega
        have g6 : 0 ≤ (L.length : Int) - 1 := by clear W5 W6 e5 e6; omega
        have g7 : (D.length : Int) - 1 < (D.length : Int) := by clear W5 W6 e5 e6; omega
        have g8 : (L.length : Int) - 1 < (L.length : Int) := by clear W5 W6 e5 e6; omega
        have g9 : 1 ≤ (D.length : Int) := by clear W5 W6 e5 e6; omega
        have g10 : 1 ≤ (L.length : Int) := by clear W5 W6 e5 e6; omega
        have HWS := Lib.hid (And.intro W5 (And.intro W6 (And.intro e5 e6)))
        clear W5 W6 e5 e6 WL5
        obtain ⟨xd, HD5⟩ : ∃ x, Hid (D[D.length - 1]'hk5 = x) := ⟨_, rfl⟩
        obtain ⟨xl, HD6⟩ : ∃ x, Hid (L[L.length - 1]'hk6 = x) := ⟨_, rfl⟩
        have HLD : Hid (endL D = xd) := by show _ = _; unfold endL; rw [List.getD_eq_getElem?_getD, List.getElem?_eq_getElem hk5]; exact HD5.out
        have HLL2 : Hid (endL L = xl) := by show _ = _; unfold endL; rw [List.getD_eq_getElem?_getD, List.getElem?_eq_getElem hk6]; exact HD6.out
        by_cases hxe : xd = xl
        · have hxb : (xd != xl) = false := by simpa using hxe
          have HXE := Lib.hid hxe
          clear hxe
          by_cases h3 : s1 < (sz : Int)
          · have HR : Hid (R = ((sz : Int), D)) := by show _ = _; rw [HLF2.out]; dsimp only; rw [if_neg (by intro h; apply h.2; rw [HLD.out, HLL2.out]; exact HXE.out), if_pos (.inl h3)]
            clear HLF2
            go_enter Try.func87, Try.ntmps87
            go_upto_region 8 with (first | (go_at_call 83; refine HEF.out.mono ?_; rintro e w1 h83; obtain ⟨v5, rfl, ho5, hb1⟩ := h83; obtain ⟨A5, c5, rfl, _, _⟩ := ownsSlice ho5; have x8 := HK8.out w1 hb1; have s8 := HS.out.step hb1; have q3' := s8.k3.cell 0 rfl; have q5' := s8.k5.cell 0 rfl; have hln' := fun ty => s8.drew.mp.len ty; obtain ⟨B0, cb, k9, kl, kg⟩ := s8.k9; have q9 := k9.cell 0 rfl; have f5 := s8.k5.fro 0; have f9 := k9.fro 0; have HS8 := Lib.hid s8; clear s8 hln q3 q5 q6 q7 q1))
            obtain ⟨a5, ea5, _, d5⟩ := int_at (ownsRow_lies ho5) hk5
            obtain ⟨a6, ea6, _, d6⟩ := int_at (HLW.out w1 hb1) hk6
            subst ea5
            subst ea6
            rw [HD5.out] at d5
            rw [HD6.out] at d6
            obtain ⟨W5, W6, e5, e6⟩ := HWS.out
            refine wp_region_held_drew (S := (fun w' => w'.cell? ⟨b8, 0, none⟩ = some (.slice (some a6) L.length cl) ∧ w'.cell? (a5.add (D.length - 1)) = some (.int .i64 xd) ∧ w'.cell? (a6.add (L.length - 1)) = some (.int .i64 xl))) (by kernel_rfl) ?_ (fun hHeld => ?_)
            · exact ⟨x8, d5, d6⟩
            refine tk 0 51 ?_
            refine tk 1 52 ?_
            refine tk 2 53 ?_
            refine tk 3 54 ?_
            refine tk 4 55 ?_
            refine tk 5 56 ?_
            refine tk 6 57 ?_
            refine tk 7 58 ?_
            refine tk 8 59 ?_
            refine tk 9 60 ?_
            refine tk 10 61 ?_
            refine tk 11 62 ?_
            refine tk 12 63 ?_
            refine tk 13 64 ?_
            refine tk 14 65 ?_
            refine tk 15 66 ?_
            refine tk 16 67 ?_
            refine tk 17 68 ?_
            refine tk 18 69 ?_
            refine tk 19 70 ?_
            refine tk 20 71 ?_
            refine tk 21 72 ?_
            refine wpAnyH_done (by kernel_rfl) ?_ _
            clear hHeld
            have HBE : Hid (∀ W', Below w1.heap.size w1 W' → Calls Try.prog 88 #[.slice (some a5) D.length c5, .slice B0 s2.length cb] W' (ShEnd (betB D s2) W')) := fun W' hb => better_any D s2 (some a5) B0 c5 cb W' (((ownsRow_lies ho5).below hb (Nat.le_refl _)).more hb.size) ((kl.below hb (Nat.le_refl _)).more hb.size) (fun hne => by rcases HOK.out with e | e; (exact absurd (congrArg Prod.snd e) hne); (have := e.2; simp only at this; rw [HDL.out, this, HLL.out])) (by omega)
            go_wp2
            have h5o := (ownsRow_lies ho5)
            have hge : ∀ ad, some a5 = some ad → w0.heap.size + 5 ≤ ad.block := fun ad e => by have := own_ge ho5 ad e; omega
            first | refine bodyPost_ret (results_none rfl _ _ _) rfl ⟨rfl, nn, Nat.le_refl _, ?_⟩ | refine bodyPost_end (results_none rfl _ _ _) rfl ⟨rfl, nn, Nat.le_refl _, ?_⟩
            rw [HR.out]
            exact HS8.out.drew.found ((h5o.below ((Below.refl w1.heap.size w1).drew) (Nat.le_refl _)).more ((Below.refl w1.heap.size w1).drew).size) hge
          · cases hbb : betB D s2 with
            | true =>
              have HR : Hid (R = ((sz : Int), D)) := by show _ = _; rw [HLF2.out]; dsimp only; rw [if_neg (by intro h; apply h.2; rw [HLD.out, HLL2.out]; exact HXE.out), if_pos (.inr hbb)]
              have HBB := Lib.hid hbb
              clear HLF2 hbb
              go_enter Try.func87, Try.ntmps87
              go_upto_region 8 with (first | (go_at_call 83; refine HEF.out.mono ?_; rintro e w1 h83; obtain ⟨v5, rfl, ho5, hb1⟩ := h83; obtain ⟨A5, c5, rfl, _, _⟩ := ownsSlice ho5; have x8 := HK8.out w1 hb1; have s8 := HS.out.step hb1; have q3' := s8.k3.cell 0 rfl; have q5' := s8.k5.cell 0 rfl; have hln' := fun ty => s8.drew.mp.len ty; obtain ⟨B0, cb, k9, kl, kg⟩ := s8.k9; have q9 := k9.cell 0 rfl; have f5 := s8.k5.fro 0; have f9 := k9.fro 0; have HS8 := Lib.hid s8; clear s8 hln q3 q5 q6 q7 q1))
              obtain ⟨a5, ea5, _, d5⟩ := int_at (ownsRow_lies ho5) hk5
              obtain ⟨a6, ea6, _, d6⟩ := int_at (HLW.out w1 hb1) hk6
              subst ea5
              subst ea6
              rw [HD5.out] at d5
              rw [HD6.out] at d6
              obtain ⟨W5, W6, e5, e6⟩ := HWS.out
              refine wp_region_held_drew (S := (fun w' => w'.cell? ⟨b8, 0, none⟩ = some (.slice (some a6) L.length cl) ∧ w'.cell? (a5.add (D.length - 1)) = some (.int .i64 xd) ∧ w'.cell? (a6.add (L.length - 1)) = some (.int .i64 xl))) (by kernel_rfl) ?_ (fun hHeld => ?_)
              · exact ⟨x8, d5, d6⟩
              refine tk 0 51 ?_
              refine tk 1 52 ?_
              refine tk 2 53 ?_
              refine tk 3 54 ?_
              refine tk 4 55 ?_
              refine tk 5 56 ?_
              refine tk 6 57 ?_
              refine tk 7 58 ?_
              refine tk 8 59 ?_
              refine tk 9 60 ?_
              refine tk 10 61 ?_
              refine tk 11 62 ?_
              refine tk 12 63 ?_
              refine tk 13 64 ?_
              refine tk 14 65 ?_
              refine tk 15 66 ?_
              refine tk 16 67 ?_
              refine tk 17 68 ?_
              refine tk 18 69 ?_
              refine tk 19 70 ?_
              refine tk 20 71 ?_
              refine tk 21 72 ?_
              refine wpAnyH_done (by kernel_rfl) ?_ _
              clear hHeld
              have HBE : Hid (∀ W', Below w1.heap.size w1 W' → Calls Try.prog 88 #[.slice (some a5) D.length c5, .slice B0 s2.length cb] W' (ShEnd (betB D s2) W')) := fun W' hb => better_any D s2 (some a5) B0 c5 cb W' (((ownsRow_lies ho5).below hb (Nat.le_refl _)).more hb.size) ((kl.below hb (Nat.le_refl _)).more hb.size) (fun hne => by rcases HOK.out with e | e; (exact absurd (congrArg Prod.snd e) hne); (have := e.2; simp only at this; rw [HDL.out, this, HLL.out])) (by omega)
              go_wp2_with (first | (go_at_call 88; refine (HBE.out _ (by exact (by repeat (first | with_reducible exact Below.refl _ _ | with_reducible assumption | with_reducible refine Below.drew ?_ | with_reducible refine below_drewN ?_ _ | (with_reducible refine Below.alloc ?_ ?_ _; rotate_left; (try simp) <;> omega) | (with_reducible refine Below.setCell ?_ ?_ _; rotate_left; (try simp) <;> omega))))).mono ?_; rintro e w2 ⟨rfl, hb2⟩; rw [HBB.out]; have hb12 : Below w1.heap.size w1 w2 := Below.trans (by exact (by repeat (first | with_reducible exact Below.refl _ _ | with_reducible assumption | with_reducible refine Below.drew ?_ | with_reducible refine below_drewN ?_ _ | (with_reducible refine Below.alloc ?_ ?_ _; rotate_left; (try simp) <;> omega) | (with_reducible refine Below.setCell ?_ ?_ _; rotate_left; (try simp) <;> omega)))) (hb2.mono (by first | exact Nat.le_refl _ | simp)); have s9 := HS8.out.step hb12; have q3'' := s9.k3.cell 0 rfl; have q5'' := s9.k5.cell 0 rfl; have hln'' := fun ty => s9.mp.len ty; obtain ⟨B1, cb1, k91, _, _⟩ := s9.k9; have f5' := s9.k5.fro 0; have f9' := k91.fro 0; have q9' := k91.cell 0 rfl; have HS9 := Lib.hid s9; clear s9 hln' q3' q5' q9 f5 f9))
              have h5o := (ownsRow_lies ho5)
              have hge : ∀ ad, some a5 = some ad → w0.heap.size + 5 ≤ ad.block := fun ad e => by have := own_ge ho5 ad e; omega
              first | refine bodyPost_ret (results_none rfl _ _ _) rfl ⟨rfl, nn, Nat.le_refl _, ?_⟩ | refine bodyPost_end (results_none rfl _ _ _) rfl ⟨rfl, nn, Nat.le_refl _, ?_⟩
              rw [HR.out]
              exact HS9.out.found ((h5o.below (hb12) (Nat.le_refl _)).more (hb12).size) hge
            | false =>
              have HR : Hid (R = (s1, s2)) := by show _ = _; rw [HLF2.out]; dsimp only; rw [if_neg (by intro h; apply h.2; rw [HLD.out, HLL2.out]; exact HXE.out), if_neg (by intro h; rcases h with h | h; (exact h3 h); (rw [hbb] at h; cases h))]
              have HBB := Lib.hid hbb
              clear HLF2 hbb
              go_enter Try.func87, Try.ntmps87
              go_upto_region 8 with (first | (go_at_call 83; refine HEF.out.mono ?_; rintro e w1 h83; obtain ⟨v5, rfl, ho5, hb1⟩ := h83; obtain ⟨A5, c5, rfl, _, _⟩ := ownsSlice ho5; have x8 := HK8.out w1 hb1; have s8 := HS.out.step hb1; have q3' := s8.k3.cell 0 rfl; have q5' := s8.k5.cell 0 rfl; have hln' := fun ty => s8.drew.mp.len ty; obtain ⟨B0, cb, k9, kl, kg⟩ := s8.k9; have q9 := k9.cell 0 rfl; have f5 := s8.k5.fro 0; have f9 := k9.fro 0; have HS8 := Lib.hid s8; clear s8 hln q3 q5 q6 q7 q1))
              obtain ⟨a5, ea5, _, d5⟩ := int_at (ownsRow_lies ho5) hk5
              obtain ⟨a6, ea6, _, d6⟩ := int_at (HLW.out w1 hb1) hk6
              subst ea5
              subst ea6
              rw [HD5.out] at d5
              rw [HD6.out] at d6
              obtain ⟨W5, W6, e5, e6⟩ := HWS.out
              refine wp_region_held_drew (S := (fun w' => w'.cell? ⟨b8, 0, none⟩ = some (.slice (some a6) L.length cl) ∧ w'.cell? (a5.add (D.length - 1)) = some (.int .i64 xd) ∧ w'.cell? (a6.add (L.length - 1)) = some (.int .i64 xl))) (by kernel_rfl) ?_ (fun hHeld => ?_)
              · exact ⟨x8, d5, d6⟩
              refine tk 0 51 ?_
              refine tk 1 52 ?_
              refine tk 2 53 ?_
              refine tk 3 54 ?_
              refine tk 4 55 ?_
              refine tk 5 56 ?_
              refine tk 6 57 ?_
              refine tk 7 58 ?_
              refine tk 8 59 ?_
              refine tk 9 60 ?_
              refine tk 10 61 ?_
              refine tk 11 62 ?_
              refine tk 12 63 ?_
              refine tk 13 64 ?_
              refine tk 14 65 ?_
              refine tk 15 66 ?_
              refine tk 16 67 ?_
              refine tk 17 68 ?_
              refine tk 18 69 ?_
              refine tk 19 70 ?_
              refine tk 20 71 ?_
              refine tk 21 72 ?_
              refine wpAnyH_done (by kernel_rfl) ?_ _
              clear hHeld
              have HBE : Hid (∀ W', Below w1.heap.size w1 W' → Calls Try.prog 88 #[.slice (some a5) D.length c5, .slice B0 s2.length cb] W' (ShEnd (betB D s2) W')) := fun W' hb => better_any D s2 (some a5) B0 c5 cb W' (((ownsRow_lies ho5).below hb (Nat.le_refl _)).more hb.size) ((kl.below hb (Nat.le_refl _)).more hb.size) (fun hne => by rcases HOK.out with e | e; (exact absurd (congrArg Prod.snd e) hne); (have := e.2; simp only at this; rw [HDL.out, this, HLL.out])) (by omega)
              go_wp2_with (first | (go_at_call 88; refine (HBE.out _ (by exact (by repeat (first | with_reducible exact Below.refl _ _ | with_reducible assumption | with_reducible refine Below.drew ?_ | with_reducible refine below_drewN ?_ _ | (with_reducible refine Below.alloc ?_ ?_ _; rotate_left; (try simp) <;> omega) | (with_reducible refine Below.setCell ?_ ?_ _; rotate_left; (try simp) <;> omega))))).mono ?_; rintro e w2 ⟨rfl, hb2⟩; rw [HBB.out]; have hb12 : Below w1.heap.size w1 w2 := Below.trans (by exact (by repeat (first | with_reducible exact Below.refl _ _ | with_reducible assumption | with_reducible refine Below.drew ?_ | with_reducible refine below_drewN ?_ _ | (with_reducible refine Below.alloc ?_ ?_ _; rotate_left; (try simp) <;> omega) | (with_reducible refine Below.setCell ?_ ?_ _; rotate_left; (try simp) <;> omega)))) (hb2.mono (by first | exact Nat.le_refl _ | simp)); have s9 := HS8.out.step hb12; have q3'' := s9.k3.cell 0 rfl; have q5'' := s9.k5.cell 0 rfl; have hln'' := fun ty => s9.mp.len ty; obtain ⟨B1, cb1, k91, _, _⟩ := s9.k9; have f5' := s9.k5.fro 0; have f9' := k91.fro 0; have q9' := k91.cell 0 rfl; have HS9 := Lib.hid s9; clear s9 hln' q3' q5' q9 f5 f9))
              first | refine bodyPost_ret (results_none rfl _ _ _) rfl ⟨rfl, nn, Nat.le_refl _, ?_⟩ | refine bodyPost_end (results_none rfl _ _ _) rfl ⟨rfl, nn, Nat.le_refl _, ?_⟩
              rw [HR.out]
              exact HS9.out
        · have hxb : (xd != xl) = true := by simpa using hxe
          have HR : Hid (R = (s1, s2)) := by show _ = _; rw [HLF2.out]; dsimp only; rw [if_pos ⟨hn0, by rw [HLD.out, HLL2.out]; exact hxe⟩]
          clear HLF2
          go_enter Try.func87, Try.ntmps87
          go_upto_region 8 with (first | (go_at_call 83; refine HEF.out.mono ?_; rintro e w1 h83; obtain ⟨v5, rfl, ho5, hb1⟩ := h83; obtain ⟨A5, c5, rfl, _, _⟩ := ownsSlice ho5; have x8 := HK8.out w1 hb1; have s8 := HS.out.step hb1; have q3' := s8.k3.cell 0 rfl; have q5' := s8.k5.cell 0 rfl; have hln' := fun ty => s8.drew.mp.len ty; obtain ⟨B0, cb, k9, kl, kg⟩ := s8.k9; have q9 := k9.cell 0 rfl; have f5 := s8.k5.fro 0; have f9 := k9.fro 0; have HS8 := Lib.hid s8; clear s8 hln q3 q5 q6 q7 q1))
          obtain ⟨a5, ea5, _, d5⟩ := int_at (ownsRow_lies ho5) hk5
          obtain ⟨a6, ea6, _, d6⟩ := int_at (HLW.out w1 hb1) hk6
          subst ea5
          subst ea6
          rw [HD5.out] at d5
          rw [HD6.out] at d6
          obtain ⟨W5, W6, e5, e6⟩ := HWS.out
          refine wp_region_held_drew (S := (fun w' => w'.cell? ⟨b8, 0, none⟩ = some (.slice (some a6) L.length cl) ∧ w'.cell? (a5.add (D.length - 1)) = some (.int .i64 xd) ∧ w'.cell? (a6.add (L.length - 1)) = some (.int .i64 xl))) (by kernel_rfl) ?_ (fun hHeld => ?_)
          · exact ⟨x8, d5, d6⟩
          refine tk 0 51 ?_
          refine tk 1 52 ?_
          refine tk 2 53 ?_
          refine tk 3 54 ?_
          refine tk 4 55 ?_
          refine tk 5 56 ?_
          refine tk 6 57 ?_
          refine tk 7 58 ?_
          refine tk 8 59 ?_
          refine tk 9 60 ?_
          refine tk 10 61 ?_
          refine tk 11 62 ?_
          refine tk 12 63 ?_
          refine tk 13 64 ?_
          refine tk 14 65 ?_
          refine tk 15 66 ?_
          refine tk 16 67 ?_
          refine tk 17 68 ?_
          refine tk 18 69 ?_
          refine tk 19 70 ?_
          refine tk 20 71 ?_
          refine tk 21 72 ?_
          refine wpAnyH_done (by kernel_rfl) ?_ _
          clear hHeld
          go_wp2
          first | refine bodyPost_ret (results_none rfl _ _ _) rfl ⟨rfl, nn, Nat.le_refl _, ?_⟩ | refine bodyPost_end (results_none rfl _ _ _) rfl ⟨rfl, nn, Nat.le_refl _, ?_⟩
          rw [HR.out]
          exact HS8.out.drew
end Go.Proofs.Ytjgnikmnadmheaa

namespace Go.Proofs.Ytjgnikmnadmheaa
open Go.RowKit

theorem szK_fput {fx : Nat → Option Int} {t : Nat} {d : Int} (h : fx t = none) : ∀ k, szK (fput fx t d) k = szK fx k + if t < k then 1 else 0
  | 0 => by show (0 : Int) = 0 + _; rw [if_neg (by omega)]; rfl
  | k + 1 => by
    show szK (fput fx t d) k + (if (fput fx t d k).isSome = true then 1 else 0) = szK fx k + (if (fx k).isSome = true then 1 else 0) + _
    rw [szK_fput h k]
    by_cases e : k = t
    · subst e
      have : fput fx k d k = some d := by unfold fput; rw [if_pos rfl]
      rw [this, h, if_neg (show ¬ k < k by omega), if_pos (show k < k + 1 by omega)]
      simp
    · have : fput fx t d k = fx k := by unfold fput; rw [if_neg e]
      rw [this]
      by_cases h2 : t < k
      · rw [if_pos h2, if_pos (show t < k + 1 by omega)]; omega
      · rw [if_neg h2, if_neg (show ¬ t < k + 1 by omega)]; omega
theorem gPut_fput (g : Int → Option Int) (t : Nat) (d : Int) : (fun i : Nat => gPut g t d (i : Int)) = fput (fun i : Nat => g (i : Int)) t d := by
  funext i
  unfold gPut fput
  by_cases h : i = t
  · subst h; rw [if_pos rfl, if_pos rfl]
  · rw [if_neg h, if_neg (by omega)]
theorem gDel_gPut (g : Int → Option Int) (t d : Int) (h : g t = none) : gDel (gPut g t d) t = g := by
  funext x
  unfold gDel gPut
  by_cases e : x = t
  · subst e; rw [if_pos rfl, h]
  · rw [if_neg e, if_neg e]
theorem ChSt.mapped {w0 W W' : World} {b1 b2 b6 b7 b8 nn nn' sz sz' : Nat} {g g' : Int → Option Int} {s : St2} (h : ChSt w0 W b1 b2 b6 b7 b8 nn sz g s) (hm : MapC W' (w0.heap.size + 2) nn' sz' g') (hg : W.grownBy W' (some (w0.heap.size + 2))) : ChSt w0 W' b1 b2 b6 b7 b8 nn' sz' g' s := by
  have hz := h.hz
  have h0 := h.bel.size
  obtain ⟨B0, cb, k9, kl, kg⟩ := h.k9
  have hne : ∀ k, k ≠ w0.heap.size + 2 → some k ≠ some (w0.heap.size + 2) := fun k hk e => hk (Option.some.inj e)
  refine ⟨h.bel.grown hg h0 (fun k e => by cases e; omega), Nat.le_trans hz hg.size, ⟨B0, cb, k9.grown hg (hne _ (by omega)), ?_, kg⟩, h.k5.grown hg (hne _ (by omega)), hm, h.k3.grown hg (hne _ (by omega)), h.k4.grown hg (hne _ (by omega))⟩
  have hN : Nb W W' (w0.heap.size + 2) := ⟨hg.size, fun k hk e => hg.block k hk (hne k e)⟩
  exact hN.lies kl fun ad e => by have := kg ad e; omega

set_option maxRecDepth 100000 in
set_option maxHeartbeats 4000000 in
theorem choose_step {w0 : World} {b1 b2 b6 b7 b8 bj : Nat} {C : Array Value} {Y : Yd} {l : List Tk} {A : Option Addr} {c : Nat} {f : Int} {old : List Tu} {T : Option Addr} {ct : Nat} {ds : List Int} {D0 : Option Addr} {cd : Nat} {L : List Int} {L0 : Option Addr} {cl : Nat}
    (hF : ChFix w0 b1 b2 b6 b7 b8 bj C Y l A c f old T ct ds D0 cd L L0 cl) (t : Nat) (ht : t < l.length) (K nn sz : Nat) (g : Int → Option Int) (V : (Int → Option Int) → St2 → St2) (s : St2) (W : World) (hS : ChSt w0 W b1 b2 b6 b7 b8 nn sz g s) (hg0 : g (t : Int) = none) (hK : nn + (K + K + 1) ≤ 10000000)
    (I1 : ∀ d, dayAt old t = some d → ∀ W' nn', ChSt w0 W' b1 b2 b6 b7 b8 nn' (sz + 1) (gPut g t d) s → nn' ≤ nn + 1 → Calls Try.prog 87 (chArgs ((t : Int) + 1) b1 b2 w0.heap.size b6 b7 b8) W' (ChEnd w0 b1 b2 b6 b7 b8 (nn' + K) (sz + 1) (gPut g t d) (V (gPut g t d) s)))
    (I2 : ∀ W' nn', let s' := (match dayAt old t with | some d => V (gPut g t d) s | none => s); ChSt w0 W' b1 b2 b6 b7 b8 nn' sz g s' → nn' ≤ nn + 1 + K → Calls Try.prog 87 (chArgs ((t : Int) + 1) b1 b2 w0.heap.size b6 b7 b8) W' (ChEnd w0 b1 b2 b6 b7 b8 (nn' + K) sz g (V g s'))) :
    Calls Try.prog 87 (chArgs t b1 b2 w0.heap.size b6 b7 b8) W (ChEnd w0 b1 b2 b6 b7 b8 (nn + (K + K + 1)) sz g (V g (match dayAt old t with | some d => V (gPut g t d) s | none => s))) := by
  have hlt1 := hF.k1.lt
  have hlt2 := hF.k2.lt
  have hl12 := hF.vt.n
  have ho20 := hF.ho
  have hz := hS.hz
  have hw0 := hS.bel.size
  have q1 := (hF.k1.below hS.bel hlt1).cell 0 rfl
  have Q2 := Lib.hid (fun W' (hb : Below w0.heap.size w0 W') => (hF.k2.below hb hlt2).cell 0 rfl)
  have q2 := Q2.out W hS.bel
  have q3 := hS.k3.cell 0 rfl
  have q4 := hS.k4.cell 0 rfl
  have hti : i64v (t : Int) := by unfold i64v; omega
  have htI : (t : Int) < (l.length : Int) := by omega
  have ht0 : 0 ≤ (t : Int) := by omega
  have HW1 : Hid (IntKind.i64.wrap ((t : Int) + 1) = (t : Int) + 1) := IntWalk.i64_in _ (by omega)
  unfold chArgs at I1 I2 ⊢
  unfold chFn at q4
  by_cases hto : t < old.length
  · have htoI : (t : Int) < (old.length : Int) := by omega
    have HOL := Lib.hid (fun W' (hb : Below w0.heap.size w0 W') => (hF.old_.below hb (Nat.le_refl _)).more hb.size)
    have hgd : i64v old[t].day := hF.gi _ (List.getElem_mem hto)
    have hda : dayAt old t = some old[t].day := by unfold dayAt; rw [List.getElem?_eq_getElem hto]; rfl
    obtain ⟨aT, eT, _, c0, _, _⟩ := turn_at (HOL.out W hS.bel) hto
    have HC0 : Hid (∀ W', Below w0.heap.size w0 W' → W'.cell? (aT.add (t * 3)) = some (.int .i64 old[t].day)) := fun W' hb => by
      obtain ⟨aT', eT', _, c0', _, _⟩ := turn_at (HOL.out W' hb) hto
      rw [eT] at eT'; cases eT'; exact c0'
    subst eT
    rw [hda] at I2
    dsimp only at I2
    have J1 := Lib.hid (I1 _ hda)
    have J2 := Lib.hid I2
    rw [hda]
    dsimp only
    generalize old[t].day = d at *
    obtain ⟨W2, hrun, hm2, hg2⟩ := hS.drew.mp.put (by unfold maxLen; omega) hti hgd
    rw [hg0] at hm2
    simp only [Option.isSome_none, Bool.false_eq_true, if_false] at hm2
    have s2 := hS.drew.mapped hm2 hg2
    have HS2 := Lib.hid s2
    have hpg : gPut g t d (t : Int) = some d := by unfold gPut; rw [if_pos rfl]
    have HPG := Lib.hid hpg
    have HGD := Lib.hid (gDel_gPut g t d hg0)
    have hq2 : W2.cell? ⟨w0.heap.size + 3, 0, none⟩ = some (.map (some (w0.heap.size + 2))) ∧ W2.cell? ⟨b2, 0, none⟩ = some (.slice (some aT) old.length ct) ∧ W2.cell? (aT.add (t * 3)) = some (.int .i64 d) := ⟨s2.k3.cell 0 rfl, Q2.out W2 s2.bel, HC0.out W2 s2.bel⟩
    have HQ2 := Lib.hid hq2
    have q4' := s2.k4.cell 0 rfl
    unfold chFn at q4'
    have HQ4 := Lib.hid q4'
    clear hF I1 I2 hS hda hm2 hg2 s2 hpg hq2 q4 q4' hg0
    go_enter Try.func87, Try.ntmps87
    go_upto_region 2 with fail
    refine wp_region_held_drew (S := (fun w' => w'.cell? ⟨w0.heap.size + 3, 0, none⟩ = some (.map (some (w0.heap.size + 2))) ∧ w'.cell? ⟨b2, 0, none⟩ = some (.slice (some aT) old.length ct) ∧ w'.cell? (aT.add (t * 3)) = some (.int .i64 d))) (by kernel_rfl) ?_ (fun hHeld => ?_)
    · exact ⟨q3, q2, c0⟩
    refine tk 0 22 ?_
    refine tk 1 23 ?_
    refine tk 2 24 ?_
    refine tk 3 25 ?_
    refine tk 4 26 ?_
    refine tk 5 27 ?_
    refine tk 6 28 ?_
    refine tk 7 29 ?_
    refine held_one 8 ⟨none, .mapUpdate 108 (.tmp 22) (.tmp 23) (.tmp 29), _, _, _, none⟩ rfl (by kernel_rfl) (by rfl) ?_
    unfold Oper.wp
    go_simp
    refine ⟨HQ2.out, ?_⟩
    (try simp only [Act.put, List.setIfInBounds_toArray, List.set_cons_zero, List.set_cons_succ])
    refine wpAnyH_done (by kernel_rfl) ?_ _
    have q4 := HQ4.out
    have W1 := HW1.out
    clear hHeld q3 q2 c0 hrun
    go_wp2_with (first | (go_at_call 87; refine (J1.out W2 (nn + 1) HS2.out (Nat.le_refl _)).mono ?_; rintro e w3 ⟨rfl, nn3, hn3, s3⟩; obtain ⟨w4, hrun4, hm4, hg4⟩ := s3.mp.drop hti 0; rw [HPG.out] at hm4; simp only [Option.isSome_some, if_true, Nat.add_sub_cancel] at hm4; rw [HGD.out] at hm4; have s4 := s3.mapped hm4 hg4; have HS4 := Lib.hid s4; have q3 := s3.k3.cell 0 rfl; have q5 := s4.k4.cell 0 rfl; unfold chFn at q5; have HN3 := Lib.hid hn3; clear J1 hm4 hg4 s3 s4 hn3) | (go_at_call 87; refine (J2.out w4 nn3 HS4.out (by have := HN3.out; omega)).mono ?_; rintro e w5 ⟨rfl, nn5, hn5, s5⟩))
    refine bodyPost_ret (results_none rfl _ _ _) rfl ⟨rfl, nn5, ?_, s5⟩
    have := HN3.out
    omega
  · have htoI : ¬ (t : Int) < (old.length : Int) := by omega
    have hda : dayAt old t = none := by unfold dayAt; rw [List.getElem?_eq_none (by omega)]; rfl
    rw [hda] at I2
    dsimp only at I2
    have J2 := Lib.hid I2
    have HSS := Lib.hid hS
    rw [hda]
    dsimp only
    have W1 := HW1.out
    clear hF I1 I2 hS hda hg0
    go_enter Try.func87, Try.ntmps87
    go_wp2_with (go_at_call 87; refine (J2.out W nn HSS.out (by omega)).mono ?_; rintro e w5 ⟨rfl, nn5, hn5, s5⟩)
    refine bodyPost_ret (results_none rfl _ _ _) rfl ⟨rfl, nn5, ?_, s5⟩
    omega

def bnd : Nat → Nat
  | 0 => 0
  | m + 1 => bnd m + bnd m + 1
theorem choose_any {w0 : World} {b1 b2 b6 b7 b8 bj : Nat} {C : Array Value} {Y : Yd} {l : List Tk} {A : Option Addr} {c : Nat} {f : Int} {old : List Tu} {T : Option Addr} {ct : Nat} {ds : List Int} {D0 : Option Addr} {cd : Nat} {L : List Int} {L0 : Option Addr} {cl : Nat}
    (hF : ChFix w0 b1 b2 b6 b7 b8 bj C Y l A c f old T ct ds D0 cd L L0 cl) : ∀ (m : Nat), m ≤ l.length - ds.length → ∀ (W : World) (nn sz : Nat) (g : Int → Option Int) (s : St2), ChSt w0 W b1 b2 b6 b7 b8 nn sz g s → (sz : Int) = szK (fun i => g (i : Int)) l.length → FxOK old ds.length l.length (fun i => g (i : Int)) →
      (∀ i : Nat, l.length - m ≤ i → g (i : Int) = none) → SOK l.length s → nn + bnd m ≤ 10000000 →
      Calls Try.prog 87 (chArgs ((l.length - m : Nat) : Int) b1 b2 w0.heap.size b6 b7 b8) W (ChEnd w0 b1 b2 b6 b7 b8 (nn + bnd m) sz g (visit Y l f old ds (endL L) m (fun i => g (i : Int)) s))
  | 0, _, W, nn, sz, g, s, hS, hsz, _, _, hok, _ => choose_leaf hF W nn sz g s hS hsz hok
  | m + 1, hm, W, nn, sz, g, s, hS, hsz, hfx, hno, hok, hK => by
    have hd := hF.hd
    have htl : l.length - (m + 1) < l.length := by omega
    have hg0 : g ((l.length - (m + 1) : Nat) : Int) = none := hno _ (Nat.le_refl _)
    have e1 : (((l.length - (m + 1) : Nat) : Int) + 1) = ((l.length - m : Nat) : Int) := by omega
    have hp : ∀ d, dayAt old (l.length - (m + 1)) = some d → FxOK old ds.length l.length (fun i : Nat => gPut g ((l.length - (m + 1) : Nat) : Int) d (i : Int)) ∧ (∀ i : Nat, l.length - m ≤ i → gPut g ((l.length - (m + 1) : Nat) : Int) d (i : Int) = none) := fun d hd' => by
      refine ⟨fun i x hx => ?_, fun i hi => ?_⟩
      · dsimp only at hx
        unfold gPut at hx
        by_cases e : (i : Int) = ((l.length - (m + 1) : Nat) : Int)
        · rw [if_pos e] at hx
          cases hx
          have e2 : i = l.length - (m + 1) := by omega
          subst e2
          exact ⟨by omega, htl, hd'⟩
        · rw [if_neg e] at hx
          exact hfx i x hx
      · unfold gPut
        rw [if_neg (by omega)]
        exact hno i (by omega)
    have hzp : ∀ d, ((sz + 1 : Nat) : Int) = szK (fun i : Nat => gPut g ((l.length - (m + 1) : Nat) : Int) d (i : Int)) l.length := fun d => by
      rw [gPut_fput, szK_fput (fx := fun i : Nat => g (i : Int)) hg0, if_pos htl, ← hsz]; omega
    have ev : visit Y l f old ds (endL L) (m + 1) (fun i : Nat => g (i : Int)) s = visit Y l f old ds (endL L) m (fun i : Nat => g (i : Int)) (match dayAt old (l.length - (m + 1)) with
        | some d => visit Y l f old ds (endL L) m (fun i : Nat => gPut g ((l.length - (m + 1) : Nat) : Int) d (i : Int)) s
        | none => s) := by
      show visit Y l f old ds (endL L) m (fun i : Nat => g (i : Int)) (match dayAt old (l.length - (m + 1)) with
        | some d => visit Y l f old ds (endL L) m (fput (fun i : Nat => g (i : Int)) (l.length - (m + 1)) d) s
        | none => s) = _
      cases dayAt old (l.length - (m + 1)) with
      | none => rfl
      | some d => dsimp only; rw [gPut_fput]
    rw [ev]
    refine choose_step hF (l.length - (m + 1)) htl (bnd m) nn sz g (fun g s => visit Y l f old ds (endL L) m (fun i => g (i : Int)) s) s W hS hg0 hK (fun d hd' W' nn' h1 h2 => ?_) (fun W' nn' => ?_)
    · rw [e1]
      refine choose_any hF m (by omega) W' nn' (sz + 1) _ s h1 (hzp d) (hp d hd').1 (hp d hd').2 hok ?_
      have : nn + (bnd m + bnd m + 1) ≤ 10000000 := hK
      omega
    · intro s' h1 h2
      rw [e1]
      refine choose_any hF m (by omega) W' nn' sz g s' h1 hsz hfx (fun i hi => hno i (by omega)) ?_ ?_
      · show SOK l.length (match dayAt old (l.length - (m + 1)) with | some d => visit Y l f old ds (endL L) m (fun i => gPut g ((l.length - (m + 1) : Nat) : Int) d (i : Int)) s | none => s)
        cases hda : dayAt old (l.length - (m + 1)) with
        | none => exact hok
        | some d => exact (visit_spec (E := endL L) hd m _ s (by omega) (hp d hda).1 (hp d hda).2 hok).1
      · have : nn + (bnd m + bnd m + 1) ≤ 10000000 := hK
        omega
theorem bnd_le {n : Nat} (h : n ≤ 12) : bnd n ≤ 4095 := by
  have : ∀ m : Fin 13, bnd m.val ≤ 4095 := by decide
  exact this ⟨n, by omega⟩
def initW (w0 : World) : World := ((((w0.alloc (.cells #[.slice none 0 0] 25)).alloc (.cells #[.int .i64 (-1)] 3)).alloc (.map #[] 0)).alloc (.cells #[.map (some (w0.heap.size + 1 + 1))] 108)).alloc (.cells #[.nilFunc] 109)
theorem initW_fn (w0 : World) : Bk (initW w0) (w0.heap.size + 4) 109 #[.nilFunc] := by
  have h := Bk.new ((((w0.alloc (.cells #[.slice none 0 0] 25)).alloc (.cells #[.int .i64 (-1)] 3)).alloc (.map #[] 0)).alloc (.cells #[.map (some (w0.heap.size + 1 + 1))] 108)) 109 #[.nilFunc]
  rw [World.size_alloc, World.size_alloc, World.size_alloc, World.size_alloc] at h
  exact h
theorem chst_init (w0 : World) (b1 b2 b6 b7 b8 : Nat) : ChSt w0 ((initW w0).setCell ⟨w0.heap.size + 4, 0, none⟩ (chFn b1 b2 w0.heap.size b6 b7 b8)) b1 b2 b6 b7 b8 0 0 gNone (-1, []) := by
  have hsz : ((initW w0).setCell ⟨w0.heap.size + 4, 0, none⟩ (chFn b1 b2 w0.heap.size b6 b7 b8)).heap.size = w0.heap.size + 5 := by unfold initW; simp [World.setCell]
  have hfn := initW_fn w0
  refine ⟨?_, by rw [hsz]; exact Nat.le_refl _, ⟨none, 0, ?_, fun h => absurd rfl h, fun ad e => by cases e⟩, ?_, ?_, ?_, hfn.set 0 _⟩
  · exact Below.setCell ((((((Below.refl _ _).alloc (Nat.le_refl _) _).alloc (by simp) _).alloc (by simp; omega) _).alloc (by simp; omega) _).alloc (by simp; omega) _) (by dsimp only; omega) _
  · exact (((((Bk.new w0 25 _).alloc _).alloc _).alloc _).alloc _).far (p := ⟨w0.heap.size + 4, 0, none⟩) (by dsimp only; omega) _
  · have h := Bk.new (w0.alloc (.cells #[.slice none 0 0] 25)) 3 #[.int .i64 (-1)]
    rw [World.size_alloc] at h
    exact (((h.alloc _).alloc _).alloc _).far (p := ⟨w0.heap.size + 4, 0, none⟩) (by dsimp only; omega) _
  · have h := MapC.made ((w0.alloc (.cells #[.slice none 0 0] 25)).alloc (.cells #[.int .i64 (-1)] 3))
    rw [World.size_alloc, World.size_alloc] at h
    exact ((h.alloc _).alloc _).setCell (a := ⟨w0.heap.size + 4, 0, none⟩) (by dsimp only; omega) _
  · have h := Bk.new (((w0.alloc (.cells #[.slice none 0 0] 25)).alloc (.cells #[.int .i64 (-1)] 3)).alloc (.map #[] 0)) 108 #[.map (some (w0.heap.size + 1 + 1))]
    rw [World.size_alloc, World.size_alloc, World.size_alloc] at h
    exact (h.alloc _).far (p := ⟨w0.heap.size + 4, 0, none⟩) (by dsimp only; omega) _
end Go.Proofs.Ytjgnikmnadmheaa
