/- pigment.sorted, pigment.Groups (fns 89, 41): the true keys of a map, in ascending order. -/
import Derived.Maps.RangeWalk
import Derived.Sort.OwnSorted
import Derived.Test.YtkfeagokmcakgaaGreatDoorG02
import Derived.Test.YtkfeagokmcakgaaGreatDoorG07
import Derived.Test.YtkfeagokmcakgaaGreatDoorG13
import Derived.Test.YtkfeagokmcakgaaGreatDoorG16
import Derived.Test.YtkfeagokmcakgaaGreatDoorG23

set_option linter.unusedVariables false
set_option linter.unusedSimpArgs false

namespace Go.Proofs.YtkfeagokmcakgaaGreatDoor
open Go.RowKit Go.Maps

def byB (s : ByteArray) : List UInt8 := s.data.toList
theorem byB_inj {a b : ByteArray} (h : byB a = byB b) : a = b := bytes_inj h
def srtB (l : List ByteArray) : List ByteArray := l.mergeSort fun x y => decide (byB x ≤ byB y)
theorem enc_by (s : ByteArray) : Go.Proofs.encStr (byB s) = Value.string s := by
  show Value.string ⟨s.data.toList.toArray⟩ = _
  rw [Array.toArray_toList]
theorem strsC_enc (l : List ByteArray) : (l.map byB).map Go.Proofs.encStr = strsC l := by
  unfold strsC
  rw [List.map_map]
  exact List.map_congr_left fun s _ => enc_by s
theorem srt_map (l : List ByteArray) : (l.map byB).mergeSort (fun x y => decide (x ≤ y)) = (srtB l).map byB := by
  unfold srtB
  exact (List.map_mergeSort (f := byB) (r := fun x y => decide (byB x ≤ byB y)) (s := fun x y => decide (x ≤ y)) (fun a _ b _ => rfl)).symm
/-- the list of a set of names, in ascending order -/
structure SrtOf (R : List ByteArray) (p : ByteArray → Bool) : Prop where
  srt : R.Pairwise fun a b => byB a ≤ byB b
  nd : R.Nodup
  mem : ∀ s, s ∈ R ↔ (s.size ≤ maxLen ∧ p s = true)
theorem SrtOf.uniq {R R' : List ByteArray} {p : ByteArray → Bool} (h : SrtOf R p) (k : SrtOf R' p) : R = R' :=
  List.Perm.eq_of_pairwise (fun _ _ _ _ h1 h2 => byB_inj (List.le_antisymm h1 h2)) h.srt k.srt ((List.perm_ext_iff_of_nodup h.nd k.nd).2 fun s => (h.mem s).trans (k.mem s).symm)
theorem srtB_of {l : List ByteArray} {p : ByteArray → Bool} (hn : l.Nodup) (hm : ∀ s, s ∈ l ↔ (s.size ≤ maxLen ∧ p s = true)) : SrtOf (srtB l) p := by
  refine ⟨?_, (List.mergeSort_perm l _).nodup_iff.2 hn, fun s => ((List.mergeSort_perm l _).mem_iff).trans (hm s)⟩
  have h := List.pairwise_mergeSort (le := fun x y => decide (byB x ≤ byB y)) (fun a b c h1 h2 => by simp at h1 h2 ⊢; exact List.le_trans h1 h2) (fun a b => by simp; exact List.le_total _ _) l
  exact h.imp (by simp)
theorem srtB_len (l : List ByteArray) : (srtB l).length = l.length := List.length_mergeSort _
/-- what has come so far of a range over a map -/
structure Cm (g : ByteArray → Option Bool) (left : Lit → Bool) (acc : List ByteArray) : Prop where
  nd : acc.Nodup
  mem : ∀ s, s ∈ acc ↔ (s.size ≤ maxLen ∧ g s = some true ∧ left (.string (byB s)) = false)
  sub : ∀ s, s.size ≤ maxLen → left (.string (byB s)) = true → (g s).isSome = true
theorem Cm.start {g : ByteArray → Option Bool} {D : DataW Unit} (h : Reads mSB D g) : Cm g (Maps.has D) [] := by
  have h2 : ∀ s : ByteArray, s.size ≤ maxLen → Maps.has D (.string (byB s)) = (g s).isSome := fun s hs => (h s hs).2
  refine ⟨List.nodup_nil, fun s => ⟨fun hm => (by cases hm), ?_⟩, fun s hs hl => by rw [← h2 s hs]; exact hl⟩
  rintro ⟨hs, hg, hl⟩
  rw [h2 s hs, hg] at hl
  cases hl
theorem key_same {x s : ByteArray} : (Lit.string (byB s)).sameKey (.string (byB x)) = decide (s = x) := by
  by_cases h : s = x
  · subst h
    rw [decide_eq_true rfl]
    exact WideAt.sameKey_self trivial
  · rw [decide_eq_false h]
    cases hk : (Lit.string (byB s)).sameKey (.string (byB x))
    · rfl
    · have := WideAt.sameKey_eq hk
      injection this with h1
      exact absurd (byB_inj h1) h
theorem Cm.step {g : ByteArray → Option Bool} {left : Lit → Bool} {acc : List ByteArray} (h : Cm g left acc) {D : DataW Unit} (hr : Reads mSB D g) {x : ByteArray} {c : Bool} (hx : x.size ≤ maxLen) (hl : left (.string (byB x)) = true) (ha : ∀ zd, D.atKey (.string (byB x)) zd = .lit (.bool c)) :
    Cm g (fun z => left z && !z.sameKey (.string (byB x))) (if c = true then acc ++ [x] else acc) := by
  have h1 := (hr x hx).1
  have h2 : (DataW.lit (.bool c) : DataW Unit) = .lit (.bool ((g x).getD false)) := (ha _).symm.trans h1
  have h3 : c = (g x).getD false := by injection h2 with h2; injection h2
  have h4 := h.sub x hx hl
  have hg : g x = some c := by
    cases hgx : g x with
    | none => rw [hgx] at h4; cases h4
    | some d => rw [hgx] at h3; rw [h3]; rfl
  have hna : x ∉ acc := fun hm => by have := ((h.mem x).1 hm).2.2; rw [hl] at this; cases this
  refine ⟨?_, fun s => ?_, fun s hs hls => ?_⟩
  · split
    · rw [List.nodup_append]
      exact ⟨h.nd, by simp, fun a hin b hb => by simp at hb; subst hb; exact fun e => hna (e ▸ hin)⟩
    · exact h.nd
  · have e : (left (.string (byB s)) && !(Lit.string (byB s)).sameKey (.string (byB x))) = (left (.string (byB s)) && !decide (s = x)) := by rw [key_same]
    show _ ↔ _ ∧ _ ∧ (left (.string (byB s)) && !(Lit.string (byB s)).sameKey (.string (byB x))) = false
    rw [e]
    by_cases hsx : s = x
    · subst hsx
      rw [decide_eq_true rfl]
      cases c
      · simp only [Bool.false_eq_true, if_false]
        constructor
        · intro hm; exact absurd hm hna
        · rintro ⟨_, h6, _⟩; rw [hg] at h6; cases h6
      · simp only [if_true, List.mem_append, List.mem_singleton, or_true, true_iff]
        exact ⟨hx, hg, by simp⟩
    · rw [decide_eq_false hsx]
      have : (s ∈ if c = true then acc ++ [x] else acc) ↔ s ∈ acc := by
        split
        · simp [hsx]
        · rfl
      rw [this, h.mem s]
      simp
  · have h5 : left (.string (byB s)) = true := by
      simp only [Bool.and_eq_true] at hls; exact hls.1
    exact h.sub s hs h5
theorem Cm.done {g : ByteArray → Option Bool} {left : Lit → Bool} {acc : List ByteArray} (h : Cm g left acc) (hl : ∀ kl, left kl = false) : ∀ s, s ∈ acc ↔ (s.size ≤ maxLen ∧ decide (g s = some true) = true) := fun s => by
  rw [h.mem s, hl, decide_eq_true_eq]
  simp
theorem own_iter {w w' : World} {base r : Nat} {e : TypeId} {size n : Nat} {v : Value} {xs : List Value} (h : w.ownsRow base e size v n xs) (hg : w.grownBy w' (some r)) (hr : r < base) : w'.ownsRow base e size v n xs := by
  refine ⟨h.1, ?_⟩
  rcases h.2 with h2 | ⟨g, cap, cur, h1, h2, h3, h4⟩
  · exact .inl h2
  · have hgl : g < w.heap.size := (Array.getElem?_eq_some_iff.1 h3).1
    exact .inr ⟨g, cap, cur, h1, h2, (hg.block g hgl (by intro e; cases e; omega)).trans h3, h4⟩
theorem sortS_own {w : World} {base n c : Nat} {A : Option Addr} {L : List ByteArray} (h : w.ownsRow base 9 1 (.slice A n c) n (strsC L)) (hn : n = L.length) (hm : n ≤ 100000) (hb : base ≤ w.heap.size) :
    Calls Tryz.prog 128 #[.slice A n c] w fun e w' => e = .returned (.tuple #[]) ∧ w'.ownsRow base 9 1 (.slice A n c) n (strsC (srtB L)) ∧ Below base w w' := by
  subst hn
  rcases h.2 with ⟨h1, h2⟩ | ⟨g, cap, cur, h1, hbg, hg, h2, h3, h4, h5⟩
  · have hL : L = [] := List.eq_nil_of_length_eq_zero h2
    subst hL
    refine (Tryz.slices_Sort_string_none A c w).mono ?_
    rintro e w' ⟨rfl, rfl⟩
    exact ⟨rfl, by simpa [srtB] using h, Below.refl _ _⟩
  · cases h1
    have hlen : (L.map byB).length = L.length := by simp
    have hH : Go.Sort.Holds Go.Proofs.encStr w g 0 (L.map byB).toArray := holds_of_block hg (by rw [hlen, strsC_enc]; rw [Nat.mul_one] at h5; exact h5)
    have hs := Tryz.slices_Sort_string g 0 c (L.map byB) w hH (Array.getElem?_eq_some_iff.1 hg).1 (by rw [hlen]; omega)
    rw [hlen] at hs
    refine hs.mono ?_
    rintro e w' ⟨rfl, m, os, rfl⟩
    rw [srt_map]
    refine ⟨rfl, ?_, below_grown (grownBy_sorted _) (fun k e => by cases e; exact hbg) hb⟩
    have := ownsRow_sorted (n := m) (os := os) (ss := L.map byB) (ts := (srtB L).map byB) (by simp [srtB_len]) hbg hg (by rw [hlen]; exact h2) h3 h4
    rw [hlen, strsC_enc] at this
    exact this
/-- a list of names in new memory, in ascending order -/
def GpE (p : ByteArray → Bool) (w : World) (e : Ending) (w' : World) : Prop := ∃ R A c, SrtOf R p ∧ R.length ≤ 10000 ∧ e = .returned (.slice A R.length c) ∧ Lies w' w'.heap.size A (strsC R) ∧ (R.length ≤ c ∧ c ≤ maxLen) ∧ Below w.heap.size w w'

theorem next_sb {w : World} {ops : Array Oper} {rest : List Oper} {o : Oper} {a : Act} {Q : Exit → Act → World → Prop} (hg : o.guard = none) (it : Operand) (hop : o.op = Op.next it false) (b r n : Nat) (D : DataW Unit) (left : Lit → Bool) (cnt : Nat)
    (hit : a.eval it = .pointer (some ⟨r, 0, none⟩)) (h : w.ranges Tryz.prog 9 (plainElem Tryz.prog 4) b r n D left cnt)
    (hDone : (∀ kl, left kl = false) → wpList Tryz.prog ops Q rest (a.put o.dst (.tuple #[.bool false])) w)
    (hMoreF : ∀ (x : ByteArray) (w' : World) (cnt' : Nat), x.size ≤ maxLen → left (.string (byB x)) = true → (∀ zd, D.atKey (.string (byB x)) zd = .lit (.bool false)) → w'.ranges Tryz.prog 9 (plainElem Tryz.prog 4) b r n D (fun z => left z && !z.sameKey (.string (byB x))) cnt' → cnt' < cnt →
      w.grownBy w' (some r) → w'.heap.size = w.heap.size → (Instr.entry (.pointer (some ⟨r, 0, none⟩))).run Tryz.prog w' = .ok (.tuple #[.string x, .bool false]) w' → wpList Tryz.prog ops Q rest (a.put o.dst (.tuple #[.bool true, .string x, .bool false])) w')
    (hMoreT : ∀ (x : ByteArray) (w' : World) (cnt' : Nat), x.size ≤ maxLen → left (.string (byB x)) = true → (∀ zd, D.atKey (.string (byB x)) zd = .lit (.bool true)) → w'.ranges Tryz.prog 9 (plainElem Tryz.prog 4) b r n D (fun z => left z && !z.sameKey (.string (byB x))) cnt' → cnt' < cnt →
      w.grownBy w' (some r) → w'.heap.size = w.heap.size → (Instr.entry (.pointer (some ⟨r, 0, none⟩))).run Tryz.prog w' = .ok (.tuple #[.string x, .bool true]) w' → wpList Tryz.prog ops Q rest (a.put o.dst (.tuple #[.bool true, .string x, .bool true])) w') :
    wpList Tryz.prog ops Q (o :: rest) a w := by
  refine wpList_next_ranges w hg it hop 9 (string_keyed Tryz.underlying9) (plainElem Tryz.prog 4) Value.string Value.bool (fun key kl hk => by obtain ⟨x, h1, h2, h3⟩ := WideMaps.string_of_keyOf Tryz.underlying9 hk; exact ⟨x, h1⟩) (fun v y hv => by obtain ⟨c, _, h2, _⟩ := inv_bool Tryz.underlying4 hv; exact ⟨c, h2⟩)
    b r n D left cnt hit h (fun _ => hDone) (fun x c kl y w' cnt' hkey hlk hv hat hrg hlt hgr hsz hen => ?_)
  obtain ⟨x', ex, rfl, hx⟩ := WideMaps.string_of_keyOf Tryz.underlying9 hkey
  cases ex
  obtain ⟨c', _, ec, rfl⟩ := inv_bool Tryz.underlying4 hv
  cases ec
  cases c
  · exact hMoreF x w' cnt' hx hlk hat hrg hlt hgr hsz hen
  · exact hMoreT x w' cnt' hx hlk hat hrg hlt hgr hsz hen
set_option maxHeartbeats 1000000 in
set_option maxRecDepth 100000 in
theorem sorted_any (g : ByteArray → Option Bool) (b n : Nat) (w : World) (hm : MapG mSB w b n g) (hn : n ≤ 10000) : Calls Tryz.prog 89 #[.map (some b)] w (GpE (fun s => decide (g s = some true)) w) := by
  obtain ⟨D, hown, hrd⟩ := hm.out
  have HRD := Lib.hid hrd
  have hbl := hown.lt
  have hcs0 := hown.size_le
  clear hm hrd
  have hown : w.ownsMap Tryz.prog 9 (plainElem Tryz.prog 4) b n D := hown
  go_enter Tryz.func89, Tryz.ntmps89
  go_wp2_with (first
    | (at_range; refine wpList_range_own _ rfl _ 114 rfl 9 4 (string_keyed Tryz.underlying9) Tryz.underlying114 _ b n _ rfl hown ?_; intro w0 hrg0 hg0 hs0)
    | go_in)
  go_frame
  have hb0 : Below w.heap.size w w0 := (Below.refl _ _).grown hg0 (Nat.le_refl _) (fun j hj => by cases hj)
  go_loopw [3, 4, 5] (fun v _ _ wr => ∃ (left : Lit → Bool) (cnt : Nat) (acc : List ByteArray) (A : Option Addr) (c : Nat), Hid (wr.ranges Tryz.prog 9 (plainElem Tryz.prog 4) b w.heap.size n D left cnt) ∧ acc.length + cnt ≤ 10000 ∧ v = .slice A acc.length c ∧ Hid (Cm g left acc) ∧ Hid (wr.ownsRow (w.heap.size + 1) 9 1 (.slice A acc.length c) acc.length (strsC acc)) ∧ Below w.heap.size w wr)
    (fun _ _ _ wr => wr.rangeLeft b w.heap.size)
  case atStart => exact ⟨_, _, [], none, 0, hrg0, by simp; omega, rfl, Cm.start HRD.out, World.ownsRow_nil _ _ _ _, hb0⟩
  case round =>
    obtain ⟨left, cnt, acc, A, c, hrg, hcs, rfl, hC, ho, hbw⟩ := hrel
    go_wp2_with (first
      | (at_next; refine next_sb rfl _ rfl b w.heap.size n _ _ _ rfl hrg.out ?_ ?_ ?_)
      | go_in)
    · intro hl0
      have hS := Lib.hid (sortS_own ho.out rfl (by omega) (by have := hrg.out.lt; omega))
      have hR := Lib.hid (srtB_of hC.out.nd (hC.out.done hl0))
      have hbase : w.heap.size + 1 ≤ wr.heap.size := by have := hrg.out.lt; omega
      clear hrg hC ho HRD hown
      go_wp2_with (first | (go_at_call 128; refine hS.out.mono ?_; rintro e w5 ⟨rfl, ho5, hb5⟩))
      have hBE : Below w.heap.size w w5 := hbw.trans (hb5.mono (by omega))
      have hLI := Lib.hid (ownsRow_lies ho5)
      have hcap := ownsSlice ho5
      clear ho5 hb5 hbw hS
      go_ret
      obtain ⟨A7, c7, e7, h1, h2⟩ := hcap
      cases e7
      exact ⟨srtB acc, A, c, hR.out, by rw [srtB_len]; omega, by rw [srtB_len]; rfl, hLI.out, by rw [srtB_len]; exact ⟨h1, h2⟩, hBE⟩
    · intro x w1 cnt1 hx hlx hat hrg1 hlt hg1 hs1 hen
      have hC1 := Lib.hid (hC.out.step HRD.out hx hlx hat)
      have ho1 := Lib.hid (own_iter ho.out hg1 (Nat.lt_succ_self _))
      have hbw1 : Below w.heap.size w w1 := hbw.grown hg1 hbw.size (fun j hj => by cases hj; exact Nat.le_refl _)
      have hbase : w.heap.size + 1 ≤ w1.heap.size := by have := hrg1.lt; omega
      have HRG := Lib.hid hrg1
      have HME := Lib.hid (show wr.rangeLeft b w.heap.size = cnt from hrg.out.left_eq)
      clear hg1 hs1 hlx hat hrg1 hC ho hrg hbw hown HRD
      rw [if_neg (by simp)] at hC1
      go_wp2
      go_roundw
      case rel => exact ⟨_, cnt1, acc, A, c, HRG, by omega, rfl, hC1, ho1, hbw1⟩
      case measure => rw [HRG.out.left_eq, HME.out]; exact hlt
    · intro x w1 cnt1 hx hlx hat hrg1 hlt hg1 hs1 hen
      have hC1 := Lib.hid (hC.out.step HRD.out hx hlx hat)
      have ho1 := Lib.hid (own_iter ho.out hg1 (Nat.lt_succ_self _))
      have hbw1 : Below w.heap.size w w1 := hbw.grown hg1 hbw.size (fun j hj => by cases hj; exact Nat.le_refl _)
      have hbase : w.heap.size + 1 ≤ w1.heap.size := by have := hrg1.lt; omega
      have HRG := Lib.hid hrg1
      have HME := Lib.hid (show wr.rangeLeft b w.heap.size = cnt from hrg.out.left_eq)
      clear hg1 hs1 hlx hat hrg1 hC ho hrg hbw hown HRD
      rw [if_pos rfl] at hC1
      go_wp2_with (at_builtin; refine wpList_append1g (P := Tryz.prog) rfl (.tmp 14) (.tmp 16) 34 rfl (w.heap.size + 1) 9 (.string ByteArray.empty) 1 16 Tryz.underlying34 info9 (by decide) (by decide) (.slice A acc.length c) acc.length (strsC acc) rfl (ho1.out.alloc _) w1.heap.size #[.string x] 9 rfl (Bk.new _ _ _) rfl ?c1 ?c2 (by decide) ?c3 ?_)
      case c1 => rfl
      case c2 => omega
      case c3 => simp; omega
      intro v' w4 ho4 hg4
      have hgr : ∀ k, (Value.slice A acc.length c).ownBlock = some k → w.heap.size + 1 ≤ k := fun k hk => (ho1.out.lt k hk).1
      have HRG4 := Lib.hid ((HRG.out.alloc (.cells #[.string x] 9)).kept hg4 (fun e => by have := hgr b e.symm; omega) (fun e => by have := hgr w.heap.size e.symm; omega))
      have hbw4 : Below w.heap.size w w4 := (hbw1.alloc hbw1.size _).grown hg4 (by have := hbw1.size; simp; omega) (fun j hj => by have := hgr j hj; omega)
      have hsn : strsC acc ++ (#[Value.string x] : Array Value).toList = strsC (acc ++ [x]) := by simp [strsC]
      rw [hsn] at ho4
      obtain ⟨A4, c4, rfl, _, _⟩ := ownsSlice ho4
      have ho5 : Hid (w4.ownsRow (w.heap.size + 1) 9 1 (.slice A4 (acc ++ [x]).length c4) (acc ++ [x]).length (strsC (acc ++ [x]))) := by rw [List.length_append]; exact Lib.hid ho4
      have hll : (acc ++ [x]).length = acc.length + 1 := by simp
      clear ho4 hg4 hgr ho1 hbw1 hsn
      go_wp2
      go_roundw
      case rel => exact ⟨_, cnt1, acc ++ [x], A4, c4, HRG4, by omega, by rw [hll], hC1, ho5, hbw4⟩
      case measure => rw [HRG4.out.left_eq, HME.out]; exact hlt
set_option maxHeartbeats 1000000 in
set_option maxRecDepth 100000 in
theorem Groups_any (l : List Rul) (A : Option Addr) (c : Nat) (known : Int) (x : ByteArray) (w : World) (hl : Lies w w.heap.size A (rulesC l)) (hok : RulOK l) (hm : l.length ≤ 1000) (hxs : x.size ≤ 100) :
    Calls Tryz.prog 41 #[.agg #[.slice A l.length c], .int .i64 known, .string x] w (GpE (inG (cntL l known) x) w) := by
  have HC : Hid (∀ W, Below w.heap.size w W → Calls Tryz.prog 38 #[.agg #[.slice A l.length c], .int .i64 known] W (SlE (cntL l known) W)) := fun W hb => counting_any l A c known W ((hl.below hb (Nat.le_refl _)).more hb.size) hok hm
  have HG := Lib.hid (fun A' c' W hL => groups_any (cntL l known) A' c' x W hL (hok.sub (cnt_sub l known)) (Nat.le_trans (cnt_len l known) hm) hxs)
  have HP : Hid ((fun s => decide (setG (inG (cntL l known) x) s = some true)) = inG (cntL l known) x) := by
    show _ = _
    funext s
    unfold setG
    cases inG (cntL l known) x s <;> simp
  clear hl hok
  go_enter Tryz.func41, Tryz.ntmps41
  go_wp2_with (first | (go_at_call 38; refine (HC.out _ (by repeat (first | with_reducible exact Below.refl _ _ | with_reducible assumption | with_reducible refine Below.drew ?_ | with_reducible refine below_drewN ?_ _ | (with_reducible refine Below.alloc ?_ ?_ _; rotate_left; (try simp) <;> omega) | (with_reducible refine Below.setCell ?_ ?_ _; rotate_left; (try simp) <;> omega)))).mono ?_; rintro e w1 ⟨A1, c1, rfl, hl1, _, hb1⟩; have hB1 : Below w.heap.size w w1 := Below.trans (by repeat (first | with_reducible exact Below.refl _ _ | with_reducible assumption | with_reducible refine Below.drew ?_ | with_reducible refine below_drewN ?_ _ | (with_reducible refine Below.alloc ?_ ?_ _; rotate_left; (try simp) <;> omega) | (with_reducible refine Below.setCell ?_ ?_ _; rotate_left; (try simp) <;> omega))) (hb1.mono (by simp))) | (go_at_call 90; refine (HG.out _ _ _ hl1).mono ?_; rintro e w2 ⟨b, n, rfl, _, hn2, hm2, hb2⟩; have HST := Lib.hid (sorted_any _ b n w2 hm2 hn2); have hB2 : Below w.heap.size w w2 := hB1.trans (hb2.mono hB1.size)) | (go_at_call 89; refine HST.out.mono ?_; rintro e w3 ⟨R, A3, c3, hR, hRl, rfl, hL3, hc3, hb3⟩))
  rw [HP.out] at hR
  have HLI := Lib.hid hL3
  have HR := Lib.hid hR
  go_ret
  exact ⟨R, A3, c3, HR.out, hRl, rfl, HLI.out, hc3, hB2.trans (hb3.mono hB2.size)⟩
end Go.Proofs.YtkfeagokmcakgaaGreatDoor

namespace Go.Proofs.YtkfeagokmcakgaaGreatDoor
open Go.RowKit

theorem lft_skip {l : List Rul} {known day of : Int} {k : Nat} (hk : k < l.length) (h1 : ¬ known < day) (h2 : l[k].id = of) : lftL (l.take (k + 1)) known day of = lftL (l.take k) known day of :=
  filt_skip hk (by rw [decide_eq_false h1, decide_eq_true h2]; rfl)
theorem lft_keep {l : List Rul} {known day of : Int} {k : Nat} (hk : k < l.length) (h : known < day ∨ l[k].id ≠ of) : lftL (l.take (k + 1)) known day of = lftL (l.take k) known day of ++ [l[k]] :=
  filt_take hk (by
    rcases h with h | h
    · rw [decide_eq_true h]; rfl
    · rw [decide_eq_false h]; simp)
theorem lft_ok {l : List Rul} (h : RulOK l) (known day of : Int) : RulOK (lftL l known day of) := fun r hr => h r (List.mem_filter.1 hr).1
theorem apd_zero {l : List Rul} {r : Rul} (h : apdE l r = 0) : Fine l ∧ refE l r = 0 ∧ apdL l r = l ++ [r] := by
  refine ⟨?_, ?_, by unfold apdL; rw [if_pos h]⟩
  · unfold apdE at h
    split at h
    · rename_i h1; exact chkL_fine h1
    · rename_i h1; exact absurd h h1
  · unfold apdE at h
    split at h
    · exact h
    · rename_i h1; exact absurd h h1
def vR (id of day : Int) : Rul := ⟨id, day, 6, ByteArray.empty, ByteArray.empty, of⟩
theorem vR_ok {l : List Rul} (h : RulOK l) (id of day : Int) : RulOK (l ++ [vR id of day]) := fun r hr => by
  rcases List.mem_append.1 hr with h1 | h1
  · exact h r h1
  · simp at h1; subst h1
    exact ⟨by show (0 : Nat) ≤ 100; decide, by show (0 : Nat) ≤ 100; decide, by show (0 : Int) ≤ 6 ∧ (6 : Int) ≤ 255; decide⟩
set_option maxHeartbeats 1000000 in
set_option maxRecDepth 100000 in
theorem lawVoids_any (l : List Rul) (A : Option Addr) (c : Nat) (id of day known : Int) (x y : ByteArray) (w : World) (hg : Glob w)
    (hl : Lies w w.heap.size A (rulesC l)) (hc : l.length ≤ c ∧ c ≤ maxLen) (hlw : ∀ r ∈ l, (r.x.size ≤ maxLen ∧ r.y.size ≤ maxLen) ∧ (0 ≤ r.kind ∧ r.kind ≤ 255)) (hx : x.size ≤ maxLen) (hy : y.size ≤ maxLen) :
    Calls Tryz.prog 15 #[.agg #[.slice A l.length c], .int .i64 id, .int .i64 of, .int .i64 day, .int .i64 known, .string x, .string y] w (fun e w' => e = .returned (.bool true) ∧ Below w.heap.size w w') := by
  have HW : Hid (Below w.heap.size w (w.alloc (.cells #[.slice A l.length c] 25))) := (Below.refl _ _).alloc (Nat.le_refl _) _
  have HK0 : Hid (Bk (w.alloc (.cells #[.slice A l.length c] 25)) w.heap.size 25 #[.slice A l.length c]) := Bk.new _ _ _
  have HL : Hid (∀ V, Below (w.alloc (.cells #[.slice A l.length c] 25)).heap.size (w.alloc (.cells #[.slice A l.length c] 25)) V → Lies V V.heap.size A (rulesC l)) := fun V hV => lies_on hl (HW.out.trans (hV.mono HW.out.size))
  have HR : Hid (∀ V, Below (w.alloc (.cells #[.slice A l.length c] 25)).heap.size (w.alloc (.cells #[.slice A l.length c] 25)) V → Calls Tryz.prog 17 #[] V (fun e w' => e = .returned (.bool true) ∧ Below V.heap.size V w')) := fun V hV => ruled_any V (hg.step (HW.out.trans (hV.mono HW.out.size)))
  go_enter Tryz.func15, Tryz.ntmps15
  go_upto_region 1 with fail
  have hBW0 : Below (w.alloc (.cells #[.slice A l.length c] 25)).heap.size (w.alloc (.cells #[.slice A l.length c] 25)) (w.alloc (.cells #[.slice A l.length c] 25)) := Below.refl _ _
  have HY : Hid (∀ V, Below (w.alloc (.cells #[.slice A l.length c] 25)).heap.size (w.alloc (.cells #[.slice A l.length c] 25)) V → V.cell? ⟨w.heap.size, 0, none⟩ = some (.slice A l.length c)) := fun V hV => (HK0.out.below hV HK0.out.lt).cell 0 rfl
  clear hg hl HK0
  generalize (w.alloc (.cells #[.slice A l.length c] 25)) = W0 at *
  have y0 := HY.out W0 hBW0
  generalize hb0 : w.heap.size = b0 at *
  have HSM : Hid (∀ V, Below W0.heap.size W0 V → Calls Tryz.prog 22 #[.agg #[.slice A l.length c]] V (ShEnd (smallB l) V)) := fun V hV => small_any l A c V (HL.out V hV) (fun r hr => (hlw r hr).1) (Nat.le_trans hc.1 hc.2)
  have hz2 : (x.size : Int) ≤ 9223372036854775807 := by unfold maxLen at hx; omega
  have hz3 : (y.size : Int) ≤ 9223372036854775807 := by unfold maxLen at hy; omega
  clear hx hy
  cases hsm : smallB l
  · rw [hsm] at HSM
    clear HL hsm
    go_wp2_with (first | (go_at_call 22; refine (HSM.out _ (by assumption)).mono ?_; rintro e w1 ⟨rfl, hb⟩; have hBw1 : Below W0.heap.size W0 w1 := Below.trans (by assumption) (hb.mono (Below.size (by assumption))); have yw1 := HY.out w1 hBw1; clear hb) | (go_at_call 17; refine (HR.out _ (by assumption)).mono ?_; rintro e z ⟨rfl, hb⟩; have hBz : Below W0.heap.size W0 z := Below.trans (by assumption) (hb.mono (Below.size (by assumption))); clear hb))
    go_ret
    subst hb0; exact ⟨rfl, HW.out.trans (hBz.mono (by have := HW.out.size; omega))⟩
  rw [hsm] at HSM
  have hO := small_ok hsm (fun r hr => (hlw r hr).2)
  clear hsm hlw
  by_cases hxs : x.size ≤ 60
  case neg =>
    have h152 : (60 : Int) < (x.size : Int) := by omega
    clear HL
    go_wp2_with (first | (go_at_call 22; refine (HSM.out _ (by assumption)).mono ?_; rintro e w1 ⟨rfl, hb⟩; have hBw1 : Below W0.heap.size W0 w1 := Below.trans (by assumption) (hb.mono (Below.size (by assumption))); have yw1 := HY.out w1 hBw1; clear hb) | (go_at_call 17; refine (HR.out _ (by assumption)).mono ?_; rintro e z ⟨rfl, hb⟩; have hBz : Below W0.heap.size W0 z := Below.trans (by assumption) (hb.mono (Below.size (by assumption))); clear hb))
    go_ret
    subst hb0; exact ⟨rfl, HW.out.trans (hBz.mono (by have := HW.out.size; omega))⟩
  have h152 : ¬ (60 : Int) < (x.size : Int) := by omega
  by_cases hys : y.size ≤ 60
  case neg =>
    have h153 : (60 : Int) < (y.size : Int) := by omega
    clear HL
    go_wp2_with (first | (go_at_call 22; refine (HSM.out _ (by assumption)).mono ?_; rintro e w1 ⟨rfl, hb⟩; have hBw1 : Below W0.heap.size W0 w1 := Below.trans (by assumption) (hb.mono (Below.size (by assumption))); have yw1 := HY.out w1 hBw1; clear hb) | (go_at_call 17; refine (HR.out _ (by assumption)).mono ?_; rintro e z ⟨rfl, hb⟩; have hBz : Below W0.heap.size W0 z := Below.trans (by assumption) (hb.mono (Below.size (by assumption))); clear hb))
    go_ret
    subst hb0; exact ⟨rfl, HW.out.trans (hBz.mono (by have := HW.out.size; omega))⟩
  have h153 : ¬ (60 : Int) < (y.size : Int) := by omega
  have HAP : Hid (∀ V, Below W0.heap.size W0 V → Calls Tryz.prog 51 #[.agg #[.slice A l.length c], .agg #[.int .i64 id, .int .i64 day, .int .u8 6, .string ByteArray.empty, .string ByteArray.empty, .int .i64 of]] V (AppEnd l (vR id of day) V)) := fun V hV => append_any l (vR id of day) A c V (HL.out V hV) (vR_ok hO.1 id of day) (by have := hO.2; omega) hc.1 hc.2
  unfold AppEnd at HAP
  by_cases hE : apdE l (vR id of day) = 0
  case neg =>
    have h0 : apdL l (vR id of day) = [] := by unfold apdL; rw [if_neg hE]
    rw [h0] at HAP
    generalize apdE l (vR id of day) = E at *
    clear HL h0
    go_upto_region 4 with (first | (go_at_call 22; refine (HSM.out _ (by assumption)).mono ?_; rintro e w1 ⟨rfl, hb⟩; have hBw1 : Below W0.heap.size W0 w1 := Below.trans (by assumption) (hb.mono (Below.size (by assumption))); have yw1 := HY.out w1 hBw1; clear hb) | (go_at_call 51; refine (HAP.out _ (by assumption)).mono ?_; rintro e w2 ⟨A5, c5, rfl, hl5, hc5, hb⟩; have hBw2 : Below W0.heap.size W0 w2 := Below.trans (by assumption) (hb.mono (Below.size (by assumption))); have yw2 := HY.out w2 hBw2; clear hb))
    have hB6 : Below W0.heap.size W0 (w2.alloc (.cells #[.slice A5 0 c5] 25)) := hBw2.alloc hBw2.size _
    clear hl5 hc5
    go_wp2_with (first | (go_at_call 17; refine (HR.out _ (by assumption)).mono ?_; rintro e z ⟨rfl, hb⟩; have hBz : Below W0.heap.size W0 z := Below.trans (by assumption) (hb.mono (Below.size (by assumption))); clear hb))
    go_ret
    subst hb0; exact ⟨rfl, HW.out.trans (hBz.mono (by have := HW.out.size; omega))⟩
  obtain ⟨hF, hRE, hAL⟩ := apd_zero hE
  rw [hE, hAL] at HAP
  clear hE hAL
  have hnl : (l ++ [vR id of day]).length = l.length + 1 := by simp
  rw [hnl] at HAP
  go_upto_region 4 with (first | (go_at_call 22; refine (HSM.out _ (by assumption)).mono ?_; rintro e w1 ⟨rfl, hb⟩; have hBw1 : Below W0.heap.size W0 w1 := Below.trans (by assumption) (hb.mono (Below.size (by assumption))); have yw1 := HY.out w1 hBw1; clear hb) | (go_at_call 51; refine (HAP.out _ (by assumption)).mono ?_; rintro e w2 ⟨A5, c5, rfl, hl5, hc5, hb⟩; have hBw2 : Below W0.heap.size W0 w2 := Below.trans (by assumption) (hb.mono (Below.size (by assumption))); have yw2 := HY.out w2 hBw2; clear hb))
  have hk6 : Hid (Bk (w2.alloc (.cells #[.slice A5 (l.length + 1) c5] 25)) w2.heap.size 25 #[.slice A5 (l.length + 1) c5]) := Bk.new _ _ _
  have hb6 : Below w2.heap.size w2 (w2.alloc (.cells #[.slice A5 (l.length + 1) c5] 25)) := (Below.refl _ _).alloc (Nat.le_refl _) _
  have hl6 : Hid (Lies (w2.alloc (.cells #[.slice A5 (l.length + 1) c5] 25)) (w2.alloc (.cells #[.slice A5 (l.length + 1) c5] 25)).heap.size A5 (rulesC (l ++ [vR id of day]))) := lies_on hl5 hb6
  have hB6 : Below W0.heap.size W0 (w2.alloc (.cells #[.slice A5 (l.length + 1) c5] 25)) := hBw2.trans (hb6.mono hBw2.size)
  have hsz6 : (w2.alloc (.cells #[.slice A5 (l.length + 1) c5] 25)).heap.size = w2.heap.size + 1 := by simp
  clear hl5 hb6
  generalize (w2.alloc (.cells #[.slice A5 (l.length + 1) c5] 25)) = w6 at *
  have HY2 : Hid (∀ V, Below w6.heap.size w6 V → V.cell? ⟨b0, 0, none⟩ = some (.slice A l.length c) ∧ V.cell? ⟨w2.heap.size, 0, none⟩ = some (.slice A5 (l.length + 1) c5)) := fun V hV => ⟨HY.out V (hB6.trans (hV.mono hB6.size)), (hk6.out.below hV hk6.out.lt).cell 0 rfl⟩
  have HL2 := Lib.hid (fun V (hV : Below w6.heap.size w6 V) => HL.out V (hB6.trans (hV.mono hB6.size)))
  have HL5 := Lib.hid (fun V (hV : Below w6.heap.size w6 V) => lies_on hl6.out hV)
  have HR2 := Lib.hid (fun V (hV : Below w6.heap.size w6 V) => HR.out V (hB6.trans (hV.mono hB6.size)))
  have HW2 : Hid (Below b0 w w6) := HW.out.trans (hB6.mono (by have := HW.out.size; omega))
  have hO1 := Lib.hid hO.1
  have hO2 := hO.2
  clear HY HL HR HW HSM HAP hBw1 yw1 hBw2 y0 hBW0 hB6 hk6 hl6 hO yw2
  go_upto_region 8 with fail
  have hX0 : Hid (Bx (w2.heap.size + 1) none 0 0 [] (w6.alloc (.cells #[.slice none 0 0] 25))) := by
    have h := Bk.new w6 25 #[.slice none 0 0]
    rw [hsz6] at h
    exact ⟨h, World.ownsRow_nil _ _ _ _, rfl⟩
  have hB7 : Below w6.heap.size w6 (w6.alloc (.cells #[.slice none 0 0] 25)) := (Below.refl _ _).alloc (Nat.le_refl _) _
  generalize (w6.alloc (.cells #[.slice none 0 0] 25)) = w7 at *
  clear h152 h153

  go_loopw [18] (fun yv wr => ∃ (k : Nat) (Ad : Option Addr) (cd nd : Nat), k ≤ l.length ∧ yv = .int .i64 k ∧ Hid (Bx (w2.heap.size + 1) Ad cd nd (lftL (l.take k) known day of) wr) ∧ nd ≤ k ∧ Below w6.heap.size w6 wr) (fun yv _ => l.length - (intOf yv).toNat)
  case atStart => exact ⟨0, none, 0, 0, by omega, rfl, hX0, by omega, hB7⟩
  case round =>
    obtain ⟨k, Ad, cd, nd, hk, rfl, hX, hnd, hBwr⟩ := hrel
    clear hX0 hB7
    obtain ⟨ya, yb⟩ := HY2.out wr hBwr
    by_cases hlt : k < l.length
    · obtain ⟨ad, rfl, _, d0, d1, d2, d3, d4, d5⟩ := rule_at (HL2.out wr hBwr) hlt
      have HDS : Hid (∀ V, Below w6.heap.size w6 V → V.cell? (ad.add (k * 6)) = some (.int .i64 l[k].id) ∧ V.cell? ⟨(ad.add (k * 6)).block, (ad.add (k * 6)).off + 1, none⟩ = some (.int .i64 l[k].known) ∧ V.cell? ⟨(ad.add (k * 6)).block, (ad.add (k * 6)).off + 2, none⟩ = some (.int .u8 l[k].kind) ∧ V.cell? ⟨(ad.add (k * 6)).block, (ad.add (k * 6)).off + 3, none⟩ = some (.string l[k].x) ∧ V.cell? ⟨(ad.add (k * 6)).block, (ad.add (k * 6)).off + 4, none⟩ = some (.string l[k].y) ∧ V.cell? ⟨(ad.add (k * 6)).block, (ad.add (k * 6)).off + 5, none⟩ = some (.int .i64 l[k].of)) := fun V hV => by
        obtain ⟨ad2, e2, _, e0, e1, e3, e4, e5, e6⟩ := rule_at (HL2.out V hV) hlt
        cases e2
        exact ⟨e0, e1, e3, e4, e5, e6⟩
      have HSKP := Lib.hid (lft_skip (known := known) (day := day) (of := of) hlt)
      have HKEP := Lib.hid (lft_keep (known := known) (day := day) (of := of) hlt)
      generalize l[k] = R at *
      generalize lftL (l.take k) known day of = F0 at *
      obtain ⟨id2, kn, kd, rx, ry, of2⟩ := R
      dsimp only at *
      have HXV : Hid (∀ V, Below wr.heap.size wr V → Bx (w2.heap.size + 1) Ad cd nd F0 V) := fun V hV => hX.out.below hV
      have HS : Hid (∀ V, Below w6.heap.size w6 V → V.cell? ⟨b0, 0, none⟩ = some (.slice (some ad) l.length c) ∧ V.cell? (ad.add (k * 6)) = some (.int .i64 id2) ∧ V.cell? ⟨(ad.add (k * 6)).block, (ad.add (k * 6)).off + 1, none⟩ = some (.int .i64 kn) ∧ V.cell? ⟨(ad.add (k * 6)).block, (ad.add (k * 6)).off + 2, none⟩ = some (.int .u8 kd) ∧ V.cell? ⟨(ad.add (k * 6)).block, (ad.add (k * 6)).off + 3, none⟩ = some (.string rx) ∧ V.cell? ⟨(ad.add (k * 6)).block, (ad.add (k * 6)).off + 4, none⟩ = some (.string ry) ∧ V.cell? ⟨(ad.add (k * 6)).block, (ad.add (k * 6)).off + 5, none⟩ = some (.int .i64 of2)) := fun V hV => ⟨(HY2.out V hV).1, HDS.out V hV⟩
      have HSN := Lib.hid (rulesC_snoc F0 ⟨id2, kn, kd, rx, ry, of2⟩)
      have hbase : w2.heap.size + 2 ≤ wr.heap.size := by have := hX.out.bk.lt; omega
      clear HL2 HL5 HR2 HW2 hF hRE hO1 HDS
      by_cases hq : known < day
      · have H1 := Lib.hid (HKEP.out (.inl hq))
        clear HKEP HSKP
        have hS0 := HS.out _ hBwr.drew
        have hxr := hX.out.bk.cell 0 rfl
        go_upto_region 11 with fail
        refine wp_region_held_drew (S := (fun V => V.cell? ⟨b0, 0, none⟩ = some (.slice (some ad) l.length c) ∧ V.cell? (ad.add (k * 6)) = some (.int .i64 id2) ∧ V.cell? ⟨(ad.add (k * 6)).block, (ad.add (k * 6)).off + 1, none⟩ = some (.int .i64 kn) ∧ V.cell? ⟨(ad.add (k * 6)).block, (ad.add (k * 6)).off + 2, none⟩ = some (.int .u8 kd) ∧ V.cell? ⟨(ad.add (k * 6)).block, (ad.add (k * 6)).off + 3, none⟩ = some (.string rx) ∧ V.cell? ⟨(ad.add (k * 6)).block, (ad.add (k * 6)).off + 4, none⟩ = some (.string ry) ∧ V.cell? ⟨(ad.add (k * 6)).block, (ad.add (k * 6)).off + 5, none⟩ = some (.int .i64 of2))) (by kernel_rfl) ?_ (fun hHeld => ?_)
        · exact hS0
        have hBd : Below w6.heap.size w6 wr.drew := hBwr.drew
        have hX8 := Lib.hid (hX.out.below (Below.refl wr.heap.size wr).drew)
        refine tk 0 69 ?_
        refine tk 2 71 ?_
        refine tk 3 72 ?_
        refine tk 4 73 ?_
        refine tk 5 74 ?_
        refine tk 6 75 ?_
        have hszd : w2.heap.size + 2 ≤ wr.drew.heap.size := hbase
        clear hS0 hxr
        generalize wr.drew = w8 at *
        have xr8 := hX8.out.bk.cell 0 rfl
        have hB9 : Below w6.heap.size w6 (w8.alloc (.cells #[.int .i64 id2, .int .i64 kn, .int .u8 kd, .string rx, .string ry, .int .i64 of2] 50)) := hBd.alloc hBd.size _
        have hX9 := Lib.hid (hX8.out.below ((Below.refl _ _).alloc (Nat.le_refl _) (.cells #[.int .i64 id2, .int .i64 kn, .int .u8 kd, .string rx, .string ry, .int .i64 of2] 50)))
        have hR9 : Hid (Bk (w8.alloc (.cells #[.int .i64 id2, .int .i64 kn, .int .u8 kd, .string rx, .string ry, .int .i64 of2] 50)) w8.heap.size 50 #[.int .i64 id2, .int .i64 kn, .int .u8 kd, .string rx, .string ry, .int .i64 of2]) := Bk.new _ _ _
        have hsz9 : (w8.alloc (.cells #[.int .i64 id2, .int .i64 kn, .int .u8 kd, .string rx, .string ry, .int .i64 of2] 50)).heap.size = w8.heap.size + 1 := by simp
        have xr9 := hX9.out.bk.cell 0 rfl
        have hS9 := HS.out _ hB9
        refine held_two 1 7 ⟨some 70, .load 23 (.tmp 69), 23, _, _, none⟩ ⟨some 76, .buildSlice 23 1 #[(0, .tmp 75)], 23, _, _, none⟩ rfl rfl (by kernel_rfl) (by rfl) (by rfl) ?_ ?_
        · unfold Oper.wp
          go_simp
          (try refine ⟨hHeld, ?_⟩)
          (try simp only [Act.put, List.setIfInBounds_toArray, List.set_cons_zero, List.set_cons_succ])
          refine held_one 7 ⟨some 76, .buildSlice 23 1 #[(0, .tmp 75)], 23, _, _, none⟩ rfl (by kernel_rfl) (by rfl) ?_
          unfold Oper.wp
          go_simp
          (try refine ⟨hS9, ?_⟩)
          (try simp only [Act.put, List.setIfInBounds_toArray, List.set_cons_zero, List.set_cons_succ])
          generalize w8.alloc (.cells #[.int .i64 id2, .int .i64 kn, .int .u8 kd, .string rx, .string ry, .int .i64 of2] 50) = w9 at *
          refine held_one 8 ⟨some 77, .call { callee := .builtin .append, args := #[.tmp 70, .tmp 76], argTypes := #[23, 23] }, 23, _, _, none⟩ rfl (by kernel_rfl) (by rfl) ?_
          refine wp_append1 w9 (.tmp 70) (.tmp 76) 23 rfl (w2.heap.size + 1 + 1) 50 zeroRul 6 64 Tryz.underlying23 info50 (by decide) (by decide) (.slice Ad nd cd) nd (rulesC F0) rfl hX9.out.own w8.heap.size #[.int .i64 id2, .int .i64 kn, .int .u8 kd, .string rx, .string ry, .int .i64 of2] 50 rfl hR9.out (by simp) (by intro u hu; simp at hu; rcases hu with rfl | rfl | rfl | rfl | rfl | rfl <;> rfl) (by omega) (by decide) (by omega) w9 (Below.refl _ _) ?_
          intro v8 w10 own8 bel8 gr8
          replace own8 : w10.ownsRow (w2.heap.size + 1 + 1) 50 6 v8 (nd + 1) (rulesC (F0 ++ [⟨id2, kn, kd, rx, ry, of2⟩])) := by rw [← HSN.out]; exact own8
          obtain ⟨A10, c10, rfl, _, _⟩ := ownsSlice own8
          have hk10 := hX9.out.bk.below bel8 (by omega)
          have hB10 : Below w6.heap.size w6 w10 := hB9.trans (bel8.mono (by omega))
          have hS10 := HS.out _ hB10
          have hXN := Lib.hid (hX9.out.put bel8 own8)
          have hBN : Below w6.heap.size w6 (w10.setCell ⟨w2.heap.size + 1, 0, none⟩ (.slice A10 (nd + 1) c10)) := below_set hB10 (by omega)
          have x10 := hk10.cell 0 rfl
          have f10 := hk10.fro 0
          refine ⟨hS10, ?_⟩
          (try simp only [Act.put, List.setIfInBounds_toArray, List.set_cons_zero, List.set_cons_succ])
          refine tk 9 78 ?_
          refine held_one 10 ⟨none, .store 23 (.tmp 78) (.tmp 77), _, _, _, none⟩ rfl (by kernel_rfl) (by rfl) ?_
          unfold Oper.wp
          go_simp
          have hS11 := HS.out _ hBN
          refine ⟨(by first | exact hS11 | exact ⟨hS11.1, hS11.2.1⟩), ?_⟩
          (try simp only [Act.put, List.setIfInBounds_toArray, List.set_cons_zero, List.set_cons_succ])
          refine wpAnyH_done (by kernel_rfl) ?_ _
          clear hS10 hS11 x10 f10 own8 bel8 gr8 hk10 hB10
          go_wp2
          go_roundw
          case rel => exact ⟨k + 1, A10, c10, nd + 1, by omega, by go_num, by show Bx _ _ _ _ _ _; rw [H1.out]; exact hXN.out, by omega, hBN⟩
          case measure => simp [intOf]; omega
        · unfold Oper.wp
          go_simp
          (try refine ⟨hS9, ?_⟩)
          (try simp only [Act.put, List.setIfInBounds_toArray, List.set_cons_zero, List.set_cons_succ])
          generalize w8.alloc (.cells #[.int .i64 id2, .int .i64 kn, .int .u8 kd, .string rx, .string ry, .int .i64 of2] 50) = w9 at *
          refine held_one 1 ⟨some 70, .load 23 (.tmp 69), 23, _, _, none⟩ rfl (by kernel_rfl) (by rfl) ?_
          unfold Oper.wp
          go_simp
          (try refine ⟨hS9, ?_⟩)
          (try simp only [Act.put, List.setIfInBounds_toArray, List.set_cons_zero, List.set_cons_succ])
          refine held_one 8 ⟨some 77, .call { callee := .builtin .append, args := #[.tmp 70, .tmp 76], argTypes := #[23, 23] }, 23, _, _, none⟩ rfl (by kernel_rfl) (by rfl) ?_
          refine wp_append1 w9 (.tmp 70) (.tmp 76) 23 rfl (w2.heap.size + 1 + 1) 50 zeroRul 6 64 Tryz.underlying23 info50 (by decide) (by decide) (.slice Ad nd cd) nd (rulesC F0) rfl hX9.out.own w8.heap.size #[.int .i64 id2, .int .i64 kn, .int .u8 kd, .string rx, .string ry, .int .i64 of2] 50 rfl hR9.out (by simp) (by intro u hu; simp at hu; rcases hu with rfl | rfl | rfl | rfl | rfl | rfl <;> rfl) (by omega) (by decide) (by omega) w9 (Below.refl _ _) ?_
          intro v8 w10 own8 bel8 gr8
          replace own8 : w10.ownsRow (w2.heap.size + 1 + 1) 50 6 v8 (nd + 1) (rulesC (F0 ++ [⟨id2, kn, kd, rx, ry, of2⟩])) := by rw [← HSN.out]; exact own8
          obtain ⟨A10, c10, rfl, _, _⟩ := ownsSlice own8
          have hk10 := hX9.out.bk.below bel8 (by omega)
          have hB10 : Below w6.heap.size w6 w10 := hB9.trans (bel8.mono (by omega))
          have hS10 := HS.out _ hB10
          have hXN := Lib.hid (hX9.out.put bel8 own8)
          have hBN : Below w6.heap.size w6 (w10.setCell ⟨w2.heap.size + 1, 0, none⟩ (.slice A10 (nd + 1) c10)) := below_set hB10 (by omega)
          have x10 := hk10.cell 0 rfl
          have f10 := hk10.fro 0
          refine ⟨hS10, ?_⟩
          (try simp only [Act.put, List.setIfInBounds_toArray, List.set_cons_zero, List.set_cons_succ])
          refine tk 9 78 ?_
          refine held_one 10 ⟨none, .store 23 (.tmp 78) (.tmp 77), _, _, _, none⟩ rfl (by kernel_rfl) (by rfl) ?_
          unfold Oper.wp
          go_simp
          have hS11 := HS.out _ hBN
          refine ⟨(by first | exact hS11 | exact ⟨hS11.1, hS11.2.1⟩), ?_⟩
          (try simp only [Act.put, List.setIfInBounds_toArray, List.set_cons_zero, List.set_cons_succ])
          refine wpAnyH_done (by kernel_rfl) ?_ _
          clear hS10 hS11 x10 f10 own8 bel8 gr8 hk10 hB10
          go_wp2
          go_roundw
          case rel => exact ⟨k + 1, A10, c10, nd + 1, by omega, by go_num, by show Bx _ _ _ _ _ _; rw [H1.out]; exact hXN.out, by omega, hBN⟩
          case measure => simp [intOf]; omega
      · by_cases hq2 : id2 = of
        · have H1 := Lib.hid (HSKP.out hq hq2)
          have hq3 : (id2 != of) = false := by simp [hq2]
          clear HKEP HSKP HXV HS HSN
          go_wp2
          go_roundw
          case rel => exact ⟨k + 1, Ad, cd, nd, by omega, by go_num, by show Bx _ _ _ _ _ _; rw [H1.out]; exact hX.out, by omega, hBwr⟩
          case measure => simp [intOf]; omega
        · have H1 := Lib.hid (HKEP.out (.inr hq2))
          have hq3 : (id2 != of) = true := by simp [hq2]
          clear HKEP HSKP hq2
          have hS0 := HS.out _ hBwr.drew
          have hxr := hX.out.bk.cell 0 rfl
          go_upto_region 11 with fail
          refine wp_region_held_drew (S := (fun V => V.cell? ⟨b0, 0, none⟩ = some (.slice (some ad) l.length c) ∧ V.cell? (ad.add (k * 6)) = some (.int .i64 id2) ∧ V.cell? ⟨(ad.add (k * 6)).block, (ad.add (k * 6)).off + 1, none⟩ = some (.int .i64 kn) ∧ V.cell? ⟨(ad.add (k * 6)).block, (ad.add (k * 6)).off + 2, none⟩ = some (.int .u8 kd) ∧ V.cell? ⟨(ad.add (k * 6)).block, (ad.add (k * 6)).off + 3, none⟩ = some (.string rx) ∧ V.cell? ⟨(ad.add (k * 6)).block, (ad.add (k * 6)).off + 4, none⟩ = some (.string ry) ∧ V.cell? ⟨(ad.add (k * 6)).block, (ad.add (k * 6)).off + 5, none⟩ = some (.int .i64 of2))) (by kernel_rfl) ?_ (fun hHeld => ?_)
          · exact hS0
          have hBd : Below w6.heap.size w6 wr.drew := hBwr.drew
          have hX8 := Lib.hid (hX.out.below (Below.refl wr.heap.size wr).drew)
          refine tk 0 69 ?_
          refine tk 2 71 ?_
          refine tk 3 72 ?_
          refine tk 4 73 ?_
          refine tk 5 74 ?_
          refine tk 6 75 ?_
          have hszd : w2.heap.size + 2 ≤ wr.drew.heap.size := hbase
          clear hS0 hxr
          generalize wr.drew = w8 at *
          have xr8 := hX8.out.bk.cell 0 rfl
          have hB9 : Below w6.heap.size w6 (w8.alloc (.cells #[.int .i64 id2, .int .i64 kn, .int .u8 kd, .string rx, .string ry, .int .i64 of2] 50)) := hBd.alloc hBd.size _
          have hX9 := Lib.hid (hX8.out.below ((Below.refl _ _).alloc (Nat.le_refl _) (.cells #[.int .i64 id2, .int .i64 kn, .int .u8 kd, .string rx, .string ry, .int .i64 of2] 50)))
          have hR9 : Hid (Bk (w8.alloc (.cells #[.int .i64 id2, .int .i64 kn, .int .u8 kd, .string rx, .string ry, .int .i64 of2] 50)) w8.heap.size 50 #[.int .i64 id2, .int .i64 kn, .int .u8 kd, .string rx, .string ry, .int .i64 of2]) := Bk.new _ _ _
          have hsz9 : (w8.alloc (.cells #[.int .i64 id2, .int .i64 kn, .int .u8 kd, .string rx, .string ry, .int .i64 of2] 50)).heap.size = w8.heap.size + 1 := by simp
          have xr9 := hX9.out.bk.cell 0 rfl
          have hS9 := HS.out _ hB9
          refine held_two 1 7 ⟨some 70, .load 23 (.tmp 69), 23, _, _, none⟩ ⟨some 76, .buildSlice 23 1 #[(0, .tmp 75)], 23, _, _, none⟩ rfl rfl (by kernel_rfl) (by rfl) (by rfl) ?_ ?_
          · unfold Oper.wp
            go_simp
            (try refine ⟨hHeld, ?_⟩)
            (try simp only [Act.put, List.setIfInBounds_toArray, List.set_cons_zero, List.set_cons_succ])
            refine held_one 7 ⟨some 76, .buildSlice 23 1 #[(0, .tmp 75)], 23, _, _, none⟩ rfl (by kernel_rfl) (by rfl) ?_
            unfold Oper.wp
            go_simp
            (try refine ⟨hS9, ?_⟩)
            (try simp only [Act.put, List.setIfInBounds_toArray, List.set_cons_zero, List.set_cons_succ])
            generalize w8.alloc (.cells #[.int .i64 id2, .int .i64 kn, .int .u8 kd, .string rx, .string ry, .int .i64 of2] 50) = w9 at *
            refine held_one 8 ⟨some 77, .call { callee := .builtin .append, args := #[.tmp 70, .tmp 76], argTypes := #[23, 23] }, 23, _, _, none⟩ rfl (by kernel_rfl) (by rfl) ?_
            refine wp_append1 w9 (.tmp 70) (.tmp 76) 23 rfl (w2.heap.size + 1 + 1) 50 zeroRul 6 64 Tryz.underlying23 info50 (by decide) (by decide) (.slice Ad nd cd) nd (rulesC F0) rfl hX9.out.own w8.heap.size #[.int .i64 id2, .int .i64 kn, .int .u8 kd, .string rx, .string ry, .int .i64 of2] 50 rfl hR9.out (by simp) (by intro u hu; simp at hu; rcases hu with rfl | rfl | rfl | rfl | rfl | rfl <;> rfl) (by omega) (by decide) (by omega) w9 (Below.refl _ _) ?_
            intro v8 w10 own8 bel8 gr8
            replace own8 : w10.ownsRow (w2.heap.size + 1 + 1) 50 6 v8 (nd + 1) (rulesC (F0 ++ [⟨id2, kn, kd, rx, ry, of2⟩])) := by rw [← HSN.out]; exact own8
            obtain ⟨A10, c10, rfl, _, _⟩ := ownsSlice own8
            have hk10 := hX9.out.bk.below bel8 (by omega)
            have hB10 : Below w6.heap.size w6 w10 := hB9.trans (bel8.mono (by omega))
            have hS10 := HS.out _ hB10
            have hXN := Lib.hid (hX9.out.put bel8 own8)
            have hBN : Below w6.heap.size w6 (w10.setCell ⟨w2.heap.size + 1, 0, none⟩ (.slice A10 (nd + 1) c10)) := below_set hB10 (by omega)
            have x10 := hk10.cell 0 rfl
            have f10 := hk10.fro 0
            refine ⟨hS10, ?_⟩
            (try simp only [Act.put, List.setIfInBounds_toArray, List.set_cons_zero, List.set_cons_succ])
            refine tk 9 78 ?_
            refine held_one 10 ⟨none, .store 23 (.tmp 78) (.tmp 77), _, _, _, none⟩ rfl (by kernel_rfl) (by rfl) ?_
            unfold Oper.wp
            go_simp
            have hS11 := HS.out _ hBN
            refine ⟨(by first | exact hS11 | exact ⟨hS11.1, hS11.2.1⟩), ?_⟩
            (try simp only [Act.put, List.setIfInBounds_toArray, List.set_cons_zero, List.set_cons_succ])
            refine wpAnyH_done (by kernel_rfl) ?_ _
            clear hS10 hS11 x10 f10 own8 bel8 gr8 hk10 hB10
            go_wp2
            go_roundw
            case rel => exact ⟨k + 1, A10, c10, nd + 1, by omega, by go_num, by show Bx _ _ _ _ _ _; rw [H1.out]; exact hXN.out, by omega, hBN⟩
            case measure => simp [intOf]; omega
          · unfold Oper.wp
            go_simp
            (try refine ⟨hS9, ?_⟩)
            (try simp only [Act.put, List.setIfInBounds_toArray, List.set_cons_zero, List.set_cons_succ])
            generalize w8.alloc (.cells #[.int .i64 id2, .int .i64 kn, .int .u8 kd, .string rx, .string ry, .int .i64 of2] 50) = w9 at *
            refine held_one 1 ⟨some 70, .load 23 (.tmp 69), 23, _, _, none⟩ rfl (by kernel_rfl) (by rfl) ?_
            unfold Oper.wp
            go_simp
            (try refine ⟨hS9, ?_⟩)
            (try simp only [Act.put, List.setIfInBounds_toArray, List.set_cons_zero, List.set_cons_succ])
            refine held_one 8 ⟨some 77, .call { callee := .builtin .append, args := #[.tmp 70, .tmp 76], argTypes := #[23, 23] }, 23, _, _, none⟩ rfl (by kernel_rfl) (by rfl) ?_
            refine wp_append1 w9 (.tmp 70) (.tmp 76) 23 rfl (w2.heap.size + 1 + 1) 50 zeroRul 6 64 Tryz.underlying23 info50 (by decide) (by decide) (.slice Ad nd cd) nd (rulesC F0) rfl hX9.out.own w8.heap.size #[.int .i64 id2, .int .i64 kn, .int .u8 kd, .string rx, .string ry, .int .i64 of2] 50 rfl hR9.out (by simp) (by intro u hu; simp at hu; rcases hu with rfl | rfl | rfl | rfl | rfl | rfl <;> rfl) (by omega) (by decide) (by omega) w9 (Below.refl _ _) ?_
            intro v8 w10 own8 bel8 gr8
            replace own8 : w10.ownsRow (w2.heap.size + 1 + 1) 50 6 v8 (nd + 1) (rulesC (F0 ++ [⟨id2, kn, kd, rx, ry, of2⟩])) := by rw [← HSN.out]; exact own8
            obtain ⟨A10, c10, rfl, _, _⟩ := ownsSlice own8
            have hk10 := hX9.out.bk.below bel8 (by omega)
            have hB10 : Below w6.heap.size w6 w10 := hB9.trans (bel8.mono (by omega))
            have hS10 := HS.out _ hB10
            have hXN := Lib.hid (hX9.out.put bel8 own8)
            have hBN : Below w6.heap.size w6 (w10.setCell ⟨w2.heap.size + 1, 0, none⟩ (.slice A10 (nd + 1) c10)) := below_set hB10 (by omega)
            have x10 := hk10.cell 0 rfl
            have f10 := hk10.fro 0
            refine ⟨hS10, ?_⟩
            (try simp only [Act.put, List.setIfInBounds_toArray, List.set_cons_zero, List.set_cons_succ])
            refine tk 9 78 ?_
            refine held_one 10 ⟨none, .store 23 (.tmp 78) (.tmp 77), _, _, _, none⟩ rfl (by kernel_rfl) (by rfl) ?_
            unfold Oper.wp
            go_simp
            have hS11 := HS.out _ hBN
            refine ⟨(by first | exact hS11 | exact ⟨hS11.1, hS11.2.1⟩), ?_⟩
            (try simp only [Act.put, List.setIfInBounds_toArray, List.set_cons_zero, List.set_cons_succ])
            refine wpAnyH_done (by kernel_rfl) ?_ _
            clear hS10 hS11 x10 f10 own8 bel8 gr8 hk10 hB10
            go_wp2
            go_roundw
            case rel => exact ⟨k + 1, A10, c10, nd + 1, by omega, by go_num, by show Bx _ _ _ _ _ _; rw [H1.out]; exact hXN.out, by omega, hBN⟩
            case measure => simp [intOf]; omega
    · obtain rfl : k = l.length := by omega
      rw [List.take_length] at hX
      have HYY : Hid (∀ V, Below wr.heap.size wr V → V.cell? ⟨w2.heap.size, 0, none⟩ = some (.slice A5 (l.length + 1) c5) ∧ V.cell? ⟨w2.heap.size + 1, 0, none⟩ = some (.slice Ad nd cd)) := fun V hV => ⟨(HY2.out V (hBwr.trans (hV.mono hBwr.size))).2, (hX.out.below hV).bk.cell 0 rfl⟩
      have hok5 := vR_ok hO1.out id of day
      have hokd := lft_ok hO1.out known day of
      have hml5 : (l ++ [vR id of day]).length ≤ 1000 := by rw [hnl]; omega
      have hmld : (lftL l known day of).length ≤ 1000 := by rw [hX.out.len]; omega
      have hLQ : cntL (l ++ [vR id of day]) known = cntL (lftL l known day of) known := cnt_lft hF hRE rfl
      have hL5' := HL5
      have HO1 : Hid (∀ V, Below wr.heap.size wr V → Calls Tryz.prog 31 #[.agg #[.slice A5 (l.length + 1) c5], .int .i64 known, .string x, .string y] V (BarE (barL (cntL (lftL l known day of) known) 4 x y false) V)) := fun V hV => by
        have h := mayOver_any (l ++ [vR id of day]) A5 c5 known x y V (HL5.out V (hBwr.trans (hV.mono hBwr.size))) hok5 hml5 (by omega) (by omega)
        rw [hLQ, hnl] at h; exact h
      have HO2 : Hid (∀ V, Below wr.heap.size wr V → Calls Tryz.prog 31 #[.agg #[.slice Ad nd cd], .int .i64 known, .string x, .string y] V (BarE (barL (cntL (lftL l known day of) known) 4 x y false) V)) := fun V hV => by
        have h := mayOver_any (lftL l known day of) Ad cd known x y V (hX.out.below hV).lies hokd hmld (by omega) (by omega)
        rw [hX.out.len] at h; exact h
      have HT1 : Hid (∀ V, Below wr.heap.size wr V → Calls Tryz.prog 25 #[.agg #[.slice A5 (l.length + 1) c5], .int .i64 known, .string x] V (U8End (stt (cntL (lftL l known day of) known) x) V)) := fun V hV => by
        have h := State_any (l ++ [vR id of day]) A5 c5 known x V (HL5.out V (hBwr.trans (hV.mono hBwr.size))) hok5 hml5 (by omega)
        rw [hLQ, hnl] at h; exact h
      have HT2 : Hid (∀ V, Below wr.heap.size wr V → Calls Tryz.prog 25 #[.agg #[.slice Ad nd cd], .int .i64 known, .string x] V (U8End (stt (cntL (lftL l known day of) known) x) V)) := fun V hV => by
        have h := State_any (lftL l known day of) Ad cd known x V (hX.out.below hV).lies hokd hmld (by omega)
        rw [hX.out.len] at h; exact h
      have HG1 : Hid (∀ V, Below wr.heap.size wr V → Calls Tryz.prog 41 #[.agg #[.slice A5 (l.length + 1) c5], .int .i64 known, .string x] V (GpE (inG (cntL (lftL l known day of) known) x) V)) := fun V hV => by
        have h := Groups_any (l ++ [vR id of day]) A5 c5 known x V (HL5.out V (hBwr.trans (hV.mono hBwr.size))) hok5 hml5 (by omega)
        rw [hLQ, hnl] at h; exact h
      have HG2 : Hid (∀ V, Below wr.heap.size wr V → Calls Tryz.prog 41 #[.agg #[.slice Ad nd cd], .int .i64 known, .string x] V (GpE (inG (cntL (lftL l known day of) known) x) V)) := fun V hV => by
        have h := Groups_any (lftL l known day of) Ad cd known x V (hX.out.below hV).lies hokd hmld (by omega)
        rw [hX.out.len] at h; exact h
      have HRR : Hid (∀ V, Below wr.heap.size wr V → Calls Tryz.prog 17 #[] V (fun e w' => e = .returned (.bool true) ∧ Below V.heap.size V w')) := fun V hV => HR2.out V (hBwr.trans (hV.mono hBwr.size))
      have HWF : Hid (Below b0 w wr) := HW2.out.trans (hBwr.mono (by have := HW2.out.size; omega))
      have hBr : Below wr.heap.size wr wr := Below.refl _ _
      obtain ⟨yc, yd⟩ := HYY.out wr hBr
      clear hLQ hok5 hokd hml5 hmld hL5' HY2 HL2 HL5 HR2 HW2 hX hBwr hF hRE hO1
      generalize cntL (lftL l known day of) known = L at *
      generalize barL L 4 x y false = P4 at *
      obtain ⟨p4, i4⟩ := P4
      generalize stt L x = N at *
      unfold GpE at HG1 HG2
      go_upto_region 13 with (first | (go_at_call 31; refine (HO1.out _ (by assumption)).mono ?_; rintro e v3 ⟨rfl, hb⟩; have hBv3 : Below wr.heap.size wr v3 := Below.trans (by assumption) (hb.mono (Below.size (by assumption))); obtain ⟨ya3, yb3⟩ := HYY.out v3 hBv3; clear hb))
      go_upto_region 14 with (first | (go_at_call 31; refine (HO2.out _ (by assumption)).mono ?_; rintro e v4 ⟨rfl, hb⟩; have hBv4 : Below wr.heap.size wr v4 := Below.trans (by assumption) (hb.mono (Below.size (by assumption))); clear hb))
      clear HO1 HO2 yc yd ya3 yb3 hBv3 hBr
      have e2 : (p4 == p4) = true := by simp
      have e3 : (i4 == i4) = true := by simp
      have e6 : ((N : Int) == (N : Int)) = true := by simp
      refine wp_region_held_drew (S := fun V => V.cell? ⟨w2.heap.size, 0, none⟩ = some (.slice A5 (l.length + 1) c5) ∧ V.cell? ⟨w2.heap.size + 1, 0, none⟩ = some (.slice Ad nd cd)) (by kernel_rfl) ?_ (fun hHeld => ?_)
      · exact HYY.out _ hBv4.drew
      have hBd : Below wr.heap.size wr v4.drew := hBv4.drew
      (refine held_call 0 (some 95) 17 _ rfl (by kernel_rfl) (by rfl) ?_ ((HRR.out _ hBd)) ?_; rotate_left; rotate_left; (simp only [List.getElem?_toArray, List.getElem?_cons_zero, List.getElem?_cons_succ, Option.map_some]; refine congrArg some ?_; go_simp))
      rintro e u1 ⟨rfl, hb⟩
      have hBu1 : Below wr.heap.size wr u1 := hBd.trans (hb.mono hBd.size)
      clear hb
      refine ⟨_, rfl, HYY.out _ hBu1, fun hHeld => ?_⟩
      (try simp only [Act.put, List.setIfInBounds_toArray, List.set_cons_zero, List.set_cons_succ])
      refine tk 1 96 ?_
      refine tk 2 97 ?_
      refine tk 3 98 ?_
      refine tk 4 99 ?_
      refine tk 5 100 ?_
      refine tk 6 101 ?_
      refine tk 7 102 ?_
      refine tk 8 103 ?_
      refine tk 9 104 ?_
      refine tk 10 105 ?_
      refine tk 11 106 ?_
      refine tk 12 107 ?_
      refine tk 13 108 ?_
      refine tk 14 109 ?_
      refine tk 16 111 ?_
      refine tk 17 112 ?_
      refine tk 18 113 ?_
      (refine held_call 15 (some 110) 25 _ rfl (by kernel_rfl) (by rfl) ?_ ((HT1.out _ hBu1)) ?_; rotate_left; rotate_left; (simp only [List.getElem?_toArray, List.getElem?_cons_zero, List.getElem?_cons_succ, Option.map_some]; refine congrArg some ?_; go_simp))
      rintro e u2 ⟨rfl, hb⟩
      have hBu2 : Below wr.heap.size wr u2 := hBu1.trans (hb.mono hBu1.size)
      clear hb
      refine ⟨_, rfl, HYY.out _ hBu2, fun hHeld => ?_⟩
      (try simp only [Act.put, List.setIfInBounds_toArray, List.set_cons_zero, List.set_cons_succ])
      (refine held_call 19 (some 114) 25 _ rfl (by kernel_rfl) (by rfl) ?_ ((HT2.out _ hBu2)) ?_; rotate_left; rotate_left; (simp only [List.getElem?_toArray, List.getElem?_cons_zero, List.getElem?_cons_succ, Option.map_some]; refine congrArg some ?_; go_simp))
      rintro e u3 ⟨rfl, hb⟩
      have hBu3 : Below wr.heap.size wr u3 := hBu2.trans (hb.mono hBu2.size)
      clear hb
      refine ⟨_, rfl, HYY.out _ hBu3, fun hHeld => ?_⟩
      (try simp only [Act.put, List.setIfInBounds_toArray, List.set_cons_zero, List.set_cons_succ])
      refine tk 20 115 ?_
      refine tk 21 116 ?_
      refine tk 22 117 ?_
      refine tk 23 118 ?_
      refine tk 24 119 ?_
      refine tk 25 120 ?_
      refine tk 27 122 ?_
      refine tk 28 123 ?_
      refine tk 29 124 ?_
      (refine held_call 26 (some 121) 41 _ rfl (by kernel_rfl) (by rfl) ?_ ((HG1.out _ hBu3)) ?_; rotate_left; rotate_left; (simp only [List.getElem?_toArray, List.getElem?_cons_zero, List.getElem?_cons_succ, Option.map_some]; refine congrArg some ?_; go_simp))
      rintro e u4 ⟨R1, A7, c7, hR1, hRl1, rfl, hL1, _, hb⟩
      have hBu4 : Below wr.heap.size wr u4 := hBu3.trans (hb.mono hBu3.size)
      have hM1 := Lib.hid hL1
      have hP1 := Lib.hid hR1
      clear hL1 hR1
      clear hb
      refine ⟨_, rfl, HYY.out _ hBu4, fun hHeld => ?_⟩
      (try simp only [Act.put, List.setIfInBounds_toArray, List.set_cons_zero, List.set_cons_succ])
      (refine held_call 30 (some 125) 41 _ rfl (by kernel_rfl) (by rfl) ?_ ((HG2.out _ hBu4)) ?_; rotate_left; rotate_left; (simp only [List.getElem?_toArray, List.getElem?_cons_zero, List.getElem?_cons_succ, Option.map_some]; refine congrArg some ?_; go_simp))
      rintro e u5 ⟨R2, A8, c8, hR2, hRl2, rfl, hL2, _, hb⟩
      have hBu5 : Below wr.heap.size wr u5 := hBu4.trans (hb.mono hBu4.size)
      have hM2 := Lib.hid (lies_on hM1.out hb)
      have hEQ : R1 = R2 := hP1.out.uniq hR2
      subst hEQ
      have HQ : Hid (Calls Tryz.prog 40 #[.slice A7 R1.length c7, .slice A8 R1.length c8] u5 (ShEnd true u5)) := by
        have h := sameStrs_any R1 R1 A7 A8 c7 c8 u5 hM2.out hL2 (by omega) (by omega)
        unfold sameS at h; rw [decide_eq_true rfl] at h; exact h
      clear hM1 hM2 hP1 hR2 hL2 hRl2
      generalize R1.length = m7 at *
      clear hb
      refine ⟨_, rfl, HYY.out _ hBu5, fun hHeld => ?_⟩
      (try simp only [Act.put, List.setIfInBounds_toArray, List.set_cons_zero, List.set_cons_succ])
      (refine held_call 31 (some 126) 40 _ rfl (by kernel_rfl) (by rfl) ?_ (HQ.out) ?_; rotate_left; rotate_left; (simp only [List.getElem?_toArray, List.getElem?_cons_zero, List.getElem?_cons_succ, Option.map_some]; refine congrArg some ?_; go_simp))
      rintro e u6 ⟨rfl, hb⟩
      have hBu6 : Below wr.heap.size wr u6 := hBu5.trans (hb.mono hBu5.size)
      clear hb
      refine ⟨_, rfl, HYY.out _ hBu6, fun hHeld => ?_⟩
      (try simp only [Act.put, List.setIfInBounds_toArray, List.set_cons_zero, List.set_cons_succ])
      refine tk 32 127 ?_
      refine tk 33 14 ?_
      refine wpAnyH_done (by kernel_rfl) ?_ _
      go_wp2
      go_ret
      subst hb0
      exact ⟨rfl, HWF.out.trans (hBu6.mono (by have := HWF.out.size; omega))⟩
end Go.Proofs.YtkfeagokmcakgaaGreatDoor

namespace Go.Proofs.YtkfeagokmcakgaaGreatDoor
open Go.ChangeShapes Go.WideShapes Go.ChangeAt Go.RowKit Go.Deep

set_option maxHeartbeats 20000000 in
set_option maxRecDepth 100000 in
theorem voids_facts : joinedFacts Tryz.prog 15 Tryz.f15 Rows.pigmentVoidsSpec Rows.pigmentVoidsRow = true := by
  unfold joinedFacts
  simp only [Bool.and_eq_true]
  repeat' (refine And.intro ?_ ?_)
  all_goals (as_aux_lemma => kernel_rfl)
end Go.Proofs.YtkfeagokmcakgaaGreatDoor
