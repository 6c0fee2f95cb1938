/- pigment.sorted, pigment.Groups (fns 89, 41): the true keys of a map, in ascending order. -/
import Derived.Maps.RangeWalk
import Derived.Sort.OwnSorted
import Derived.Sort.Walk0
import Derived.Test.YtkfeagokmcakgaaGreatDoorG02
import Derived.Test.YtkfeagokmcakgaaGreatDoorG07
import Derived.Test.YtkfeagokmcakgaaGreatDoorG13
import Derived.Test.YtkfeagokmcakgaaGreatDoorG16
import Derived.Test.YtkfeagokmcakgaaGreatDoorG30

set_option linter.unusedVariables false
set_option linter.unusedSimpArgs false

namespace Go.Proofs.YtkfeagokmcakgaaGreatDoor
open Go.RowKit Go.Maps

def byB (s : ByteArray) : List UInt8 := s.data.toList
theorem byB_inj {a b : ByteArray} (h : byB a = byB b) : a = b := bytes_inj h
def srtB (l : List ByteArray) : List ByteArray := l.mergeSort fun x y => decide (byB x ≤ byB y)
theorem enc_by (s : ByteArray) : Go.Proofs.encStr (byB s) = Value.string s := by
  show Value.string ⟨s.data.toList.toArray⟩ = _
  rw [Array.toArray_toList]
theorem strsC_enc (l : List ByteArray) : (l.map byB).map Go.Proofs.encStr = strsC l := by
  unfold strsC
  rw [List.map_map]
  exact List.map_congr_left fun s _ => enc_by s
theorem srt_map (l : List ByteArray) : (l.map byB).mergeSort (fun x y => decide (x ≤ y)) = (srtB l).map byB := by
  unfold srtB
  exact (List.map_mergeSort (f := byB) (r := fun x y => decide (byB x ≤ byB y)) (s := fun x y => decide (x ≤ y)) (fun a _ b _ => rfl)).symm
/-- the list of a set of names, in ascending order -/
structure SrtOf (R : List ByteArray) (p : ByteArray → Bool) : Prop where
  srt : R.Pairwise fun a b => byB a ≤ byB b
  nd : R.Nodup
  mem : ∀ s, s ∈ R ↔ (s.size ≤ maxLen ∧ p s = true)
theorem SrtOf.uniq {R R' : List ByteArray} {p : ByteArray → Bool} (h : SrtOf R p) (k : SrtOf R' p) : R = R' :=
  List.Perm.eq_of_pairwise (fun _ _ _ _ h1 h2 => byB_inj (List.le_antisymm h1 h2)) h.srt k.srt ((List.perm_ext_iff_of_nodup h.nd k.nd).2 fun s => (h.mem s).trans (k.mem s).symm)
theorem srtB_of {l : List ByteArray} {p : ByteArray → Bool} (hn : l.Nodup) (hm : ∀ s, s ∈ l ↔ (s.size ≤ maxLen ∧ p s = true)) : SrtOf (srtB l) p := by
  refine ⟨?_, (List.mergeSort_perm l _).nodup_iff.2 hn, fun s => ((List.mergeSort_perm l _).mem_iff).trans (hm s)⟩
  have h := List.pairwise_mergeSort (le := fun x y => decide (byB x ≤ byB y)) (fun a b c h1 h2 => by simp at h1 h2 ⊢; exact List.le_trans h1 h2) (fun a b => by simp; exact List.le_total _ _) l
  exact h.imp (by simp)
theorem srtB_len (l : List ByteArray) : (srtB l).length = l.length := List.length_mergeSort _
/-- what has come so far of a range over a map -/
structure Cm (g : ByteArray → Option Bool) (left : Lit → Bool) (acc : List ByteArray) : Prop where
  nd : acc.Nodup
  mem : ∀ s, s ∈ acc ↔ (s.size ≤ maxLen ∧ g s = some true ∧ left (.string (byB s)) = false)
  sub : ∀ s, s.size ≤ maxLen → left (.string (byB s)) = true → (g s).isSome = true
theorem Cm.start {g : ByteArray → Option Bool} {D : DataW Unit} (h : Reads mSB D g) : Cm g (Maps.has D) [] := by
  have h2 : ∀ s : ByteArray, s.size ≤ maxLen → Maps.has D (.string (byB s)) = (g s).isSome := fun s hs => (h s hs).2
  refine ⟨List.nodup_nil, fun s => ⟨fun hm => (by cases hm), ?_⟩, fun s hs hl => by rw [← h2 s hs]; exact hl⟩
  rintro ⟨hs, hg, hl⟩
  rw [h2 s hs, hg] at hl
  cases hl
theorem key_same {x s : ByteArray} : (Lit.string (byB s)).sameKey (.string (byB x)) = decide (s = x) := by
  by_cases h : s = x
  · subst h
    rw [decide_eq_true rfl]
    exact WideAt.sameKey_self trivial
  · rw [decide_eq_false h]
    cases hk : (Lit.string (byB s)).sameKey (.string (byB x))
    · rfl
    · have := WideAt.sameKey_eq hk
      injection this with h1
      exact absurd (byB_inj h1) h
theorem Cm.step {g : ByteArray → Option Bool} {left : Lit → Bool} {acc : List ByteArray} (h : Cm g left acc) {D : DataW Unit} (hr : Reads mSB D g) {x : ByteArray} {c : Bool} (hx : x.size ≤ maxLen) (hl : left (.string (byB x)) = true) (ha : ∀ zd, D.atKey (.string (byB x)) zd = .lit (.bool c)) :
    Cm g (fun z => left z && !z.sameKey (.string (byB x))) (if c = true then acc ++ [x] else acc) := by
  have h1 := (hr x hx).1
  have h2 : (DataW.lit (.bool c) : DataW Unit) = .lit (.bool ((g x).getD false)) := (ha _).symm.trans h1
  have h3 : c = (g x).getD false := by injection h2 with h2; injection h2
  have h4 := h.sub x hx hl
  have hg : g x = some c := by
    cases hgx : g x with
    | none => rw [hgx] at h4; cases h4
    | some d => rw [hgx] at h3; rw [h3]; rfl
  have hna : x ∉ acc := fun hm => by have := ((h.mem x).1 hm).2.2; rw [hl] at this; cases this
  refine ⟨?_, fun s => ?_, fun s hs hls => ?_⟩
  · split
    · rw [List.nodup_append]
      exact ⟨h.nd, by simp, fun a hin b hb => by simp at hb; subst hb; exact fun e => hna (e ▸ hin)⟩
    · exact h.nd
  · have e : (left (.string (byB s)) && !(Lit.string (byB s)).sameKey (.string (byB x))) = (left (.string (byB s)) && !decide (s = x)) := by rw [key_same]
    show _ ↔ _ ∧ _ ∧ (left (.string (byB s)) && !(Lit.string (byB s)).sameKey (.string (byB x))) = false
    rw [e]
    by_cases hsx : s = x
    · subst hsx
      rw [decide_eq_true rfl]
      cases c
      · simp only [Bool.false_eq_true, if_false]
        constructor
        · intro hm; exact absurd hm hna
        · rintro ⟨_, h6, _⟩; rw [hg] at h6; cases h6
      · simp only [if_true, List.mem_append, List.mem_singleton, or_true, true_iff]
        exact ⟨hx, hg, by simp⟩
    · rw [decide_eq_false hsx]
      have : (s ∈ if c = true then acc ++ [x] else acc) ↔ s ∈ acc := by
        split
        · simp [hsx]
        · rfl
      rw [this, h.mem s]
      simp
  · have h5 : left (.string (byB s)) = true := by
      simp only [Bool.and_eq_true] at hls; exact hls.1
    exact h.sub s hs h5
theorem Cm.done {g : ByteArray → Option Bool} {left : Lit → Bool} {acc : List ByteArray} (h : Cm g left acc) (hl : ∀ kl, left kl = false) : ∀ s, s ∈ acc ↔ (s.size ≤ maxLen ∧ decide (g s = some true) = true) := fun s => by
  rw [h.mem s, hl, decide_eq_true_eq]
  simp
theorem own_iter {w w' : World} {base r : Nat} {e : TypeId} {size n : Nat} {v : Value} {xs : List Value} (h : w.ownsRow base e size v n xs) (hg : w.grownBy w' (some r)) (hr : r < base) : w'.ownsRow base e size v n xs := by
  refine ⟨h.1, ?_⟩
  rcases h.2 with h2 | ⟨g, cap, cur, h1, h2, h3, h4⟩
  · exact .inl h2
  · have hgl : g < w.heap.size := (Array.getElem?_eq_some_iff.1 h3).1
    exact .inr ⟨g, cap, cur, h1, h2, (hg.block g hgl (by intro e; cases e; omega)).trans h3, h4⟩
theorem sortS_own {w : World} {base n c : Nat} {A : Option Addr} {L : List ByteArray} (h : w.ownsRow base 9 1 (.slice A n c) n (strsC L)) (hn : n = L.length) (hm : n ≤ 100000) (hb : base ≤ w.heap.size) :
    Calls Tryz.prog 128 #[.slice A n c] w fun e w' => e = .returned (.tuple #[]) ∧ w'.ownsRow base 9 1 (.slice A n c) n (strsC (srtB L)) ∧ Below base w w' := by
  subst hn
  rcases h.2 with ⟨h1, h2⟩ | ⟨g, cap, cur, h1, hbg, hg, h2, h3, h4, h5⟩
  · have hL : L = [] := List.eq_nil_of_length_eq_zero h2
    subst hL
    refine (Tryz.slices_Sort_string_none A c w).mono ?_
    rintro e w' ⟨rfl, rfl⟩
    exact ⟨rfl, by simpa [srtB] using h, Below.refl _ _⟩
  · cases h1
    have hlen : (L.map byB).length = L.length := by simp
    have hH : Go.Sort.Holds Go.Proofs.encStr w g 0 (L.map byB).toArray := holds_of_block hg (by rw [hlen, strsC_enc]; rw [Nat.mul_one] at h5; exact h5)
    have hs := Tryz.slices_Sort_string g 0 c (L.map byB) w hH (Array.getElem?_eq_some_iff.1 hg).1 (by rw [hlen]; omega)
    rw [hlen] at hs
    refine hs.mono ?_
    rintro e w' ⟨rfl, m, os, rfl⟩
    rw [srt_map]
    refine ⟨rfl, ?_, below_grown (grownBy_sorted _) (fun k e => by cases e; exact hbg) hb⟩
    have := ownsRow_sorted (n := m) (os := os) (ss := L.map byB) (ts := (srtB L).map byB) (by simp [srtB_len]) hbg hg (by rw [hlen]; exact h2) h3 h4
    rw [hlen, strsC_enc] at this
    exact this
/-- a list of names in new memory, in ascending order -/
def GpE (p : ByteArray → Bool) (w : World) (e : Ending) (w' : World) : Prop := ∃ R A c, SrtOf R p ∧ R.length ≤ 10000 ∧ e = .returned (.slice A R.length c) ∧ Lies w' w'.heap.size A (strsC R) ∧ (R.length ≤ c ∧ c ≤ maxLen) ∧ Below w.heap.size w w'

theorem next_sb {w : World} {ops : Array Oper} {rest : List Oper} {o : Oper} {a : Act} {Q : Exit → Act → World → Prop} (hg : o.guard = none) (it : Operand) (hop : o.op = Op.next it false) (b r n : Nat) (D : DataW Unit) (left : Lit → Bool) (cnt : Nat)
    (hit : a.eval it = .pointer (some ⟨r, 0, none⟩)) (h : w.ranges Tryz.prog 9 (plainElem Tryz.prog 4) b r n D left cnt)
    (hDone : (∀ kl, left kl = false) → wpList Tryz.prog ops Q rest (a.put o.dst (.tuple #[.bool false])) w)
    (hMoreF : ∀ (x : ByteArray) (w' : World) (cnt' : Nat), x.size ≤ maxLen → left (.string (byB x)) = true → (∀ zd, D.atKey (.string (byB x)) zd = .lit (.bool false)) → w'.ranges Tryz.prog 9 (plainElem Tryz.prog 4) b r n D (fun z => left z && !z.sameKey (.string (byB x))) cnt' → cnt' < cnt →
      w.grownBy w' (some r) → w'.heap.size = w.heap.size → (Instr.entry (.pointer (some ⟨r, 0, none⟩))).run Tryz.prog w' = .ok (.tuple #[.string x, .bool false]) w' → wpList Tryz.prog ops Q rest (a.put o.dst (.tuple #[.bool true, .string x, .bool false])) w')
    (hMoreT : ∀ (x : ByteArray) (w' : World) (cnt' : Nat), x.size ≤ maxLen → left (.string (byB x)) = true → (∀ zd, D.atKey (.string (byB x)) zd = .lit (.bool true)) → w'.ranges Tryz.prog 9 (plainElem Tryz.prog 4) b r n D (fun z => left z && !z.sameKey (.string (byB x))) cnt' → cnt' < cnt →
      w.grownBy w' (some r) → w'.heap.size = w.heap.size → (Instr.entry (.pointer (some ⟨r, 0, none⟩))).run Tryz.prog w' = .ok (.tuple #[.string x, .bool true]) w' → wpList Tryz.prog ops Q rest (a.put o.dst (.tuple #[.bool true, .string x, .bool true])) w') :
    wpList Tryz.prog ops Q (o :: rest) a w := by
  refine wpList_next_ranges w hg it hop 9 (string_keyed Tryz.underlying9) (plainElem Tryz.prog 4) Value.string Value.bool (fun key kl hk => by obtain ⟨x, h1, h2, h3⟩ := WideMaps.string_of_keyOf Tryz.underlying9 hk; exact ⟨x, h1⟩) (fun v y hv => by obtain ⟨c, _, h2, _⟩ := inv_bool Tryz.underlying4 hv; exact ⟨c, h2⟩)
    b r n D left cnt hit h (fun _ => hDone) (fun x c kl y w' cnt' hkey hlk hv hat hrg hlt hgr hsz hen => ?_)
  obtain ⟨x', ex, rfl, hx⟩ := WideMaps.string_of_keyOf Tryz.underlying9 hkey
  cases ex
  obtain ⟨c', _, ec, rfl⟩ := inv_bool Tryz.underlying4 hv
  cases ec
  cases c
  · exact hMoreF x w' cnt' hx hlk hat hrg hlt hgr hsz hen
  · exact hMoreT x w' cnt' hx hlk hat hrg hlt hgr hsz hen
set_option maxHeartbeats 1000000 in
set_option maxRecDepth 100000 in
theorem sorted_any (g : ByteArray → Option Bool) (b n : Nat) (w : World) (hm : MapG mSB w b n g) (hn : n ≤ 10000) : Calls Tryz.prog 89 #[.map (some b)] w (GpE (fun s => decide (g s = some true)) w) := by
  obtain ⟨D, hown, hrd⟩ := hm.out
  have HRD := Lib.hid hrd
  have hbl := hown.lt
  have hcs0 := hown.size_le
  clear hm hrd
  have hown : w.ownsMap Tryz.prog 9 (plainElem Tryz.prog 4) b n D := hown
  go_enter Tryz.func89, Tryz.ntmps89
  go_wp2_with (first
    | (at_range; refine wpList_range_own _ rfl _ 114 rfl 9 4 (string_keyed Tryz.underlying9) Tryz.underlying114 _ b n _ rfl hown ?_; intro w0 hrg0 hg0 hs0)
    | go_in)
  go_frame
  have hb0 : Below w.heap.size w w0 := (Below.refl _ _).grown hg0 (Nat.le_refl _) (fun j hj => by cases hj)
  go_loopw [3, 4, 5] (fun v _ _ wr => ∃ (left : Lit → Bool) (cnt : Nat) (acc : List ByteArray) (A : Option Addr) (c : Nat), Hid (wr.ranges Tryz.prog 9 (plainElem Tryz.prog 4) b w.heap.size n D left cnt) ∧ acc.length + cnt ≤ 10000 ∧ v = .slice A acc.length c ∧ Hid (Cm g left acc) ∧ Hid (wr.ownsRow (w.heap.size + 1) 9 1 (.slice A acc.length c) acc.length (strsC acc)) ∧ Below w.heap.size w wr)
    (fun _ _ _ wr => wr.rangeLeft b w.heap.size)
  case atStart => exact ⟨_, _, [], none, 0, hrg0, by simp; omega, rfl, Cm.start HRD.out, World.ownsRow_nil _ _ _ _, hb0⟩
  case round =>
    obtain ⟨left, cnt, acc, A, c, hrg, hcs, rfl, hC, ho, hbw⟩ := hrel
    go_wp2_with (first
      | (at_next; refine next_sb rfl _ rfl b w.heap.size n _ _ _ rfl hrg.out ?_ ?_ ?_)
      | go_in)
    · intro hl0
      have hS := Lib.hid (sortS_own ho.out rfl (by omega) (by have := hrg.out.lt; omega))
      have hR := Lib.hid (srtB_of hC.out.nd (hC.out.done hl0))
      have hbase : w.heap.size + 1 ≤ wr.heap.size := by have := hrg.out.lt; omega
      clear hrg hC ho HRD hown
      go_wp2_with (first | (go_at_call 128; refine hS.out.mono ?_; rintro e w5 ⟨rfl, ho5, hb5⟩))
      have hBE : Below w.heap.size w w5 := hbw.trans (hb5.mono (by omega))
      have hLI := Lib.hid (ownsRow_lies ho5)
      have hcap := ownsSlice ho5
      clear ho5 hb5 hbw hS
      go_ret
      obtain ⟨A7, c7, e7, h1, h2⟩ := hcap
      cases e7
      exact ⟨srtB acc, A, c, hR.out, by rw [srtB_len]; omega, by rw [srtB_len]; rfl, hLI.out, by rw [srtB_len]; exact ⟨h1, h2⟩, hBE⟩
    · intro x w1 cnt1 hx hlx hat hrg1 hlt hg1 hs1 hen
      have hC1 := Lib.hid (hC.out.step HRD.out hx hlx hat)
      have ho1 := Lib.hid (own_iter ho.out hg1 (Nat.lt_succ_self _))
      have hbw1 : Below w.heap.size w w1 := hbw.grown hg1 hbw.size (fun j hj => by cases hj; exact Nat.le_refl _)
      have hbase : w.heap.size + 1 ≤ w1.heap.size := by have := hrg1.lt; omega
      have HRG := Lib.hid hrg1
      have HME := Lib.hid (show wr.rangeLeft b w.heap.size = cnt from hrg.out.left_eq)
      clear hg1 hs1 hlx hat hrg1 hC ho hrg hbw hown HRD
      rw [if_neg (by simp)] at hC1
      go_wp2
      go_roundw
      case rel => exact ⟨_, cnt1, acc, A, c, HRG, by omega, rfl, hC1, ho1, hbw1⟩
      case measure => rw [HRG.out.left_eq, HME.out]; exact hlt
    · intro x w1 cnt1 hx hlx hat hrg1 hlt hg1 hs1 hen
      have hC1 := Lib.hid (hC.out.step HRD.out hx hlx hat)
      have ho1 := Lib.hid (own_iter ho.out hg1 (Nat.lt_succ_self _))
      have hbw1 : Below w.heap.size w w1 := hbw.grown hg1 hbw.size (fun j hj => by cases hj; exact Nat.le_refl _)
      have hbase : w.heap.size + 1 ≤ w1.heap.size := by have := hrg1.lt; omega
      have HRG := Lib.hid hrg1
      have HME := Lib.hid (show wr.rangeLeft b w.heap.size = cnt from hrg.out.left_eq)
      clear hg1 hs1 hlx hat hrg1 hC ho hrg hbw hown HRD
      rw [if_pos rfl] at hC1
      go_wp2_with (at_builtin; refine wpList_append1g (P := Tryz.prog) rfl (.tmp 14) (.tmp 16) 34 rfl (w.heap.size + 1) 9 (.string ByteArray.empty) 1 16 Tryz.underlying34 info9 (by decide) (by decide) (.slice A acc.length c) acc.length (strsC acc) rfl (ho1.out.alloc _) w1.heap.size #[.string x] 9 rfl (Bk.new _ _ _) rfl ?c1 ?c2 (by decide) ?c3 ?_)
      case c1 => rfl
      case c2 => omega
      case c3 => simp; omega
      intro v' w4 ho4 hg4
      have hgr : ∀ k, (Value.slice A acc.length c).ownBlock = some k → w.heap.size + 1 ≤ k := fun k hk => (ho1.out.lt k hk).1
      have HRG4 := Lib.hid ((HRG.out.alloc (.cells #[.string x] 9)).kept hg4 (fun e => by have := hgr b e.symm; omega) (fun e => by have := hgr w.heap.size e.symm; omega))
      have hbw4 : Below w.heap.size w w4 := (hbw1.alloc hbw1.size _).grown hg4 (by have := hbw1.size; simp; omega) (fun j hj => by have := hgr j hj; omega)
      have hsn : strsC acc ++ (#[Value.string x] : Array Value).toList = strsC (acc ++ [x]) := by simp [strsC]
      rw [hsn] at ho4
      obtain ⟨A4, c4, rfl, _, _⟩ := ownsSlice ho4
      have ho5 : Hid (w4.ownsRow (w.heap.size + 1) 9 1 (.slice A4 (acc ++ [x]).length c4) (acc ++ [x]).length (strsC (acc ++ [x]))) := by rw [List.length_append]; exact Lib.hid ho4
      have hll : (acc ++ [x]).length = acc.length + 1 := by simp
      clear ho4 hg4 hgr ho1 hbw1 hsn
      go_wp2
      go_roundw
      case rel => exact ⟨_, cnt1, acc ++ [x], A4, c4, HRG4, by omega, by rw [hll], hC1, ho5, hbw4⟩
      case measure => rw [HRG4.out.left_eq, HME.out]; exact hlt
set_option maxHeartbeats 1000000 in
set_option maxRecDepth 100000 in
theorem Groups_any (l : List Rul) (A : Option Addr) (c : Nat) (known : Int) (x : ByteArray) (w : World) (hl : Lies w w.heap.size A (rulesC l)) (hok : RulOK l) (hm : l.length ≤ 1000) (hxs : x.size ≤ 100) :
    Calls Tryz.prog 41 #[.agg #[.slice A l.length c], .int .i64 known, .string x] w (GpE (inG (cntL l known) x) w) := by
  have HC : Hid (∀ W, Below w.heap.size w W → Calls Tryz.prog 38 #[.agg #[.slice A l.length c], .int .i64 known] W (SlE (cntL l known) W)) := fun W hb => counting_any l A c known W ((hl.below hb (Nat.le_refl _)).more hb.size) hok hm
  have HG := Lib.hid (fun A' c' W hL => groups_any (cntL l known) A' c' x W hL (hok.sub (cnt_sub l known)) (Nat.le_trans (cnt_len l known) hm) hxs)
  have HP : Hid ((fun s => decide (setG (inG (cntL l known) x) s = some true)) = inG (cntL l known) x) := by
    show _ = _
    funext s
    unfold setG
    cases inG (cntL l known) x s <;> simp
  clear hl hok
  go_enter Tryz.func41, Tryz.ntmps41
  go_wp2_with (first | (go_at_call 38; refine (HC.out _ (by repeat (first | with_reducible exact Below.refl _ _ | with_reducible assumption | with_reducible refine Below.drew ?_ | with_reducible refine below_drewN ?_ _ | (with_reducible refine Below.alloc ?_ ?_ _; rotate_left; (try simp) <;> omega) | (with_reducible refine Below.setCell ?_ ?_ _; rotate_left; (try simp) <;> omega)))).mono ?_; rintro e w1 ⟨A1, c1, rfl, hl1, _, hb1⟩; have hB1 : Below w.heap.size w w1 := Below.trans (by repeat (first | with_reducible exact Below.refl _ _ | with_reducible assumption | with_reducible refine Below.drew ?_ | with_reducible refine below_drewN ?_ _ | (with_reducible refine Below.alloc ?_ ?_ _; rotate_left; (try simp) <;> omega) | (with_reducible refine Below.setCell ?_ ?_ _; rotate_left; (try simp) <;> omega))) (hb1.mono (by simp))) | (go_at_call 90; refine (HG.out _ _ _ hl1).mono ?_; rintro e w2 ⟨b, n, rfl, _, hn2, hm2, hb2⟩; have HST := Lib.hid (sorted_any _ b n w2 hm2 hn2); have hB2 : Below w.heap.size w w2 := hB1.trans (hb2.mono hB1.size)) | (go_at_call 89; refine HST.out.mono ?_; rintro e w3 ⟨R, A3, c3, hR, hRl, rfl, hL3, hc3, hb3⟩))
  rw [HP.out] at hR
  have HLI := Lib.hid hL3
  have HR := Lib.hid hR
  go_ret
  exact ⟨R, A3, c3, HR.out, hRl, rfl, HLI.out, hc3, hB2.trans (hb3.mono hB2.size)⟩
end Go.Proofs.YtkfeagokmcakgaaGreatDoor

namespace Go.Proofs.YtkfeagokmcakgaaGreatDoor
open Go.RowKit

theorem toL (s : ByteArray) : s.toList = byB s := by rw [ByteArray.toList_eq]; rfl
theorem lt_eq (s t : ByteArray) : Op.bytesLess s.toList t.toList = decide (byB s < byB t) := by rw [toL, toL]; exact Go.Proofs.bytesLess_eq _ _
/-- out holds the names of M once each, in ascending order -/
structure SrtS (out M : List ByteArray) : Prop where
  srt : out.Pairwise fun a b => byB a ≤ byB b
  nd : out.Nodup
  mem : ∀ z, z ∈ out ↔ z ∈ M
theorem SrtS.nil : SrtS [] [] := ⟨List.Pairwise.nil, List.nodup_nil, fun _ => Iff.rfl⟩
theorem SrtS.skip {out M : List ByteArray} {s : ByteArray} (h : SrtS out M) (hs : s ∈ out) : SrtS out (M ++ [s]) := ⟨h.srt, h.nd, fun z => by
  rw [h.mem z, List.mem_append, List.mem_singleton]
  constructor
  · exact .inl
  · rintro (h1 | rfl)
    · exact h1
    · exact (h.mem _).1 hs⟩
theorem SrtS.ins {out M nx : List ByteArray} {s : ByteArray} (h : SrtS out M) (hs : s ∉ out) (h1 : nx.Pairwise fun a b => byB a ≤ byB b) (h2 : nx.Perm (s :: out)) : SrtS nx (M ++ [s]) :=
  ⟨h1, h2.nodup_iff.2 (List.nodup_cons.2 ⟨hs, h.nd⟩), fun z => by
    rw [h2.mem_iff, List.mem_cons, h.mem z, List.mem_append, List.mem_singleton]
    exact Or.comm⟩
theorem srtS_of {R M : List ByteArray} {p : ByteArray → Bool} (h : SrtS R M) (hm : ∀ s, s ∈ M ↔ (s.size ≤ maxLen ∧ p s = true)) : SrtOf R p := ⟨h.srt, h.nd, fun s => (h.mem s).trans (hm s)⟩
/-- where a name is being put among others -/
structure InsQ (s : ByteArray) (out : List ByteArray) (k : Nat) (nx : List ByteArray) (d : Bool) : Prop where
  no : d = false → nx = out.take k ∧ ∀ o ∈ out.take k, byB o ≤ byB s
  ys : d = true → (nx ++ out.drop k).Pairwise (fun a b => byB a ≤ byB b) ∧ (nx ++ out.drop k).Perm (s :: out)
theorem InsQ.start (s : ByteArray) (out : List ByteArray) : InsQ s out 0 [] false := ⟨fun _ => ⟨rfl, fun o ho => by simp at ho⟩, fun h => by cases h⟩
theorem InsQ.later {s : ByteArray} {out nx : List ByteArray} {k : Nat} (h : InsQ s out k nx false) (hk : k < out.length) (hlt : ¬ byB s < byB out[k]) : InsQ s out (k + 1) (nx ++ [out[k]]) false := by
  obtain ⟨rfl, h2⟩ := h.no rfl
  refine ⟨fun _ => ⟨List.take_append_getElem hk, fun o ho => ?_⟩, fun h => by cases h⟩
  rw [← List.take_append_getElem hk, List.mem_append, List.mem_singleton] at ho
  rcases ho with h1 | rfl
  · exact h2 o h1
  · exact List.not_lt.1 hlt
theorem InsQ.now {s : ByteArray} {out nx : List ByteArray} {k : Nat} (h : InsQ s out k nx false) (hsrt : out.Pairwise fun a b => byB a ≤ byB b) (hk : k < out.length) (hlt : byB s < byB out[k]) : InsQ s out (k + 1) ((nx ++ [s]) ++ [out[k]]) true := by
  obtain ⟨rfl, h2⟩ := h.no rfl
  have hd : ((out.take k ++ [s]) ++ [out[k]]) ++ out.drop (k + 1) = out.take k ++ (s :: out.drop k) := by
    rw [List.drop_eq_getElem_cons hk]; simp
  have hsp : (out.take k ++ out.drop k).Pairwise fun a b => byB a ≤ byB b := by rw [List.take_append_drop]; exact hsrt
  have hsk : ∀ o ∈ out.drop k, byB s ≤ byB o := fun o ho => by
    rw [List.drop_eq_getElem_cons hk] at ho
    rcases List.mem_cons.1 ho with rfl | h1
    · exact List.le_of_lt hlt
    · have := (List.pairwise_append.1 hsp).2.1
      rw [List.drop_eq_getElem_cons hk, List.pairwise_cons] at this
      exact List.le_trans (List.le_of_lt hlt) (this.1 o h1)
  refine ⟨fun h => (by cases h), fun _ => ?_⟩
  rw [hd]
  constructor
  · rw [List.pairwise_append]
    obtain ⟨p1, p2, p3⟩ := List.pairwise_append.1 hsp
    refine ⟨p1, List.pairwise_cons.2 ⟨hsk, p2⟩, fun a ha b hb => ?_⟩
    rcases List.mem_cons.1 hb with rfl | h1
    · exact h2 a ha
    · exact p3 a ha b h1
  · have := List.perm_middle (a := s) (l₁ := out.take k) (l₂ := out.drop k)
    rw [List.take_append_drop] at this
    exact this
theorem InsQ.done {s : ByteArray} {out nx : List ByteArray} {k : Nat} (h : InsQ s out k nx true) (hk : k < out.length) : InsQ s out (k + 1) (nx ++ [out[k]]) true := by
  refine ⟨fun h => (by cases h), fun _ => ?_⟩
  have := h.ys rfl
  rw [List.drop_eq_getElem_cons hk] at this
  simpa using this
theorem InsQ.endT {s : ByteArray} {out nx : List ByteArray} (h : InsQ s out out.length nx true) : nx.Pairwise (fun a b => byB a ≤ byB b) ∧ nx.Perm (s :: out) := by
  have := h.ys rfl
  rw [List.drop_length, List.append_nil] at this
  exact this
theorem InsQ.endF {s : ByteArray} {out nx : List ByteArray} (h : InsQ s out out.length nx false) (hsrt : out.Pairwise fun a b => byB a ≤ byB b) : (nx ++ [s]).Pairwise (fun a b => byB a ≤ byB b) ∧ (nx ++ [s]).Perm (s :: out) := by
  obtain ⟨rfl, h2⟩ := h.no rfl
  rw [List.take_length] at h2 ⊢
  refine ⟨?_, List.perm_append_singleton _ _⟩
  rw [List.pairwise_append]
  exact ⟨hsrt, by simp, fun a ha b hb => by simp at hb; subst hb; exact h2 a ha⟩
set_option maxHeartbeats 6000000 in
set_option maxRecDepth 100000 in
theorem rsorted_any (L : List ByteArray) (A : Option Addr) (c : Nat) (w : World) (hl : Lies w w.heap.size A (strsC L)) (hm : L.length ≤ 1001) :
    Calls Tryz.prog 91 #[.slice A L.length c] w (fun e w' => ∃ R A' c', SrtS R L ∧ R.length ≤ 10000 ∧ e = .returned (.slice A' R.length c') ∧ Lies w' w'.heap.size A' (strsC R) ∧ (R.length ≤ c' ∧ c' ≤ maxLen) ∧ Below w.heap.size w w') := by
  have HLW : Hid (∀ V, Below w.heap.size w V → Lies V V.heap.size A (strsC L)) := fun V hV => lies_on hl hV
  have HT0 : Hid (SrtS [] (L.take 0)) := SrtS.nil
  have HTE : Hid (L.take L.length = L) := List.take_length
  have hl0 : Hid (Lies w w.heap.size none (strsC [])) := fun h => absurd rfl h
  clear hl
  go_enter Tryz.func91, Tryz.ntmps91
  go_upto_region 3 with fail
  go_loopw [3, 4] (fun v y wr => ∃ (i : Nat) (out : List ByteArray) (A' : Option Addr) (c' : Nat), i ≤ L.length ∧ v = .slice A' out.length c' ∧ y = .int .i64 i ∧ Hid (SrtS out (L.take i)) ∧ Hid (Lies wr wr.heap.size A' (strsC out)) ∧ Hid (out.length ≤ c' ∧ c' ≤ maxLen) ∧ out.length ≤ i ∧ Below w.heap.size w wr) (fun _ y _ => L.length - (intOf y).toNat)
  case atStart => exact ⟨0, [], none, 0, by omega, rfl, rfl, HT0, hl0, ⟨Nat.le_refl _, Nat.zero_le _⟩, Nat.le_refl _, Below.refl _ _⟩
  case round =>
    obtain ⟨i, out, A1, c1, hi, rfl, rfl, hS, hL1, hc1, hoi, hbw⟩ := hrel
    clear HT0 hl0
    by_cases hlt : i < L.length
    · obtain ⟨ad, rfl, _, x0⟩ := str_at (HLW.out wr hbw) hlt
      have HX : Hid (∀ V, Below w.heap.size w V → V.cell? (ad.add i) = some (.string L[i])) := fun V hV => by
        obtain ⟨a2, e2, _, h2⟩ := str_at (HLW.out V hV) hlt
        cases e2
        exact h2
      have HSK : Hid (L[i] ∈ out → SrtS out (L.take (i + 1))) := fun h => by rw [← List.take_append_getElem hlt]; exact hS.out.skip h
      have HIN : Hid (∀ nx : List ByteArray, L[i] ∉ out → nx.Pairwise (fun a b => byB a ≤ byB b) → nx.Perm (L[i] :: out) → SrtS nx (L.take (i + 1))) := fun nx h h1 h2 => by rw [← List.take_append_getElem hlt]; exact hS.out.ins h h1 h2
      have HSR := Lib.hid hS.out.srt
      have HH := Lib.hid (rhas_any out A1 c1 L[i] wr hL1.out (by unfold maxLen; omega))
      generalize L[i] = s at *
      clear hS HLW HTE
      by_cases hs : s ∈ out
      · rw [decide_eq_true hs] at HH
        have HN := Lib.hid (HSK.out hs)
        clear HSK HIN hs
        go_wp2_with (first | (go_at_call 77; refine HH.out.mono ?_; rintro e u ⟨rfl, hb⟩))
        have hL2 := Lib.hid (lies_on hL1.out hb)
        have hbw2 : Below w.heap.size w u := hbw.trans (hb.mono hbw.size)
        clear hb hL1 hbw
        go_roundw
        case rel => exact ⟨i + 1, out, A1, c1, by omega, rfl, by go_num, HN, hL2, hc1, by omega, hbw2⟩
        case measure => simp [intOf]; omega
      rw [decide_eq_false hs] at HH
      have HIN := Lib.hid (fun nx h1 h2 => HIN.out nx hs h1 h2)
      go_upto_region 9 with (first | (go_at_call 77; refine HH.out.mono ?_; rintro e u ⟨rfl, hb⟩))
      have HLO : Hid (∀ V, Below u.heap.size u V → Lies V V.heap.size A1 (strsC out)) := fun V hV => lies_on (lies_on hL1.out hb) hV
      have hbu : Below w.heap.size w u := hbw.trans (hb.mono hbw.size)
      have HX2 : Hid (∀ V, Below u.heap.size u V → V.cell? (ad.add i) = some (.string s)) := fun V hV => HX.out V (hbu.trans (hV.mono hbu.size))
      have HI0 := Lib.hid (InsQ.start s out)
      have hbuu : Below u.heap.size u u := Below.refl _ _
      clear HSK hs hL1 hb hbw HX HH x0
      go_loopw [5, 6, 7] (fun v d z wr => ∃ (k : Nat) (nx : List ByteArray) (Ax : Option Addr) (cx : Nat) (db : Bool), k ≤ out.length ∧ v = .slice Ax nx.length cx ∧ d = .bool db ∧ z = .int .i64 k ∧ Hid (InsQ s out k nx db) ∧ Hid (wr.ownsRow u.heap.size 9 1 (.slice Ax nx.length cx) nx.length (strsC nx)) ∧ nx.length ≤ k + 1 ∧ Below u.heap.size u wr) (fun _ _ z _ => out.length - (intOf z).toNat)
      case atStart => exact ⟨0, [], none, 0, false, by omega, rfl, rfl, rfl, HI0, World.ownsRow_nil _ _ _ _, by simp, hbuu⟩
      case round =>
        obtain ⟨k, nx, Ax, cx, db, hk, rfl, rfl, rfl, hQ, ho, hnx, hbv⟩ := hrel
        clear HI0 hbuu
        have z0 := HX2.out wr hbv
        by_cases hkl : k < out.length
        · obtain ⟨ao, rfl, _, z1⟩ := str_at (HLO.out wr hbv) hkl
          have HZ : Hid (∀ V, Below u.heap.size u V → V.cell? (ad.add i) = some (.string s) ∧ V.cell? (ao.add k) = some (.string out[k])) := fun V hV => by
            obtain ⟨a2, e2, _, h2⟩ := str_at (HLO.out V hV) hkl
            cases e2
            exact ⟨HX2.out V hV, h2⟩
          have HQL := Lib.hid (fun (h : InsQ s out k nx false) h2 => h.later hkl h2)
          have HQN := Lib.hid (fun (h : InsQ s out k nx false) h2 => h.now HSR.out hkl h2)
          have HQD := Lib.hid (fun (h : InsQ s out k nx true) => h.done hkl)
          have hLT := lt_eq s out[k]
          generalize out[k] = o at *
          cases db
          · have hnk : nx.length ≤ k := by rw [(hQ.out.no rfl).1, List.length_take]; omega
            have HQL := Lib.hid (fun h2 => HQL.out hQ.out h2)
            have HQN := Lib.hid (fun h2 => HQN.out hQ.out h2)
            clear HQD hQ
            by_cases hc : byB s < byB o
            · have HN := Lib.hid (HQN.out hc)
              rw [decide_eq_true hc] at hLT
              clear HQL HQN hc
              go_upto_region 11 with fail
              refine wp_region_held_drew (S := fun V => V.cell? (ad.add i) = some (.string s) ∧ V.cell? (ao.add k) = some (.string o)) (by kernel_rfl) ?_ (fun hHeld => ?_)
              · exact HZ.out _ hbv.drew
              refine tk 0 26 ?_
              refine tk 1 27 ?_
              refine tk 2 28 ?_
              refine tk 3 29 ?_
              refine tk 4 30 ?_
              refine tk 5 31 ?_
              refine tk 6 32 ?_
              refine tk 7 33 ?_
              refine tk 8 34 ?_
              refine tk 9 35 ?_
              refine tk 10 36 ?_
              refine tk 11 37 ?_
              refine tk 12 38 ?_
              refine wpAnyH_done (by kernel_rfl) ?_ _
              have hbd : Below u.heap.size u wr.drew := hbv.drew
              have hod := Lib.hid (show wr.drew.ownsRow u.heap.size 9 1 (.slice Ax nx.length cx) nx.length (strsC nx) from ho.out)
              obtain ⟨y0, y1⟩ := HZ.out _ hbd
              clear ho hbv hHeld z0 z1
              generalize wr.drew = wd at *
              have hsz3 := hbd.size
              go_upto_region 13 with (at_builtin; refine wpList_append1g (P := Tryz.prog) rfl (.tmp 39) (.tmp 44) 34 rfl u.heap.size 9 (.string ByteArray.empty) 1 16 Tryz.underlying34 info9 (by decide) (by decide) (.slice Ax nx.length cx) nx.length (strsC nx) rfl (hod.out.alloc _) wd.heap.size #[.string s] 9 rfl (Bk.new _ _ _) rfl ?c1 ?c2 (by decide) ?c3 ?_)
              case c1 => rfl
              case c2 => omega
              case c3 => first | omega | (simp; omega)
              intro v3 w3 ho3 hg3
              have hgr3 : ∀ j, (Value.slice Ax nx.length cx).ownBlock = some j → u.heap.size ≤ j := fun j hj => (hod.out.lt j hj).1
              have hb3 : Below u.heap.size u w3 := (hbd.alloc hsz3 _).grown hg3 (by simp; omega) hgr3
              have hsn3 : strsC nx ++ (#[Value.string s] : Array Value).toList = strsC (nx ++ [s]) := by simp [strsC]
              rw [hsn3] at ho3
              obtain ⟨A3, c3, rfl, hca3, hcb3⟩ := ownsSlice ho3
              have hO3 := Lib.hid ho3
              obtain ⟨y03, y13⟩ := HZ.out _ hb3
              clear ho3 hg3 hgr3 hsn3 hod hbd
              go_upto_region 14 with fail
              have hsz4 := hb3.size
              go_wp2_with (at_builtin; refine wpList_append1g (P := Tryz.prog) rfl (.tmp 46) (.tmp 51) 34 rfl u.heap.size 9 (.string ByteArray.empty) 1 16 Tryz.underlying34 info9 (by decide) (by decide) (.slice A3 (nx.length + 1) c3) (nx.length + 1) (strsC (nx ++ [s])) rfl (hO3.out.alloc _) w3.heap.size #[.string o] 9 rfl (Bk.new _ _ _) rfl ?c1 ?c2 (by decide) ?c3 ?_)
              case c1 => rfl
              case c2 => omega
              case c3 => first | omega | (simp; omega)
              intro v4 w4 ho4 hg4
              have hgr4 : ∀ j, (Value.slice A3 (nx.length + 1) c3).ownBlock = some j → u.heap.size ≤ j := fun j hj => (hO3.out.lt j hj).1
              have hb4 : Below u.heap.size u w4 := (hb3.alloc hsz4 _).grown hg4 (by simp; omega) hgr4
              have hsn4 : strsC (nx ++ [s]) ++ (#[Value.string o] : Array Value).toList = strsC ((nx ++ [s]) ++ [o]) := by simp [strsC]
              rw [hsn4] at ho4
              obtain ⟨A4, c4, rfl, hca4, hcb4⟩ := ownsSlice ho4
              have hO4 := Lib.hid ho4
              obtain ⟨y04, y14⟩ := HZ.out _ hb4
              clear ho4 hg4 hgr4 hsn4 hO3 hb3
              have hll : ((nx ++ [s]) ++ [o]).length = nx.length + 1 + 1 := by simp
              have hOO : Hid (w4.ownsRow u.heap.size 9 1 (.slice A4 ((nx ++ [s]) ++ [o]).length c4) ((nx ++ [s]) ++ [o]).length (strsC ((nx ++ [s]) ++ [o]))) := by rw [hll]; exact hO4
              go_wp2
              go_roundw
              case rel => exact ⟨k + 1, (nx ++ [s]) ++ [o], A4, c4, true, by omega, by rw [hll], rfl, by go_num, HN, hOO, by rw [hll]; omega, hb4⟩
              case measure => simp [intOf]; omega
            · have HN := Lib.hid (HQL.out hc)
              rw [decide_eq_false hc] at hLT
              clear HQL HQN hc
              go_upto_region 11 with fail
              refine wp_region_held_drew (S := fun V => V.cell? (ad.add i) = some (.string s) ∧ V.cell? (ao.add k) = some (.string o)) (by kernel_rfl) ?_ (fun hHeld => ?_)
              · exact HZ.out _ hbv.drew
              refine tk 0 26 ?_
              refine tk 1 27 ?_
              refine tk 2 28 ?_
              refine tk 3 29 ?_
              refine tk 4 30 ?_
              refine tk 5 31 ?_
              refine tk 6 32 ?_
              refine tk 7 33 ?_
              refine tk 8 34 ?_
              refine tk 9 35 ?_
              refine tk 10 36 ?_
              refine tk 11 37 ?_
              refine tk 12 38 ?_
              refine wpAnyH_done (by kernel_rfl) ?_ _
              have hbd : Below u.heap.size u wr.drew := hbv.drew
              have hod := Lib.hid (show wr.drew.ownsRow u.heap.size 9 1 (.slice Ax nx.length cx) nx.length (strsC nx) from ho.out)
              obtain ⟨y0, y1⟩ := HZ.out _ hbd
              clear ho hbv hHeld z0 z1
              generalize wr.drew = wd at *
              have hsz4 := hbd.size
              go_wp2_with (at_builtin; refine wpList_append1g (P := Tryz.prog) rfl (.tmp 46) (.tmp 51) 34 rfl u.heap.size 9 (.string ByteArray.empty) 1 16 Tryz.underlying34 info9 (by decide) (by decide) (.slice Ax nx.length cx) nx.length (strsC nx) rfl (hod.out.alloc _) wd.heap.size #[.string o] 9 rfl (Bk.new _ _ _) rfl ?c1 ?c2 (by decide) ?c3 ?_)
              case c1 => rfl
              case c2 => omega
              case c3 => first | omega | (simp; omega)
              intro v4 w4 ho4 hg4
              have hgr4 : ∀ j, (Value.slice Ax nx.length cx).ownBlock = some j → u.heap.size ≤ j := fun j hj => (hod.out.lt j hj).1
              have hb4 : Below u.heap.size u w4 := (hbd.alloc hsz4 _).grown hg4 (by simp; omega) hgr4
              have hsn4 : strsC nx ++ (#[Value.string o] : Array Value).toList = strsC (nx ++ [o]) := by simp [strsC]
              rw [hsn4] at ho4
              obtain ⟨A4, c4, rfl, hca4, hcb4⟩ := ownsSlice ho4
              have hO4 := Lib.hid ho4
              obtain ⟨y04, y14⟩ := HZ.out _ hb4
              clear ho4 hg4 hgr4 hsn4 hod hbd
              have hll : (nx ++ [o]).length = nx.length + 1 := by simp
              have hOO : Hid (w4.ownsRow u.heap.size 9 1 (.slice A4 (nx ++ [o]).length c4) (nx ++ [o]).length (strsC (nx ++ [o]))) := by rw [hll]; exact hO4
              go_wp2
              go_roundw
              case rel => exact ⟨k + 1, nx ++ [o], A4, c4, false, by omega, by rw [hll], rfl, by go_num, HN, hOO, by rw [hll]; omega, hb4⟩
              case measure => simp [intOf]; omega
          · have HN := Lib.hid (HQD.out hQ.out)
            clear HQL HQN HQD hQ hLT
            go_upto_region 11 with fail
            refine wp_region_held_drew (S := fun V => V.cell? (ad.add i) = some (.string s) ∧ V.cell? (ao.add k) = some (.string o)) (by kernel_rfl) ?_ (fun hHeld => ?_)
            · exact HZ.out _ hbv.drew
            refine tk 0 26 ?_
            refine tk 1 27 ?_
            refine tk 2 28 ?_
            refine sk 3 29 ?_
            refine sk 4 30 ?_
            refine sk 5 31 ?_
            refine sk 6 32 ?_
            refine sk 7 33 ?_
            refine sk 8 34 ?_
            refine sk 9 35 ?_
            refine sk 10 36 ?_
            refine sk 11 37 ?_
            refine tk 12 38 ?_
            refine wpAnyH_done (by kernel_rfl) ?_ _
            have hbd : Below u.heap.size u wr.drew := hbv.drew
            have hod := Lib.hid (show wr.drew.ownsRow u.heap.size 9 1 (.slice Ax nx.length cx) nx.length (strsC nx) from ho.out)
            obtain ⟨y0, y1⟩ := HZ.out _ hbd
            clear ho hbv hHeld z0 z1
            generalize wr.drew = wd at *
            have hsz4 := hbd.size
            go_wp2_with (at_builtin; refine wpList_append1g (P := Tryz.prog) rfl (.tmp 46) (.tmp 51) 34 rfl u.heap.size 9 (.string ByteArray.empty) 1 16 Tryz.underlying34 info9 (by decide) (by decide) (.slice Ax nx.length cx) nx.length (strsC nx) rfl (hod.out.alloc _) wd.heap.size #[.string o] 9 rfl (Bk.new _ _ _) rfl ?c1 ?c2 (by decide) ?c3 ?_)
            case c1 => rfl
            case c2 => omega
            case c3 => first | omega | (simp; omega)
            intro v4 w4 ho4 hg4
            have hgr4 : ∀ j, (Value.slice Ax nx.length cx).ownBlock = some j → u.heap.size ≤ j := fun j hj => (hod.out.lt j hj).1
            have hb4 : Below u.heap.size u w4 := (hbd.alloc hsz4 _).grown hg4 (by simp; omega) hgr4
            have hsn4 : strsC nx ++ (#[Value.string o] : Array Value).toList = strsC (nx ++ [o]) := by simp [strsC]
            rw [hsn4] at ho4
            obtain ⟨A4, c4, rfl, hca4, hcb4⟩ := ownsSlice ho4
            have hO4 := Lib.hid ho4
            obtain ⟨y04, y14⟩ := HZ.out _ hb4
            clear ho4 hg4 hgr4 hsn4 hod hbd
            have hll : (nx ++ [o]).length = nx.length + 1 := by simp
            have hOO : Hid (w4.ownsRow u.heap.size 9 1 (.slice A4 (nx ++ [o]).length c4) (nx ++ [o]).length (strsC (nx ++ [o]))) := by rw [hll]; exact hO4
            go_wp2
            go_roundw
            case rel => exact ⟨k + 1, nx ++ [o], A4, c4, true, by omega, by rw [hll], rfl, by go_num, HN, hOO, by rw [hll]; omega, hb4⟩
            case measure => simp [intOf]; omega
        · obtain rfl : k = out.length := by omega
          cases db
          · obtain ⟨hp1, hp2⟩ := hQ.out.endF HSR.out
            have HN := Lib.hid (HIN.out _ hp1 hp2)
            have HNL : Hid (nx.length ≤ out.length) := by show _ ≤ _; rw [(hQ.out.no rfl).1]; simp
            clear hp1 hp2 hQ HIN HSR HX2
            have hbd := hbv
            have hod := ho
            have HZ := HLO
            have hsz4 := hbd.size
            go_wp2_with (at_builtin; refine wpList_append1g (P := Tryz.prog) rfl (.tmp 55) (.tmp 60) 34 rfl u.heap.size 9 (.string ByteArray.empty) 1 16 Tryz.underlying34 info9 (by decide) (by decide) (.slice Ax nx.length cx) nx.length (strsC nx) rfl (hod.out.alloc _) wr.heap.size #[.string s] 9 rfl (Bk.new _ _ _) rfl ?c1 ?c2 (by decide) ?c3 ?_)
            case c1 => rfl
            case c2 => omega
            case c3 => first | omega | (simp; omega)
            intro v4 w4 ho4 hg4
            have hgr4 : ∀ j, (Value.slice Ax nx.length cx).ownBlock = some j → u.heap.size ≤ j := fun j hj => (hod.out.lt j hj).1
            have hb4 : Below u.heap.size u w4 := (hbd.alloc hsz4 _).grown hg4 (by simp; omega) hgr4
            have hsn4 : strsC nx ++ (#[Value.string s] : Array Value).toList = strsC (nx ++ [s]) := by simp [strsC]
            rw [hsn4] at ho4
            obtain ⟨A4, c4, rfl, hca4, hcb4⟩ := ownsSlice ho4
            have hO4 := Lib.hid ho4
            clear HZ ho4 hg4 hgr4 hsn4 hod hbd
            have hll : (nx ++ [s]).length = nx.length + 1 := by simp
            have hLL := Lib.hid (ownsRow_lies hO4.out)
            have hcc : Hid (nx.length + 1 ≤ c4 ∧ c4 ≤ maxLen) := ⟨hca4, hcb4⟩
            have hbF : Below w.heap.size w w4 := hbu.trans (hb4.mono hbu.size)
            have hle : nx.length + 1 ≤ i + 1 := by have h := HNL.out; omega
            go_wp2
            go_roundw
            case rel => exact ⟨i + 1, nx ++ [s], A4, c4, by omega, by rw [hll], by go_num, HN, hLL, by rw [hll]; exact hcc, by rw [hll]; exact hle, hbF⟩
            case measure => simp [intOf]; omega
          · obtain ⟨hp1, hp2⟩ := hQ.out.endT
            have HN := Lib.hid (HIN.out _ hp1 hp2)
            clear hp1 hp2 hQ HIN HSR HX2
            have hLL := Lib.hid (ownsRow_lies ho.out)
            have hcap := ownsSlice ho.out
            have hcc : Hid (nx.length ≤ cx ∧ cx ≤ maxLen) := by obtain ⟨A9, c9, e9, h1, h2⟩ := hcap; cases e9; exact ⟨h1, h2⟩
            have hbF : Below w.heap.size w wr := hbu.trans (hbv.mono hbu.size)
            clear hcap
            go_wp2
            go_roundw
            case rel => exact ⟨i + 1, nx, Ax, cx, by omega, rfl, by go_num, HN, hLL, hcc, by omega, hbF⟩
            case measure => simp [intOf]; omega
    · obtain rfl : i = L.length := by omega
      rw [HTE.out] at hS
      have hc := hc1.out
      clear HTE HLW
      go_wp2
      go_ret
      exact ⟨out, A1, c1, hS.out, by omega, rfl, hL1.out, hc, hbw⟩
set_option maxHeartbeats 2000000 in
set_option maxRecDepth 100000 in
theorem rGroups_any (l : List Rul) (A : Option Addr) (c : Nat) (known : Int) (x : ByteArray) (w : World) (hl : Lies w w.heap.size A (rulesC l)) (hok : RulOK l) (hm : l.length ≤ 1000) (hxs : x.size ≤ 100) :
    Calls Tryz.prog 42 #[.agg #[.slice A l.length c], .int .i64 known, .string x] w (GpE (inG (cntL l known) x) w) := by
  have HC : Hid (∀ W, Below w.heap.size w W → Calls Tryz.prog 39 #[.agg #[.slice A l.length c], .int .i64 known] W (SlE (cntL l known) W)) := fun W hb => rcounting_any l A c known W ((hl.below hb (Nat.le_refl _)).more hb.size) hok hm
  have HG := Lib.hid (fun A' c' W hL => rgroups_any (cntL l known) A' c' x W hL (Nat.le_trans (cnt_len l known) hm))
  have hgl := grps_len (cntL l known) x
  have hcl := Nat.le_trans (cnt_len l known) hm
  have HSO := Lib.hid (fun A' c' W hL => rsorted_any (grps (cntL l known) x) A' c' W hL (by omega))
  have HMM : Hid (∀ s, s ∈ grps (cntL l known) x ↔ (s.size ≤ maxLen ∧ inG (cntL l known) x s = true)) := fun s => by
    rw [inG_iff, grps_iff]
    constructor
    · intro h
      refine ⟨?_, h⟩
      have h100 : s.size ≤ 100 := Reach.inv (P := fun z => z.size ≤ 100) h hxs (by
        rintro a b _ ⟨r, hr, _, _, rfl⟩
        exact (hok r (cnt_sub l known r hr)).2.1)
      unfold maxLen; omega
    · exact fun h => h.2
  generalize grps (cntL l known) x = G at *
  clear hl hok
  go_enter Tryz.func42, Tryz.ntmps42
  go_wp2_with (first | (go_at_call 39; refine (HC.out _ (by repeat (first | with_reducible exact Below.refl _ _ | with_reducible assumption | with_reducible refine Below.drew ?_ | with_reducible refine below_drewN ?_ _ | (with_reducible refine Below.alloc ?_ ?_ _; rotate_left; (try simp) <;> omega) | (with_reducible refine Below.setCell ?_ ?_ _; rotate_left; (try simp) <;> omega)))).mono ?_; rintro e w1 ⟨A1, c1, rfl, hl1, _, hb1⟩; have hB1 : Below w.heap.size w w1 := Below.trans (by repeat (first | with_reducible exact Below.refl _ _ | with_reducible assumption | with_reducible refine Below.drew ?_ | with_reducible refine below_drewN ?_ _ | (with_reducible refine Below.alloc ?_ ?_ _; rotate_left; (try simp) <;> omega) | (with_reducible refine Below.setCell ?_ ?_ _; rotate_left; (try simp) <;> omega))) (hb1.mono (by simp))) | (go_at_call 76; refine (HG.out _ _ _ hl1).mono ?_; rintro e w2 ⟨A2, c2, rfl, hl2, _, hb2⟩; have hB2 : Below w.heap.size w w2 := hB1.trans (hb2.mono hB1.size)) | (go_at_call 91; refine (HSO.out _ _ _ hl2).mono ?_; rintro e w3 ⟨R, A3, c3, hR, hRl, rfl, hL3, hc3, hb3⟩))
  have HR := Lib.hid (srtS_of hR HMM.out)
  have HLI := Lib.hid hL3
  clear hR hL3
  go_ret
  exact ⟨R, A3, c3, HR.out, hRl, rfl, HLI.out, hc3, hB2.trans (hb3.mono hB2.size)⟩
end Go.Proofs.YtkfeagokmcakgaaGreatDoor

namespace Go.Proofs.YtkfeagokmcakgaaGreatDoor

theorem cmp_up (zs : List Int) (hs : zs.Pairwise (fun a b => a ≤ b)) : ∀ m, m ≤ zs.length → (Lib.compactUpTo zs.toArray m).Pairwise (fun a b => a < b) ∧ ∀ z, z ∈ Lib.compactUpTo zs.toArray m ↔ z ∈ zs.take m
  | 0, _ => by simp [Lib.compactUpTo]
  | m + 1, hm => by
    obtain ⟨h1, h2⟩ := cmp_up zs hs m (by omega)
    have hlt : m < zs.length := by omega
    have hget : zs.toArray[m]! = zs[m] := by simp [hlt]
    rw [Lib.compactUpTo_succ]
    have htk : zs.take (m + 1) = zs.take m ++ [zs[m]] := (List.take_append_getElem hlt).symm
    by_cases hk : Lib.keeps zs.toArray m = true
    · rw [if_pos hk, hget]
      refine ⟨?_, fun z => by rw [htk, List.mem_append, List.mem_append, h2 z]⟩
      rw [List.pairwise_append]
      refine ⟨h1, by simp, fun a ha b hb => ?_⟩
      simp at hb
      subst hb
      have ha2 := (h2 a).1 ha
      obtain ⟨j, hj, rfl⟩ := List.mem_take_iff_getElem.1 ha2
      have hjm : j < m := by omega
      have hle : zs[j] ≤ zs[m - 1]'(by omega) := by
        by_cases e : j = m - 1
        · subst e; exact Int.le_refl _
        · exact List.pairwise_iff_getElem.1 hs j (m - 1) (by omega) (by omega) (by omega)
      have hle2 : zs[m - 1]'(by omega) ≤ zs[m] := List.pairwise_iff_getElem.1 hs (m - 1) m (by omega) hlt (by omega)
      have hne : zs[m - 1]'(by omega) ≠ zs[m] := fun e => by
        simp [Lib.keeps, hlt, show m - 1 < zs.length by omega] at hk
        omega
      omega
    · rw [if_neg hk, List.append_nil, htk]
      refine ⟨h1, fun z => ?_⟩
      rw [h2 z, List.mem_append, List.mem_singleton]
      constructor
      · exact .inl
      · rintro (h | rfl)
        · exact h
        · simp [Lib.keeps, hlt, show m - 1 < zs.length by omega] at hk
          rw [List.mem_take_iff_getElem]
          refine ⟨m - 1, by omega, ?_⟩
          have := hk.2
          omega
/-- ascending, with these members -/
structure AscI (R : List Int) (p : Int → Prop) : Prop where
  srt : R.Pairwise fun a b => a < b
  mem : ∀ z, z ∈ R ↔ p z
theorem AscI.uniq {R R' : List Int} {p : Int → Prop} (h : AscI R p) (k : AscI R' p) : R = R' := by
  have n1 : R.Nodup := h.srt.imp (fun h => by omega)
  have n2 : R'.Nodup := k.srt.imp (fun h => by omega)
  exact List.Perm.eq_of_pairwise (le := fun a b : Int => a < b) (fun a b _ _ h1 h2 => by omega) h.srt k.srt ((List.perm_ext_iff_of_nodup n1 n2).2 fun z => (h.mem z).trans (k.mem z).symm)
/-- the id of a rule that says something about a name -/
def sayP (d : List Rul) (x : ByteArray) (z : Int) : Prop := ∃ r ∈ abtL d x, r.id = z
theorem why_asc (d : List Rul) (x : ByteArray) : AscI (whyL d x) (sayP d x) := by
  unfold whyL Lib.compact
  have hs : (((abtL d x).map Rul.id).mergeSort fun a b => decide (a ≤ b)).Pairwise (fun a b => a ≤ b) := by
    have h := List.pairwise_mergeSort (le := fun a b : Int => decide (a ≤ b)) (fun a b c h1 h2 => by simp at h1 h2 ⊢; omega) (fun a b => by simp; omega) ((abtL d x).map Rul.id)
    exact h.imp (by simp)
  obtain ⟨h1, h2⟩ := cmp_up _ hs _ (Nat.le_refl _)
  refine ⟨h1, fun z => ?_⟩
  rw [h2 z, List.take_length, (List.mergeSort_perm _ _).mem_iff, List.mem_map]
  rfl
end Go.Proofs.YtkfeagokmcakgaaGreatDoor
