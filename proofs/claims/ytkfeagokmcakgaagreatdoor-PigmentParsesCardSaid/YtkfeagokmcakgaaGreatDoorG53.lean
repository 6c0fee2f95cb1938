/- The plain law of a rule's line: what is written is read again. -/
import Derived.Lib.SplitLaws
import Derived.Lib.AtoiTie
import Derived.Lib.ItoaLen
import Derived.Laws.IdiomStrings
import Derived.Test.YtkfeagokmcakgaaGreatDoorG02
import Derived.Test.YtkfeagokmcakgaaGreatDoorG03
import Derived.Test.YtkfeagokmcakgaaGreatDoorG11
import Derived.Test.YtkfeagokmcakgaaGreatDoorG12
import Derived.Test.YtkfeagokmcakgaaGreatDoorG42
import Derived.Test.YtkfeagokmcakgaaGreatDoorG43
import Derived.Test.YtkfeagokmcakgaaGreatDoorG44

set_option linter.unusedVariables false
set_option linter.unusedSimpArgs false

namespace Go.Proofs.YtkfeagokmcakgaaGreatDoor
open Go.RowKit

theorem index_miss {c : UInt8} : ∀ w : List UInt8, c ∉ w → Lib.index w [c] = -1
  | [], _ => by simp [Lib.index]
  | b :: l, h => by
    have hb : c ≠ b := fun e => h (by simp [e])
    have hp : ([c] : List UInt8).isPrefixOf (b :: l) = false := by simp [List.isPrefixOf, hb]
    rw [Lib.index, hp, index_miss l (fun hm => h (List.mem_cons_of_mem _ hm))]; simp
theorem index_hit {c : UInt8} (r : List UInt8) : ∀ w : List UInt8, c ∉ w → Lib.index (w ++ c :: r) [c] = (w.length : Int)
  | [], _ => by simp [Lib.index, List.isPrefixOf]
  | b :: l, h => by
    have hb : c ≠ b := fun e => h (by simp [e])
    have hp : ([c] : List UInt8).isPrefixOf (b :: (l ++ c :: r)) = false := by simp [List.isPrefixOf, hb]
    show Lib.index (b :: (l ++ c :: r)) [c] = _
    rw [Lib.index, hp, index_hit r l (fun hm => h (List.mem_cons_of_mem _ hm))]
    have hn : ¬ ((l.length : Int) == -1) = true := fun e => by have := beq_iff_eq.1 e; omega
    simp only [Bool.false_eq_true, if_false, hn, List.length_cons]
    omega
/-- the parts of a list between the bytes c -/
def spW (c : UInt8) (s : List UInt8) : List (List UInt8) := Lib.splitK [c] 0 (s.count c) s
theorem spW_miss {c : UInt8} {w : List UInt8} (h : c ∉ w) : spW c w = [w] := by
  unfold spW; rw [List.count_eq_zero.2 h]; rfl
theorem spW_hit {c : UInt8} {w : List UInt8} (r : List UInt8) (h : c ∉ w) : spW c (w ++ c :: r) = w :: spW c r := by
  unfold spW
  rw [List.count_append, List.count_eq_zero.2 h, List.count_cons_self, Nat.zero_add, Lib.splitK, index_hit r w h]
  have hn : ¬ ((w.length : Int) == -1) = true := fun e => by have := beq_iff_eq.1 e; omega
  rw [if_neg hn]
  simp
theorem spW_join (c : UInt8) : ∀ (r : List (List UInt8)) (x : List UInt8), (∀ w ∈ x :: r, c ∉ w) → spW c (x ++ Lib.joinTail [c] r) = x :: r
  | [], x, h => by
    rw [show Lib.joinTail [c] [] = [] from rfl, List.append_nil, spW_miss (h x (by simp))]
  | y :: r, x, h => by
    have e : x ++ Lib.joinTail [c] (y :: r) = x ++ c :: (y ++ Lib.joinTail [c] r) := by simp [Lib.joinTail]
    rw [e, spW_hit _ (h x (by simp)), spW_join c r y (fun w hw => h w (List.mem_cons_of_mem _ hw))]
theorem wds_data (line : ByteArray) : (wdsB line).map (·.data.toList) = spW 32 line.data.toList := by
  unfold wdsB spW
  rw [Lib.splitB_data]
  have : Lib.countB line spB = line.data.toList.count 32 := Lib.count_one 32 line.data.toList
  rw [this]; rfl
theorem map_data_inj {a b : List ByteArray} (h : a.map (·.data.toList) = b.map (·.data.toList)) : a = b := by
  induction a generalizing b with
  | nil => cases b with
    | nil => rfl
    | cons _ _ => simp at h
  | cons x a ih => cases b with
    | nil => simp at h
    | cons y b =>
      simp only [List.map_cons, List.cons.injEq] at h
      rw [bytes_inj h.1, ih h.2]
/-! numerals -/
theorem dec_byte {u : Nat} (h : u < 10) : (UInt8.ofNat (48 + u)).toNat = 48 + u := by
  rw [UInt8.toNat_ofNat']; omega
theorem dec_digits (u : Nat) : ∀ b ∈ Lib.decDigits u, 48 ≤ b.toNat ∧ b.toNat ≤ 57 := by
  induction u using Nat.strongRecOn with
  | _ u ih =>
    intro b hb
    rw [Lib.decDigits] at hb
    split at hb
    · rename_i h
      obtain rfl := List.mem_singleton.1 hb; rw [dec_byte h]; omega
    · rename_i h
      rcases List.mem_append.1 hb with hb | hb
      · exact ih (u / 10) (by omega) b hb
      · obtain rfl := List.mem_singleton.1 hb; rw [dec_byte (Nat.mod_lt u (by omega))]; have := Nat.mod_lt u (show 10 > 0 by omega); omega
theorem decFrom_app : ∀ (l m : List UInt8) (acc : Nat), Lib.decFrom acc (l ++ m) = (Lib.decFrom acc l).bind fun a => Lib.decFrom a m
  | [], m, acc => rfl
  | b :: l, m, acc => by
    simp only [List.cons_append, Lib.decFrom]
    cases Lib.digitVal b with
    | none => rfl
    | some d => exact decFrom_app l m _
theorem dec_val (u : Nat) : Lib.decFrom 0 (Lib.decDigits u) = some u := by
  induction u using Nat.strongRecOn with
  | _ u ih =>
    rw [Lib.decDigits]
    split
    · rename_i h
      have hd : Lib.digitVal (UInt8.ofNat (48 + u)) = some u := by
        unfold Lib.digitVal; rw [dec_byte h, if_pos (by omega)]; simp
      simp only [Lib.decFrom, hd]; simp
    · rename_i h
      have hd : Lib.digitVal (UInt8.ofNat (48 + u % 10)) = some (u % 10) := by
        have hm := Nat.mod_lt u (show 10 > 0 by omega)
        unfold Lib.digitVal; rw [dec_byte hm, if_pos (by omega)]; simp
      rw [decFrom_app, ih (u / 10) (by omega)]
      simp only [Option.bind_some, Lib.decFrom, hd]
      congr 1; omega
theorem dec_ne (u : Nat) : Lib.decDigits u ≠ [] := by
  rw [Lib.decDigits]; split <;> simp
theorem nDigits_le : ∀ (k u : Nat), u < 10 ^ (k + 1) → Lib.nDigits u ≤ k + 1
  | 0, u, h => by rw [Lib.nDigits_small (by simpa using h)]; omega
  | k + 1, u, h => by
    by_cases h0 : u < 10
    · rw [Lib.nDigits_small h0]; omega
    · rw [Lib.nDigits_big h0]
      have := nDigits_le k (u / 10) (by rw [Nat.pow_succ] at h; omega)
      omega
theorem dec_len {u : Nat} (h : u ≤ 1000000) : (Lib.decDigits u).length ≤ 7 := by
  rw [Lib.decDigits_length]; exact nDigits_le 6 u (by omega)
theorem itoB_nat (u : Nat) : (itoB (u : Int)).data.toList = Lib.decDigits u := by
  show (Lib.itoa (u : Int)).toArray.toList = _
  rw [List.toList_toArray, Lib.itoa_nonneg]
theorem numB_itoB {n : Int} (h0 : 0 ≤ n) (h1 : n ≤ 1000000) : numB (itoB n) = some n := by
  obtain ⟨u, rfl⟩ := Int.eq_ofNat_of_zero_le h0
  have hu : u ≤ 1000000 := by omega
  have hl := dec_len hu
  have ha : Lib.atoi (Lib.decDigits u) = some (u : Int) := by
    have hd := dec_digits u
    have hv := dec_val u
    cases e : Lib.decDigits u with
    | nil => exact absurd e (dec_ne u)
    | cons b r =>
      rw [e] at hd hv
      have hb := hd b (by simp)
      have h45 : (b == 45) = false := by
        cases h : b == 45 with
        | false => rfl
        | true => have := beq_iff_eq.1 h; subst this; have := hb.1; simp at this
      have h43 : (b == 43) = false := by
        cases h : b == 43 with
        | false => rfl
        | true => have := beq_iff_eq.1 h; subst this; have := hb.1; simp at this
      unfold Lib.atoi
      dsimp only
      rw [h45, h43]
      simp only [Bool.false_eq_true, if_false, Lib.decNat, List.isEmpty_cons, hv, Option.map_some]
  unfold numB
  rw [itoB_nat, Lib.atoiAll_short _ (by omega), ha]
  rfl
theorem itoB_nosp {n : Int} (h0 : 0 ≤ n) {c : UInt8} (hc : c.toNat < 48) : c ∉ (itoB n).data.toList := by
  obtain ⟨u, rfl⟩ := Int.eq_ofNat_of_zero_le h0
  rw [itoB_nat]
  intro h
  have := dec_digits u c h
  omega
theorem name_nosp {s : ByteArray} (h : nameB s = true) {c : UInt8} (hc : c.toNat < 45) : c ∉ s.data.toList := by
  intro hm
  unfold nameB at h
  simp only [Bool.and_eq_true] at h
  have := List.all_eq_true.1 h.2 c hm
  unfold okc at this
  simp only [Bool.and_eq_true, Bool.or_eq_true, decide_eq_true_eq] at this
  omega
/-- what a well-formed rule's fields are -/
theorem frm_cases {r : Rul} (h : frm r = true) : (1 ≤ r.id ∧ r.id ≤ 1000000) ∧ (0 ≤ r.known ∧ r.known ≤ 1000000) ∧
    ((r.kind = 1 ∨ r.kind = 2) ∧ nameB r.x = true ∧ r.y = ⟨#[]⟩ ∧ r.of = 0 ∨ (r.kind = 3 ∨ r.kind = 4 ∨ r.kind = 5) ∧ nameB r.x = true ∧ nameB r.y = true ∧ r.of = 0 ∨ r.kind = 6 ∧ r.x = ⟨#[]⟩ ∧ r.y = ⟨#[]⟩ ∧ 1 ≤ r.of ∧ r.of ≤ 1000000) := by
  have he : ∀ s : ByteArray, s.size = 0 → s = ⟨#[]⟩ := fun s hs => bytes_inj (by
    have : s.data.toList.length = 0 := by rw [Array.length_toList]; exact hs
    rw [List.length_eq_zero_iff.1 this])
  unfold frm shpB at h
  simp only [Bool.and_eq_true, decide_eq_true_eq] at h
  obtain ⟨⟨⟨⟨h1, h2⟩, h3⟩, h4⟩, h5⟩ := h
  refine ⟨⟨h1, h2⟩, ⟨h3, by omega⟩, ?_⟩
  split at h5
  · rename_i hk
    simp only [Bool.and_eq_true, decide_eq_true_eq] at h5
    exact .inl ⟨hk, h5.1.1, he _ h5.1.2, h5.2⟩
  · split at h5
    · rename_i hk
      simp only [Bool.and_eq_true, decide_eq_true_eq] at h5
      exact .inr (.inl ⟨by omega, h5.1.1, h5.1.2, h5.2⟩)
    · split at h5
      · rename_i hk
        simp only [Bool.and_eq_true, decide_eq_true_eq] at h5
        exact .inr (.inl ⟨by omega, h5.1.1.1, h5.1.1.2, h5.1.2⟩)
      · split at h5
        · rename_i hk
          simp only [Bool.and_eq_true, decide_eq_true_eq] at h5
          exact .inr (.inr ⟨hk, he _ h5.1.1.1.1, he _ h5.1.1.1.2, h5.1.1.2, h5.1.2⟩)
        · cases h5
theorem word_nosp (k : Int) : (32 : UInt8) ∉ (wordB k).data.toList ∧ (10 : UInt8) ∉ (wordB k).data.toList := by
  unfold wordB; (repeat' split) <;> decide
theorem words_nosp {r : Rul} (h : frm r = true) {c : UInt8} (hc : c = 32 ∨ c = 10) : ∀ w ∈ wordsB r, c ∉ w.data.toList := by
  obtain ⟨h1, h2, h3⟩ := frm_cases h
  have c1 : c.toNat < 45 := by rcases hc with rfl | rfl <;> decide
  intro w hw
  unfold wordsB at hw
  rcases List.mem_cons.1 hw with rfl | hw
  · exact itoB_nosp (by omega) (by omega)
  rcases List.mem_cons.1 hw with rfl | hw
  · exact itoB_nosp (by omega) (by omega)
  rcases List.mem_cons.1 hw with rfl | hw
  · rcases hc with rfl | rfl
    · exact (word_nosp _).1
    · exact (word_nosp _).2
  unfold tellB at hw
  rcases h3 with ⟨hk, hx, hy, ho⟩ | ⟨hk, hx, hy, ho⟩ | ⟨hk, hx, hy, ho⟩
  · rw [if_pos hk] at hw; simp at hw; subst hw; exact name_nosp hx c1
  · rw [if_neg (by omega), if_neg (by omega)] at hw
    simp at hw
    rcases hw with rfl | rfl
    · exact name_nosp hx c1
    · exact name_nosp hy c1
  · rw [if_neg (by omega), if_pos hk] at hw; simp at hw; subst hw; exact itoB_nosp (by omega) (by omega)
theorem wrB_data {r : Rul} (h : frm r = true) : (wrB r).data.toList = wrL r := by
  unfold wrB; rw [if_pos h]
theorem wrL_join (r : Rul) : wrL r = (itoB r.id).data.toList ++ Lib.joinTail [32] ((itoB r.known :: wordB r.kind :: tellB r).map (·.data.toList)) := by
  unfold wrL wordsB
  rw [List.map_cons, Lib.join_cons]
theorem wds_words {r : Rul} (h : frm r = true) : wdsB (wrB r) = wordsB r := by
  refine map_data_inj ?_
  rw [wds_data, wrB_data h, wrL_join, spW_join]
  · rfl
  · intro w hw
    have hw' : w ∈ (wordsB r).map (·.data.toList) := hw
    obtain ⟨u, hu, rfl⟩ := List.mem_map.1 hw'
    exact words_nosp h (.inl rfl) u hu
theorem rdR_words {line w0 w1 w2 w3 : ByteArray} {l : List ByteArray} {a b : Int} (h : wdsB line = w0 :: w1 :: w2 :: w3 :: l) (ha : numB w0 = some a) (hb : numB w1 = some b) : rdR line = (rdT a b w2 w3 (l.getD 0 ⟨#[]⟩)).bind (rdF line) := by
  unfold rdR; rw [h]; simp only [ha, hb]
theorem kindB_word {k : Int} (h : 1 ≤ k ∧ k ≤ 6) : kindB (wordB k) = k := by
  have : k = 1 ∨ k = 2 ∨ k = 3 ∨ k = 4 ∨ k = 5 ∨ k = 6 := by omega
  rcases this with rfl | rfl | rfl | rfl | rfl | rfl <;> decide +kernel
theorem rdF_wr {r : Rul} (h : frm r = true) : rdF (wrB r) r = some r := by unfold rdF; rw [if_pos ⟨h, rfl⟩]
/-- what is written is read again -/
theorem rdR_wr {r : Rul} (h : frm r = true) : rdR (wrB r) = some r := by
  obtain ⟨h1, h2, h3⟩ := frm_cases h
  have hw := wds_words h
  have hF := rdF_wr h
  have n1 := numB_itoB (n := r.id) (by omega) (by omega)
  have n2 := numB_itoB (n := r.known) (by omega) (by omega)
  have hkw := kindB_word (k := r.kind) (by omega)
  have h0 : r.kind ≠ 0 := by omega
  unfold wordsB tellB at hw
  obtain ⟨id, kn, kd, x, y, of⟩ := r
  dsimp only at *
  rcases h3 with ⟨hk, hx, rfl, rfl⟩ | ⟨hk, hx, hy, rfl⟩ | ⟨rfl, rfl, rfl, ho⟩
  · rw [if_pos hk] at hw
    rw [rdR_words hw n1 n2]
    unfold rdT takR
    rw [hkw, if_neg h0, if_pos hk]
    exact hF
  · rw [if_neg (by omega), if_neg (by omega)] at hw
    rw [rdR_words hw n1 n2]
    unfold rdT takR
    rw [hkw, if_neg h0, if_neg (by omega), if_neg (by omega)]
    exact hF
  · rw [if_neg (by omega), if_pos rfl] at hw
    rw [rdR_words hw n1 n2]
    unfold rdT takR
    rw [hkw, if_neg h0, if_neg (by omega), if_pos rfl, numB_itoB (by omega) ho.2]
    exact hF
theorem rdR_line {line : ByteArray} {r : Rul} (h : rdR line = some r) : frm r = true ∧ wrB r = line := by
  unfold rdR at h
  split at h
  · split at h
    · obtain ⟨q, _, h2⟩ := Option.bind_eq_some_iff.1 h
      unfold rdF at h2
      split at h2
      · rename_i hq; cases h2; exact hq
      · cases h2
    · cases h
  · cases h
/-! the reference's reading -/
def valB (s : ByteArray) : Int := if 1 ≤ s.size ∧ s.size ≤ 7 then (match Lib.decFrom 0 s.data.toList with | some n => (n : Int) | none => -1) else -1
theorem valB_itoB {n : Int} (h0 : 0 ≤ n) (h1 : n ≤ 1000000) : valB (itoB n) = n := by
  obtain ⟨u, rfl⟩ := Int.eq_ofNat_of_zero_le h0
  have hu : u ≤ 1000000 := by omega
  have hl := dec_len hu
  have hs : (itoB (u : Int)).size = (Lib.decDigits u).length := by
    rw [← itoB_nat, Array.length_toList]; rfl
  have hp := List.length_pos_iff.2 (dec_ne u)
  unfold valB
  rw [itoB_nat, dec_val, if_pos (by omega)]
/-- the rule that the words of a line may mean -/
def rrK (a b k : Int) (w3 y : ByteArray) : Rul := if k = 6 then ⟨a, b, 6, ⟨#[]⟩, ⟨#[]⟩, valB w3⟩ else ⟨a, b, k, w3, y, 0⟩
def rrd (line : ByteArray) : Option Rul := match wdsB line with
  | [w0, w1, w2, w3] => rdF line (rrK (valB w0) (valB w1) (kindB w2) w3 ⟨#[]⟩)
  | [w0, w1, w2, w3, w4] => rdF line (rrK (valB w0) (valB w1) (kindB w2) w3 w4)
  | _ => none
theorem rrd_line {line : ByteArray} {r : Rul} (h : rrd line = some r) : frm r = true ∧ wrB r = line := by
  unfold rrd rdF at h
  split at h
  · split at h
    · rename_i hq; cases h; exact hq
    · cases h
  · split at h
    · rename_i hq; cases h; exact hq
    · cases h
  · cases h
theorem rrd_wr {r : Rul} (h : frm r = true) : rrd (wrB r) = some r := by
  obtain ⟨h1, h2, h3⟩ := frm_cases h
  have hw := wds_words h
  have hF := rdF_wr h
  have n1 := valB_itoB (n := r.id) (by omega) (by omega)
  have n2 := valB_itoB (n := r.known) (by omega) (by omega)
  have hkw := kindB_word (k := r.kind) (by omega)
  unfold wordsB tellB at hw
  obtain ⟨id, kn, kd, x, y, of⟩ := r
  dsimp only at *
  unfold rrd
  rcases h3 with ⟨hk, hx, rfl, rfl⟩ | ⟨hk, hx, hy, rfl⟩ | ⟨rfl, rfl, rfl, ho⟩
  · rw [if_pos hk] at hw
    rw [hw]
    dsimp only
    unfold rrK
    rw [hkw, n1, n2, if_neg (by omega)]
    exact hF
  · rw [if_neg (by omega), if_neg (by omega)] at hw
    rw [hw]
    dsimp only
    unfold rrK
    rw [hkw, n1, n2, if_neg (by omega)]
    exact hF
  · rw [if_neg (by omega), if_pos rfl] at hw
    rw [hw]
    dsimp only
    unfold rrK
    rw [hkw, n1, n2, if_pos rfl, valB_itoB (by omega) ho.2]
    exact hF
/-- both read the same -/
theorem rrd_eq (line : ByteArray) : rrd line = rdR line := by
  cases e : rdR line with
  | some r =>
    obtain ⟨h1, h2⟩ := rdR_line e
    rw [← h2, rrd_wr h1]
  | none =>
    cases e2 : rrd line with
    | none => rfl
    | some r =>
      obtain ⟨h1, h2⟩ := rrd_line e2
      rw [← h2, rdR_wr h1] at e; cases e
end Go.Proofs.YtkfeagokmcakgaaGreatDoor

namespace Go.Proofs.YtkfeagokmcakgaaGreatDoor
open Go.RowKit

theorem lines_data (src : ByteArray) : (linesB src).map (·.data.toList) = spW 10 src.data.toList := by
  unfold linesB spW
  rw [Lib.splitB_data]
  have : Lib.countB src nlB = src.data.toList.count 10 := Lib.count_one 10 src.data.toList
  rw [this]; rfl
theorem join_mem {c : UInt8} : ∀ (r : List (List UInt8)), c ∈ Lib.joinTail [32] r → c = 32 ∨ ∃ w ∈ r, c ∈ w
  | [], h => by simp [Lib.joinTail] at h
  | y :: r, h => by
    have e : Lib.joinTail [32] (y :: r) = 32 :: (y ++ Lib.joinTail [32] r) := by simp [Lib.joinTail]
    rw [e] at h
    rcases List.mem_cons.1 h with h | h
    · exact .inl h
    rcases List.mem_append.1 h with h | h
    · exact .inr ⟨y, by simp, h⟩
    · rcases join_mem r h with h | ⟨w, hw, h⟩
      · exact .inl h
      · exact .inr ⟨w, List.mem_cons_of_mem _ hw, h⟩
theorem wrL_nonl {r : Rul} (h : frm r = true) : (10 : UInt8) ∉ wrL r := by
  have hw := words_nosp h (c := 10) (.inr rfl)
  intro hm
  rw [wrL_join] at hm
  rcases List.mem_append.1 hm with h1 | h1
  · exact hw (itoB r.id) (by unfold wordsB; simp) h1
  · rcases join_mem _ h1 with h2 | ⟨w, hw2, h2⟩
    · exact absurd h2 (by decide)
    · obtain ⟨u, hu, rfl⟩ := List.mem_map.1 hw2
      exact hw u (by unfold wordsB; exact List.mem_cons_of_mem _ hu) h2
theorem wrB_skip {r : Rul} (h : frm r = true) : skipL (wrB r) = false := by
  obtain ⟨h1, _, _⟩ := frm_cases h
  unfold skipL
  rw [wrB_data h, wrL_join]
  obtain ⟨u, hu⟩ := Int.eq_ofNat_of_zero_le (show 0 ≤ r.id by omega)
  rw [hu, itoB_nat]
  have hd := dec_digits u
  cases e : Lib.decDigits u with
  | nil => exact absurd e (dec_ne u)
  | cons b t =>
    rw [e] at hd
    have := hd b (by simp)
    dsimp only [List.cons_append]
    exact decide_eq_false (by omega)
theorem lines_prn : ∀ (l : List Rul), (∀ r ∈ l, frm r = true) → spW 10 (prnL l) = l.map wrL ++ [[]]
  | [], _ => by
    show spW 10 [] = [[]]
    exact spW_miss (by simp)
  | r :: l, h => by
    have e : prnL (r :: l) = wrL r ++ 10 :: prnL l := by unfold prnL; simp
    rw [e, spW_hit _ (wrL_nonl (h r (by simp))), lines_prn l (fun x hx => h x (List.mem_cons_of_mem _ hx))]
    rfl
theorem prnB_lines {l : List Rul} (h : Fine l) : linesB (prnB l) = l.map wrB ++ [⟨#[]⟩] := by
  have hf : ∀ r ∈ l, frm r = true := fun r hr => by
    obtain ⟨k, hk, rfl⟩ := List.getElem_of_mem hr
    exact fine_frm h hk
  refine map_data_inj ?_
  rw [lines_data]
  unfold prnB
  rw [chkL_ok h, if_pos rfl]
  show spW 10 (prnL l) = _
  rw [lines_prn l hf, List.map_append, List.map_map]
  congr 1
  exact List.map_congr_left fun r hr => (wrB_data (hf r hr)).symm
theorem prsG_back : ∀ (m acc : List Rul) (i : Nat) (at_ : Int), Fine (acc ++ m) → (prsG (m.map wrB ++ [⟨#[]⟩]) i acc at_).1 = 0 ∧ (prsG (m.map wrB ++ [⟨#[]⟩]) i acc at_).2.2 = acc ++ m
  | [], acc, i, at_, _ => by
    have : skipL ⟨#[]⟩ = true := rfl
    simp [prsG, this]
  | r :: m, acc, i, at_, h => by
    have hk : acc.length < (acc ++ r :: m).length := by simp
    have hr : (acc ++ r :: m)[acc.length] = r := by simp
    have hf := fine_frm h hk
    have he := h acc.length hk
    rw [List.take_left, hr] at he
    rw [hr] at hf
    simp only [List.map_cons, List.cons_append, prsG]
    rw [wrB_skip hf, rdR_wr hf]
    simp only [Bool.false_eq_true, if_false, he, if_true]
    have := prsG_back m (acc ++ [r]) (i + 1) ((i : Int) + 1) (by simpa using h)
    simpa using this
theorem prsG_fine : ∀ (L : List ByteArray) (i : Nat) (acc : List Rul) (at_ : Int), Fine acc → (prsG L i acc at_).1 = 0 → Fine (prsG L i acc at_).2.2
  | [], i, acc, at_, h, _ => h
  | s :: L, i, acc, at_, h, e => by
    unfold prsG at e ⊢
    split
    · rename_i hs; rw [if_pos hs] at e; exact prsG_fine L _ _ _ h e
    · rename_i hs
      rw [if_neg hs] at e
      cases e2 : rdR s with
      | none => rw [e2] at e; exact absurd (show (4 : Int) = 0 from e) (by decide)
      | some x =>
        rw [e2] at e
        dsimp only at e ⊢
        split
        · rename_i h0; rw [if_pos h0] at e; exact prsG_fine L _ _ _ (h.snoc h0) e
        · rename_i h0; rw [if_neg h0] at e; exact absurd e h0
def sizes (L : List ByteArray) : Nat := (L.map fun u => u.size + 1).sum
theorem prsG_size : ∀ (L : List ByteArray) (i : Nat) (acc : List Rul) (at_ : Int), (prnL (prsG L i acc at_).2.2).length ≤ (prnL acc).length + sizes L
  | [], i, acc, at_ => by simp [prsG]
  | s :: L, i, acc, at_ => by
    have e : sizes (s :: L) = s.size + 1 + sizes L := by simp [sizes]
    unfold prsG
    split
    · have := prsG_size L (i + 1) acc at_; omega
    · cases e2 : rdR s with
      | none => dsimp only; omega
      | some x =>
        dsimp only
        split
        · have h1 := prsG_size L (i + 1) (acc ++ [x]) ((i : Int) + 1)
          obtain ⟨hf, hw⟩ := rdR_line e2
          have h2 : (wrL x).length = s.size := by rw [← wrB_data hf, hw, Array.length_toList]; rfl
          rw [prnL_snoc] at h1
          simp only [List.length_append, List.length_cons, List.length_nil] at h1
          omega
        · dsimp only; omega
theorem spW_sum (c : UInt8) : ∀ (n : Nat) (s : List UInt8), s.length ≤ n → ((spW c s).map fun u => u.length + 1).sum = s.length + 1
  | n, s, hn => by
    by_cases hc : c ∈ s
    · obtain ⟨w, r, rfl, hw⟩ := List.eq_append_cons_of_mem hc
      cases n with
      | zero => simp at hn
      | succ n =>
        rw [spW_hit r hw, List.map_cons, List.sum_cons, spW_sum c n r (by simp at hn; omega)]
        simp; omega
    · rw [spW_miss hc]; simp
theorem lines_sizes (src : ByteArray) : sizes (linesB src) = src.size + 1 := by
  have h := spW_sum 10 _ src.data.toList (Nat.le_refl _)
  rw [← lines_data, List.map_map, Array.length_toList] at h
  unfold sizes
  refine Eq.trans ?_ h
  congr 1
/-- what is parsed is printed and parsed again -/
theorem prs_again {src : ByteArray} {at_ : Int} {l : List Rul} (hs : src.size ≤ 1000 ∨ 20000 < src.size) (h : prsR src = (0, at_, l)) : Fine l ∧ prsR (prnB l) = (0, 0, l) ∧ (prnB l).size ≤ 1001 ∧ ∀ u ∈ linesB (prnB l), u.size ≤ 1000 := by
  unfold prsR at h
  by_cases hb : 20000 < src.size
  · rw [if_pos hb] at h; cases h
  rw [if_neg hb] at h
  by_cases hk : (prsL src).1 = 0
  · rw [if_pos hk] at h
    cases h
    have hF : Fine (prsL src).2.2 := prsG_fine _ _ _ _ (fun i hi => by simp at hi) hk
    have hsz : (prnB (prsL src).2.2).size ≤ src.size + 1 := by
      have h1 := prsG_size (linesB src) 0 [] 0
      rw [lines_sizes] at h1
      have h2 : (prnB (prsL src).2.2).size = (prnL (prsL src).2.2).length := by
        unfold prnB; rw [chkL_ok hF, if_pos rfl]; rfl
      have h3 : (prnL []).length = 0 := rfl
      rw [h2]
      unfold prsL
      omega
    generalize (prsL src).2.2 = l at *
    have hbk := prsG_back l [] 0 0 (by simpa using hF)
    refine ⟨hF, ?_, by omega, fun u hu => ?_⟩
    · unfold prsR prsL
      rw [if_neg (by omega), prnB_lines hF, if_pos hbk.1]
      rw [hbk.2]; rfl
    · rw [prnB_lines hF] at hu
      rcases List.mem_append.1 hu with hu | hu
      · obtain ⟨r, hr, rfl⟩ := List.mem_map.1 hu
        obtain ⟨k, hk2, rfl⟩ := List.getElem_of_mem hr
        have hf := fine_frm hF hk2
        have ho := frm_ok hf
        have h3 := wrL_len hf ho.1 ho.2.1
        rw [← wrB_data hf, Array.length_toList] at h3
        exact h3
      · simp at hu; subst hu; exact Nat.zero_le _
  · rw [if_neg hk] at h
    exact absurd (congrArg Prod.fst h) hk
end Go.Proofs.YtkfeagokmcakgaaGreatDoor

namespace Go.Proofs.YtkfeagokmcakgaaGreatDoor
open Go.RowKit

def decB (n : Nat) : ByteArray := ⟨(Lib.decDigits n).toArray⟩
theorem decB_one {n : Nat} (h : n < 10) : decB n = ⟨#[UInt8.ofNat (48 + n)]⟩ := by
  unfold decB; rw [Lib.decDigits_one h]
theorem decB_len {n : Nat} (h : n ≤ 1000000) : (decB n).size ≤ 21 := by
  have := Lib.itoa_length_le (n : Int) (by omega) (by omega)
  rw [Lib.itoa_nonneg] at this
  exact this
theorem decB_big {n : Nat} (h : ¬ n < 10) : decB n = decB (n / 10) ++ decB (n % 10) := by
  unfold decB
  rw [Lib.decDigits, dif_neg h, Lib.decDigits_one (Nat.mod_lt n (by omega))]
  apply ByteArray.ext
  rw [ByteArray.data_append]
  simp
/-- what Digits answers at a number, in any world -/
structure DigK (q : Int) (s : ByteArray) : Prop where
  run : ∀ V, Calls Tryz.prog 86 #[.int .i64 q] V (ValEnd (.string s) V)
theorem DigK.go {q : Int} {s : ByteArray} (h : DigK q s) (V : World) : Calls Tryz.prog 86 #[.int .i64 q] V (ValEnd (.string s) V) := h.run V
set_option maxRecDepth 100000 in
set_option maxHeartbeats 1000000 in
theorem digits_any : ∀ (n : Nat) (w : World), n ≤ 1000000 → Calls Tryz.prog 86 #[.int .i64 n] w (ValEnd (.string (decB n)) w) := by
  intro n
  induction n using Nat.strongRecOn with
  | _ n ih =>
    intro w hn
    by_cases h : n < 10
    · have hI : (n : Int) < 10 := by omega
      have HC : Hid ((convert 84 9 (.slice (some ⟨w.heap.size, 0, none⟩) 1 1)).run Tryz.prog (w.alloc (.cells #[.int .u8 (48 + (n : Int))] 5)) = .ok (.string (decB n)) (w.alloc (.cells #[.int .u8 (48 + (n : Int))] 5))) := by
        show _ = _
        have hc := run_convert_bytes_back (P := Tryz.prog) (w.alloc (.cells #[.int .u8 (48 + (n : Int))] 5)) 84 9 5 ⟨w.heap.size, 0, none⟩ 1 [UInt8.ofNat (48 + n)] Tryz.underlying84 Tryz.underlying5 Tryz.underlying9 (fun j hj => by
          have hj0 : j = 0 := by simpa using hj
          subst hj0
          rw [show (⟨w.heap.size, 0, none⟩ : Addr).add 0 = ⟨w.heap.size, 0, none⟩ from rfl, (Bk.new w 5 #[.int .u8 (48 + (n : Int))]).cell 0 rfl]
          have : (UInt8.ofNat (48 + n)).toNat = 48 + n := by rw [UInt8.toNat_ofNat']; omega
          simp only [List.getElem_cons_zero, this]
          rfl)
        rw [← decB_one h] at hc
        exact hc
      clear ih
      have hcv := HC.out
      clear HC
      go_enter Tryz.func86, Tryz.ntmps86
      go_wp2
      go_ret
      exact ⟨rfl, (by repeat (first | with_reducible exact Below.refl _ _ | with_reducible assumption | with_reducible refine Below.drew ?_ | with_reducible refine below_drewN ?_ _ | (with_reducible refine Below.alloc ?_ ?_ _; rotate_left; (try simp) <;> omega) | (with_reducible refine Below.setCell ?_ ?_ _; rotate_left; (try simp) <;> omega)))⟩
    · have hI : ¬ (n : Int) < 10 := by omega
      have HB := Lib.hid (decB_big h)
      have H1 : DigK ((n : Int) / 10) (decB (n / 10)) := ⟨fun V => by
        have h := ih (n / 10) (by omega) V (by omega)
        rwa [show ((n / 10 : Nat) : Int) = (n : Int) / 10 by omega] at h⟩
      have H2 : DigK ((n : Int) % 10) (decB (n % 10)) := ⟨fun V => by
        have h := ih (n % 10) (by omega) V (by omega)
        rwa [show ((n % 10 : Nat) : Int) = (n : Int) % 10 by omega] at h⟩
      clear ih
      go_enter Tryz.func86, Tryz.ntmps86
      have hsz : (decB (n / 10)).size + (decB (n % 10)).size ≤ 9223372036854775807 := by
        have h1 := decB_len (n := n / 10) (by omega)
        have h2 := decB_len (n := n % 10) (by omega)
        omega
      have hB0 : Below w.heap.size w w := Below.refl _ _
      go_wp2_with (go_at_call 86; refine (DigK.go (by assumption) _).mono ?_; rintro e V ⟨rfl, hb⟩; have hB := Below.trans hB0 (hb.mono (Below.size hB0)); clear hb hB0; have hB0 := hB; clear hB)
      go_ret
      exact ⟨by rw [HB.out]; rfl, hB0⟩
/-- Digits answers the decimal numeral -/
theorem digK {n : Int} (h0 : 0 ≤ n) (h1 : n ≤ 1000000) : DigK n (decB n.toNat) := ⟨fun V => by
  obtain ⟨u, rfl⟩ := Int.eq_ofNat_of_zero_le h0
  exact digits_any u V (by omega)⟩
end Go.Proofs.YtkfeagokmcakgaaGreatDoor

namespace Go.Proofs.YtkfeagokmcakgaaGreatDoor
open Go.RowKit

def rwB (r : Rul) : ByteArray :=
  if r.kind = 1 then decB r.id.toNat ++ ⟨#[32]⟩ ++ decB r.known.toNat ++ ⟨#[32]⟩ ++ ⟨#[102, 97, 115, 116, 32]⟩ ++ r.x
  else if r.kind = 2 then decB r.id.toNat ++ ⟨#[32]⟩ ++ decB r.known.toNat ++ ⟨#[32]⟩ ++ ⟨#[100, 114, 121, 32]⟩ ++ r.x
  else if r.kind = 3 then decB r.id.toNat ++ ⟨#[32]⟩ ++ decB r.known.toNat ++ ⟨#[32]⟩ ++ ⟨#[98, 101, 115, 105, 100, 101, 32]⟩ ++ r.x ++ ⟨#[32]⟩ ++ r.y
  else if r.kind = 4 then decB r.id.toNat ++ ⟨#[32]⟩ ++ decB r.known.toNat ++ ⟨#[32]⟩ ++ ⟨#[111, 118, 101, 114, 32]⟩ ++ r.x ++ ⟨#[32]⟩ ++ r.y
  else if r.kind = 5 then decB r.id.toNat ++ ⟨#[32]⟩ ++ decB r.known.toNat ++ ⟨#[32]⟩ ++ ⟨#[103, 114, 111, 117, 112, 32]⟩ ++ r.x ++ ⟨#[32]⟩ ++ r.y
  else decB r.id.toNat ++ ⟨#[32]⟩ ++ decB r.known.toNat ++ ⟨#[32]⟩ ++ ⟨#[118, 111, 105, 100, 32]⟩ ++ decB r.of.toNat
structure FrK (r : Value) (b : Bool) : Prop where
  run : ∀ V, Calls Tryz.prog 85 #[r] V (ShEnd b V)
theorem FrK.go {r : Value} {b : Bool} (h : FrK r b) (V : World) : Calls Tryz.prog 85 #[r] V (ShEnd b V) := h.run V
set_option maxRecDepth 100000 in
set_option maxHeartbeats 4000000 in
theorem rwrite_ok (r : Rul) (w : World) (HF : FrK r.agg true) (i1 : 1 ≤ r.id ∧ r.id ≤ 1000000) (i2 : 0 ≤ r.known ∧ r.known ≤ 1000000) (i3 : 1 ≤ r.kind ∧ r.kind ≤ 6) (i4 : r.kind = 6 → 0 ≤ r.of ∧ r.of ≤ 1000000) (hx : r.x.size ≤ 1000) (hy : r.y.size ≤ 1000) :
    Calls Tryz.prog 35 #[r.agg] w (fun e w' => e = .returned (.tuple #[.string (rwB r), .int .i64 0]) ∧ Below w.heap.size w w') := by
  have K1 := digK (n := r.id) (by omega) i1.2
  have K2 := digK i2.1 i2.2
  have K3 := Lib.hid (fun h => digK (i4 h).1 (i4 h).2)
  have z1 := decB_len (n := r.id.toNat) (by omega)
  have z2 := decB_len (n := r.known.toNat) (by omega)
  have z3 := Lib.hid (fun h => decB_len (n := r.of.toNat) (by have := i4 h; omega))
  have HB : Hid (rwB r = _) := Lib.hid (show rwB r = (if r.kind = 1 then decB r.id.toNat ++ ⟨#[32]⟩ ++ decB r.known.toNat ++ ⟨#[32]⟩ ++ ⟨#[102, 97, 115, 116, 32]⟩ ++ r.x
  else if r.kind = 2 then decB r.id.toNat ++ ⟨#[32]⟩ ++ decB r.known.toNat ++ ⟨#[32]⟩ ++ ⟨#[100, 114, 121, 32]⟩ ++ r.x
  else if r.kind = 3 then decB r.id.toNat ++ ⟨#[32]⟩ ++ decB r.known.toNat ++ ⟨#[32]⟩ ++ ⟨#[98, 101, 115, 105, 100, 101, 32]⟩ ++ r.x ++ ⟨#[32]⟩ ++ r.y
  else if r.kind = 4 then decB r.id.toNat ++ ⟨#[32]⟩ ++ decB r.known.toNat ++ ⟨#[32]⟩ ++ ⟨#[111, 118, 101, 114, 32]⟩ ++ r.x ++ ⟨#[32]⟩ ++ r.y
  else if r.kind = 5 then decB r.id.toNat ++ ⟨#[32]⟩ ++ decB r.known.toNat ++ ⟨#[32]⟩ ++ ⟨#[103, 114, 111, 117, 112, 32]⟩ ++ r.x ++ ⟨#[32]⟩ ++ r.y
  else decB r.id.toNat ++ ⟨#[32]⟩ ++ decB r.known.toNat ++ ⟨#[32]⟩ ++ ⟨#[118, 111, 105, 100, 32]⟩ ++ decB r.of.toNat) from rfl)
  generalize rwB r = R at *
  obtain ⟨id, kn, kd, x, y, of⟩ := r
  dsimp only at *
  have h6 : kd = 1 ∨ kd = 2 ∨ kd = 3 ∨ kd = 4 ∨ kd = 5 ∨ kd = 6 := by omega
  clear i1 i2 i3 i4
  generalize decB id.toNat = a at *
  generalize decB kn.toNat = b at *
  generalize decB of.toNat = c at *
  have HK : Hid (∀ V, Below (w.alloc (.cells #[.int .i64 id, .int .i64 kn, .int .u8 kd, .string x, .string y, .int .i64 of] 50)).heap.size (w.alloc (.cells #[.int .i64 id, .int .i64 kn, .int .u8 kd, .string x, .string y, .int .i64 of] 50)) V → V.cell? ⟨w.heap.size, 0, none⟩ = some (.int .i64 id) ∧ V.cell? ⟨w.heap.size, 1, none⟩ = some (.int .i64 kn) ∧ V.cell? ⟨w.heap.size, 2, none⟩ = some (.int .u8 kd) ∧ V.cell? ⟨w.heap.size, 3, none⟩ = some (.string x) ∧ V.cell? ⟨w.heap.size, 4, none⟩ = some (.string y) ∧ V.cell? ⟨w.heap.size, 5, none⟩ = some (.int .i64 of)) := fun V hV => by
    have k := (Bk.new w 50 #[.int .i64 id, .int .i64 kn, .int .u8 kd, .string x, .string y, .int .i64 of]).below hV (Bk.new w 50 _).lt
    exact ⟨k.cell 0 rfl, k.cell 1 rfl, k.cell 2 rfl, k.cell 3 rfl, k.cell 4 rfl, k.cell 5 rfl⟩
  have HEND : Hid (∀ V, Below (w.alloc (.cells #[.int .i64 id, .int .i64 kn, .int .u8 kd, .string x, .string y, .int .i64 of] 50)).heap.size (w.alloc (.cells #[.int .i64 id, .int .i64 kn, .int .u8 kd, .string x, .string y, .int .i64 of] 50)) V → Below w.heap.size w V) := fun V hV => ((Below.refl _ _).alloc (Nat.le_refl _) _).trans (hV.mono (by simp))
  go_enter Tryz.func35, Tryz.ntmps35
  go_upto_region 1 with fail
  have hB0 : Below (w.alloc (.cells #[.int .i64 id, .int .i64 kn, .int .u8 kd, .string x, .string y, .int .i64 of] 50)).heap.size (w.alloc (.cells #[.int .i64 id, .int .i64 kn, .int .u8 kd, .string x, .string y, .int .i64 of] 50)) (w.alloc (.cells #[.int .i64 id, .int .i64 kn, .int .u8 kd, .string x, .string y, .int .i64 of] 50)) := Below.refl _ _
  generalize (w.alloc (.cells #[.int .i64 id, .int .i64 kn, .int .u8 kd, .string x, .string y, .int .i64 of] 50)) = W0 at *
  generalize hb : w.heap.size = b0 at *
  obtain ⟨y0, y1, y2, y3, y4, y5⟩ := HK.out W0 hB0
  go_upto_region 4 with (go_at_call 85; refine (FrK.go (by assumption) _).mono ?_; rintro e V ⟨rfl, hb⟩; have hB := Below.trans hB0 (hb.mono (Below.size hB0)); clear hb hB0 y0 y1 y2 y3 y4 y5; have hB0 := hB; clear hB; obtain ⟨y0, y1, y2, y3, y4, y5⟩ := HK.out V hB0)
  have m1 : ¬ 9223372036854775807 < a.size + 1 := by omega
  have m2 : ¬ 9223372036854775807 < a.size + 1 + b.size := by omega
  have m3 : ¬ 9223372036854775807 < a.size + 1 + b.size + 1 := by omega
  refine wp_region_held_drew (S := (fun V => V.cell? ⟨b0, 0, none⟩ = some (.int .i64 id) ∧ V.cell? ⟨b0, 1, none⟩ = some (.int .i64 kn))) (by kernel_rfl) ?_ (fun hHeld => ?_)
  · exact ⟨y0, y1⟩
  have hb1 := hB0.drew
  clear y0 y1 y2 y3 y4 y5
  generalize World.drew _ = u0 at *
  (refine held_take 0 (some 10) ?_ rfl (by kernel_rfl) (by kernel_rfl) (by kernel_rfl) (by rfl) (fun _ _ _ h => h) (by assumption) (fun w hSw => ?_) ?_; rotate_left; ((try dsimp only at hSw); simp only [List.getElem?_toArray, List.getElem?_cons_zero, List.getElem?_cons_succ, Option.map_some]; refine congrArg some ?_; go_simp; (try with_reducible rfl)); (try simp only [Act.put, List.setIfInBounds_toArray, List.set_cons_zero, List.set_cons_succ]))
  (refine held_take 1 (some 11) ?_ rfl (by kernel_rfl) (by kernel_rfl) (by kernel_rfl) (by rfl) (fun _ _ _ h => h) (by assumption) (fun w hSw => ?_) ?_; rotate_left; ((try dsimp only at hSw); simp only [List.getElem?_toArray, List.getElem?_cons_zero, List.getElem?_cons_succ, Option.map_some]; refine congrArg some ?_; go_simp; (try with_reducible rfl)); (try simp only [Act.put, List.setIfInBounds_toArray, List.set_cons_zero, List.set_cons_succ]))
  (refine held_take 4 (some 14) ?_ rfl (by kernel_rfl) (by kernel_rfl) (by kernel_rfl) (by rfl) (fun _ _ _ h => h) (by assumption) (fun w hSw => ?_) ?_; rotate_left; ((try dsimp only at hSw); simp only [List.getElem?_toArray, List.getElem?_cons_zero, List.getElem?_cons_succ, Option.map_some]; refine congrArg some ?_; go_simp; (try with_reducible rfl)); (try simp only [Act.put, List.setIfInBounds_toArray, List.set_cons_zero, List.set_cons_succ]))
  (refine held_take 5 (some 15) ?_ rfl (by kernel_rfl) (by kernel_rfl) (by kernel_rfl) (by rfl) (fun _ _ _ h => h) (by assumption) (fun w hSw => ?_) ?_; rotate_left; ((try dsimp only at hSw); simp only [List.getElem?_toArray, List.getElem?_cons_zero, List.getElem?_cons_succ, Option.map_some]; refine congrArg some ?_; go_simp; (try with_reducible rfl)); (try simp only [Act.put, List.setIfInBounds_toArray, List.set_cons_zero, List.set_cons_succ]))
  (refine held_call 2 (some 12) 86 _ rfl (by kernel_rfl) (by rfl) ?_ ((DigK.go K1 _)) ?_; rotate_left; rotate_left; (simp only [List.getElem?_toArray, List.getElem?_cons_zero, List.getElem?_cons_succ, Option.map_some]; refine congrArg some ?_; go_simp))
  rintro e u1 ⟨rfl, hbu⟩
  have hb2 := hb1.trans (hbu.mono hb1.size)
  have q2 := HK.out _ hb2
  refine ⟨_, rfl, ⟨q2.1, q2.2.1⟩, fun hHeld => ?_⟩
  (try simp only [Act.put, List.setIfInBounds_toArray, List.set_cons_zero, List.set_cons_succ])
  (refine held_take 3 (some 13) ?_ rfl (by kernel_rfl) (by kernel_rfl) (by kernel_rfl) (by rfl) (fun _ _ _ h => h) (by assumption) (fun w hSw => ?_) ?_; rotate_left; ((try dsimp only at hSw); simp only [List.getElem?_toArray, List.getElem?_cons_zero, List.getElem?_cons_succ, Option.map_some]; refine congrArg some ?_; go_simp; (try with_reducible rfl)); (try simp only [Act.put, List.setIfInBounds_toArray, List.set_cons_zero, List.set_cons_succ]))
  (refine held_call 6 (some 16) 86 _ rfl (by kernel_rfl) (by rfl) ?_ ((DigK.go K2 _)) ?_; rotate_left; rotate_left; (simp only [List.getElem?_toArray, List.getElem?_cons_zero, List.getElem?_cons_succ, Option.map_some]; refine congrArg some ?_; go_simp))
  rintro e u2 ⟨rfl, hbu2⟩
  have hb3 := hb2.trans (hbu2.mono hb2.size)
  have q3 := HK.out _ hb3
  refine ⟨_, rfl, ⟨q3.1, q3.2.1⟩, fun hHeld => ?_⟩
  (try simp only [Act.put, List.setIfInBounds_toArray, List.set_cons_zero, List.set_cons_succ])
  (refine held_take 7 (some 17) ?_ rfl (by kernel_rfl) (by kernel_rfl) (by kernel_rfl) (by rfl) (fun _ _ _ h => h) (by assumption) (fun w hSw => ?_) ?_; rotate_left; ((try dsimp only at hSw); simp only [List.getElem?_toArray, List.getElem?_cons_zero, List.getElem?_cons_succ, Option.map_some]; refine congrArg some ?_; go_simp; (try with_reducible rfl)); (try simp only [Act.put, List.setIfInBounds_toArray, List.set_cons_zero, List.set_cons_succ]))
  (refine held_take 8 (some 18) ?_ rfl (by kernel_rfl) (by kernel_rfl) (by kernel_rfl) (by rfl) (fun _ _ _ h => h) (by assumption) (fun w hSw => ?_) ?_; rotate_left; ((try dsimp only at hSw); simp only [List.getElem?_toArray, List.getElem?_cons_zero, List.getElem?_cons_succ, Option.map_some]; refine congrArg some ?_; go_simp; (try with_reducible rfl)); (try simp only [Act.put, List.setIfInBounds_toArray, List.set_cons_zero, List.set_cons_succ]))
  (refine held_take 9 (some 5) ?_ rfl (by kernel_rfl) (by kernel_rfl) (by kernel_rfl) (by rfl) (fun _ _ _ h => h) (by assumption) (fun w hSw => ?_) ?_; rotate_left; ((try dsimp only at hSw); simp only [List.getElem?_toArray, List.getElem?_cons_zero, List.getElem?_cons_succ, Option.map_some]; refine congrArg some ?_; go_simp; (try with_reducible rfl)); (try simp only [Act.put, List.setIfInBounds_toArray, List.set_cons_zero, List.set_cons_succ]))
  refine wpAnyH_done (by kernel_rfl) ?_ _
  clear hHeld
  have q4 := HK.out u2 hb3
  obtain ⟨-, -, y2, y3, y4, y5⟩ := q4
  clear q2 q3 m1 m2 m3 K1 K2 HF
  have hwx : x.size ≤ 1000 := hx
  rcases h6 with rfl | rfl | rfl | rfl | rfl | rfl
  · have HE := Lib.hid (HB.out.trans (if_pos rfl))
    clear HB HK K3 z3
    go_wp2
    refine bodyPost_ret (v := .tuple #[.string R, .int .i64 0]) (by rw [HE.out]; simp [results, Tryz.results35, go_sem]) rfl ?_
    exact ⟨rfl, by rw [hb]; exact HEND.out _ hb3⟩
  · have HE := Lib.hid (HB.out.trans ((if_neg (by decide)).trans (if_pos rfl)))
    clear HB HK K3 z3
    go_wp2
    refine bodyPost_ret (v := .tuple #[.string R, .int .i64 0]) (by rw [HE.out]; simp [results, Tryz.results35, go_sem]) rfl ?_
    exact ⟨rfl, by rw [hb]; exact HEND.out _ hb3⟩
  · have HE := Lib.hid (HB.out.trans ((if_neg (by decide)).trans ((if_neg (by decide)).trans (if_pos rfl))))
    clear HB HK K3 z3
    go_wp2
    refine bodyPost_ret (v := .tuple #[.string R, .int .i64 0]) (by rw [HE.out]; simp [results, Tryz.results35, go_sem]) rfl ?_
    exact ⟨rfl, by rw [hb]; exact HEND.out _ hb3⟩
  · have HE := Lib.hid (HB.out.trans ((if_neg (by decide)).trans ((if_neg (by decide)).trans ((if_neg (by decide)).trans (if_pos rfl)))))
    clear HB HK K3 z3
    go_wp2
    refine bodyPost_ret (v := .tuple #[.string R, .int .i64 0]) (by rw [HE.out]; simp [results, Tryz.results35, go_sem]) rfl ?_
    exact ⟨rfl, by rw [hb]; exact HEND.out _ hb3⟩
  · have HE := Lib.hid (HB.out.trans ((if_neg (by decide)).trans ((if_neg (by decide)).trans ((if_neg (by decide)).trans ((if_neg (by decide)).trans (if_pos rfl))))))
    clear HB HK K3 z3
    go_wp2
    refine bodyPost_ret (v := .tuple #[.string R, .int .i64 0]) (by rw [HE.out]; simp [results, Tryz.results35, go_sem]) rfl ?_
    exact ⟨rfl, by rw [hb]; exact HEND.out _ hb3⟩
  · have HE := Lib.hid (HB.out.trans ((if_neg (by decide)).trans ((if_neg (by decide)).trans ((if_neg (by decide)).trans ((if_neg (by decide)).trans (if_neg (by decide)))))))
    have zc := z3.out rfl
    have HC := K3.out rfl
    clear HB HK K3 z3
    go_wp2_with (go_at_call 86; refine (DigK.go HC _).mono ?_; rintro e u3 ⟨rfl, hb4⟩)
    refine bodyPost_ret (v := .tuple #[.string R, .int .i64 0]) (by rw [HE.out]; simp [results, Tryz.results35, go_sem]) rfl ?_
    exact ⟨rfl, by rw [hb]; exact HEND.out _ (hb3.trans (hb4.mono hb3.size))⟩
set_option maxHeartbeats 400000 in
theorem rwrite_no (r : Rul) (w : World) (HF : FrK r.agg false) : Calls Tryz.prog 35 #[r.agg] w (fun e w' => e = .returned (.tuple #[.string ⟨#[]⟩, .int .i64 1]) ∧ Below w.heap.size w w') := by
  obtain ⟨id, kn, kd, x, y, of⟩ := r
  go_enter Tryz.func35, Tryz.ntmps35
  have hB0 : Below w.heap.size w (w.alloc (.cells #[.int .i64 id, .int .i64 kn, .int .u8 kd, .string x, .string y, .int .i64 of] 50)) := (Below.refl _ _).alloc (Nat.le_refl _) _
  go_wp2_with (go_at_call 85; refine (FrK.go (by assumption) _).mono ?_; rintro e V ⟨rfl, hb⟩; have hB := hB0.trans (hb.mono (by simp)))
  refine bodyPost_ret (v := .tuple #[.string ⟨#[]⟩, .int .i64 1]) (by simp [results, Tryz.results35, go_sem]) rfl ?_
  exact ⟨rfl, hB⟩
end Go.Proofs.YtkfeagokmcakgaaGreatDoor

namespace Go.Proofs.YtkfeagokmcakgaaGreatDoor
open Go.RowKit

theorem itoB_dec {n : Int} (h : 0 ≤ n) : itoB n = decB n.toNat := by
  obtain ⟨u, rfl⟩ := Int.eq_ofNat_of_zero_le h
  exact bytes_inj (itoB_nat u)
theorem app_data (a b : ByteArray) : (a ++ b).data.toList = a.data.toList ++ b.data.toList := by rw [ByteArray.data_append, Array.toList_append]
theorem rwB_eq {r : Rul} (h : frm r = true) : rwB r = wrB r := by
  obtain ⟨i1, i2, i3⟩ := frm_cases h
  refine bytes_inj ?_
  rw [wrB_data h, wrL_join]
  have e1 := itoB_dec (n := r.id) (by omega)
  have e2 := itoB_dec (n := r.known) (by omega)
  have e3 : r.kind = 6 → itoB r.of = decB r.of.toNat := fun h6 => itoB_dec (by omega)
  rw [e1, e2]
  unfold rwB tellB wordB
  have h6 : r.kind = 1 ∨ r.kind = 2 ∨ r.kind = 3 ∨ r.kind = 4 ∨ r.kind = 5 ∨ r.kind = 6 := by omega
  rcases h6 with hk | hk | hk | hk | hk | hk
  all_goals simp only [hk]
  case inr.inr.inr.inr.inr =>
    rw [e3 hk]
    simp [app_data, Lib.joinTail]
  all_goals simp [app_data, Lib.joinTail]
/-- the reference's Write at a rule whose form it knows -/
theorem rwrite_of (r : Rul) (w : World) (HF : FrK r.agg (frm r)) (hx : r.x.size ≤ 1000) (hy : r.y.size ≤ 1000) : Calls Tryz.prog 35 #[r.agg] w (WriteE r w) := by
  by_cases h : frm r = true
  · obtain ⟨i1, i2, i3⟩ := frm_cases h
    rw [h] at HF
    refine (rwrite_ok r w HF i1 i2 (by omega) (fun h6 => by omega) hx hy).mono ?_
    rintro e w' ⟨rfl, hb⟩
    refine ⟨?_, hb⟩
    unfold wrE
    rw [if_pos h, rwB_eq h]
  · have h2 : frm r = false := by simpa using h
    rw [h2] at HF
    refine (rwrite_no r w HF).mono ?_
    rintro e w' ⟨rfl, hb⟩
    refine ⟨?_, hb⟩
    unfold wrE wrB
    rw [if_neg h, if_neg h]
end Go.Proofs.YtkfeagokmcakgaaGreatDoor

namespace Go.Proofs.YtkfeagokmcakgaaGreatDoor
open Go.RowKit

theorem str_drop {s : ByteArray} {k : Nat} (h : k < s.size) : s.data.toList.drop k = s[k] :: s.data.toList.drop (k + 1) := by
  have hl : k < s.data.toList.length := by rw [Array.length_toList]; exact h
  rw [List.drop_eq_getElem_cons hl]; rfl
theorem str_end (s : ByteArray) : s.data.toList.drop s.size = [] := by
  rw [List.drop_eq_nil_iff]; rw [Array.length_toList]; exact Nat.le_refl _
def ValE (s : ByteArray) (w : World) (e : Ending) (w' : World) : Prop := e = .returned (.int .i64 (valB s)) ∧ w' = w
theorem val_ret {s : ByteArray} {w : World} {x : Int} (h : valB s = x) : ValE s w (.returned (.int .i64 x)) w := ⟨by rw [h], rfl⟩
theorem valB_eq {s : ByteArray} (h : 1 ≤ s.size ∧ s.size ≤ 7) : valB s = match Lib.decFrom 0 s.data.toList with | some n => (n : Int) | none => -1 := if_pos h
set_option maxHeartbeats 1000000 in
theorem value_any (s : ByteArray) (w : World) (hs : s.size ≤ 1000000) : Calls Tryz.prog 88 #[.string s] w (ValE s w) := by
  by_cases h1 : s.size < 1
  · have HR : Hid (valB s = -1) := by show _ = _; unfold valB; rw [if_neg (by omega)]
    have hi1 : (s.size : Int) < 1 := by omega
    go_enter Tryz.func88, Tryz.ntmps88
    go_wp2
    go_ret
    exact val_ret HR.out
  by_cases h7 : 7 < s.size
  · have HR : Hid (valB s = -1) := by show _ = _; unfold valB; rw [if_neg (by omega)]
    have hi1 : ¬ (s.size : Int) < 1 := by omega
    have hi7 : (7 : Int) < s.size := by omega
    go_enter Tryz.func88, Tryz.ntmps88
    go_wp2
    go_ret
    exact val_ret HR.out
  have hi1 : ¬ (s.size : Int) < 1 := by omega
  have hi7 : ¬ (7 : Int) < s.size := by omega
  have HR : Hid (valB s = match Lib.decFrom 0 s.data.toList with | some n => (n : Int) | none => -1) := valB_eq (by omega)
  have HD := Lib.hid (fun k (h : k < s.size) => str_drop h)
  have HE := Lib.hid (str_end s)
  have HP : Hid (∀ k, k ≤ 7 → 10 ^ k ≤ 10000000) := fun k hk => Nat.pow_le_pow_right (n := 10) (by decide) hk
  have H0 : Hid (Lib.decFrom 0 s.data.toList = Lib.decFrom 0 (s.data.toList.drop 0)) := rfl
  have h7' : s.size ≤ 7 := by omega
  clear h1 h7
  go_enter Tryz.func88, Tryz.ntmps88
  go_wp2
  go_loop [3, 4] (fun x y => ∃ k m : Nat, k ≤ s.size ∧ m < 10 ^ k ∧ x = .int .i64 m ∧ y = .int .i64 k ∧ Hid (Lib.decFrom 0 s.data.toList = Lib.decFrom m (s.data.toList.drop k))) (fun _ y => s.size - (intOf y).toNat)
  case atStart => exact ⟨0, 0, by omega, by decide, rfl, rfl, H0⟩
  case round =>
    obtain ⟨k, m, hk, hm, rfl, rfl, HK⟩ := hrel
    clear H0
    have hm7 := HP.out k (by omega)
    by_cases hlt : k < s.size
    · have HQ := HK.out
      rw [HD.out k hlt] at HQ
      by_cases c1 : 48 ≤ (s[k].toNat : Int) ∧ (s[k].toNat : Int) ≤ 57
      · obtain ⟨c2, c3⟩ := c1
        have hd : Lib.digitVal s[k] = some (s[k].toNat - 48) := by unfold Lib.digitVal; rw [if_pos (by omega)]
        rw [Lib.decFrom, hd] at HQ
        have HQ2 := Lib.hid HQ
        have HM : Hid (m * 10 + (s[k].toNat - 48) < 10 ^ (k + 1)) := by show _ < _; rw [Nat.pow_succ]; omega
        have hkI : (k : Int) < s.size := by omega
        have hm8 : (m : Int) ≤ 10000000 := by omega
        clear HK HQ hd HP HE HD hm hm7
        go_wp2
        go_round
        case rel => exact ⟨k + 1, m * 10 + (s[k].toNat - 48), by omega, HM.out, by go_num, by go_num, HQ2⟩
        case measure => simp [intOf]; omega
      · have hd : Lib.digitVal s[k] = none := by unfold Lib.digitVal; rw [if_neg (by omega)]
        rw [Lib.decFrom, hd] at HQ
        have HV : Hid (valB s = -1) := by show _ = _; rw [HR.out, HQ]
        have hkI : (k : Int) < s.size := by omega
        clear HK HQ hd HP HE HD hm hm7 HR
        by_cases c2 : (s[k].toNat : Int) < 48
        · go_wp2
          go_ret
          exact val_ret HV.out
        · have c3 : (57 : Int) < s[k].toNat := by omega
          go_wp2
          go_ret
          exact val_ret HV.out
    · obtain rfl : k = s.size := by omega
      have HQ := HK.out
      rw [HE.out] at HQ
      have HV : Hid (valB s = m) := by show _ = _; rw [HR.out, HQ]; rfl
      clear HK HQ HP HE HD hm hm7 HR
      go_wp2
      go_ret
      exact val_ret HV.out
end Go.Proofs.YtkfeagokmcakgaaGreatDoor

namespace Go.Proofs.YtkfeagokmcakgaaGreatDoor
open Go.RowKit

/-- the parts of s between the bytes c, as strings -/
def SplE (s : ByteArray) (c : UInt8) (w : World) (e : Ending) (w' : World) : Prop := ∃ (L : List ByteArray) (A : Option Addr) (cp : Nat), L.map (·.data.toList) = spW c s.data.toList ∧ e = .returned (.slice A L.length cp) ∧ Lies w' w'.heap.size A (strsC L) ∧ (L.length ≤ cp ∧ cp ≤ maxLen) ∧ L.length ≤ s.size + 1 ∧ Below w.heap.size w w'
/-- what is split off up to f, and what lies between f and k -/
def SpI (s : ByteArray) (c : UInt8) (L : List ByteArray) (f k : Nat) : Prop := L.map (·.data.toList) ++ spW c (s.data.toList.drop f) = spW c s.data.toList ∧ c ∉ (s.data.toList.drop f).take (k - f)
theorem ext_data (s : ByteArray) (f k : Nat) : (s.extract f k).data.toList = (s.data.toList.drop f).take (k - f) := by
  rw [ByteArray.data_extract, Array.toList_extract, List.extract_eq_take_drop]
theorem SpI.zero (s : ByteArray) (c : UInt8) : SpI s c [] 0 0 := ⟨by simp, by simp⟩
theorem SpI.miss {s : ByteArray} {c : UInt8} {L : List ByteArray} {f k : Nat} (h : SpI s c L f k) (hf : f ≤ k) (hk : k < s.size) (hne : s[k] ≠ c) : SpI s c L f (k + 1) := by
  refine ⟨h.1, ?_⟩
  have e : k + 1 - f = (k - f) + 1 := by omega
  have hl : k - f < (s.data.toList.drop f).length := by rw [List.length_drop, Array.length_toList]; have : s.data.size = s.size := rfl; omega
  rw [e, List.take_succ_eq_append_getElem hl]
  intro hm
  rcases List.mem_append.1 hm with hm | hm
  · exact h.2 hm
  · rw [List.mem_singleton, List.getElem_drop] at hm
    refine hne ?_
    rw [hm]
    have : f + (k - f) = k := by omega
    simp only [this]
    rfl
theorem SpI.hit {s : ByteArray} {c : UInt8} {L : List ByteArray} {f k : Nat} (h : SpI s c L f k) (hf : f ≤ k) (hk : k < s.size) (he : s[k] = c) : SpI s c (L ++ [s.extract f k]) (k + 1) (k + 1) := by
  refine ⟨?_, by simp⟩
  rw [← h.1]
  have e : s.data.toList.drop f = (s.data.toList.drop f).take (k - f) ++ c :: s.data.toList.drop (k + 1) := by
    have h1 := (List.take_append_drop (k - f) (s.data.toList.drop f)).symm
    rw [List.drop_drop, show f + (k - f) = k by omega, str_drop hk, he] at h1
    exact h1
  conv => rhs; rw [e]
  rw [spW_hit _ h.2, List.map_append, List.append_assoc]
  simp only [List.map_cons, List.map_nil, ext_data, List.singleton_append]
theorem SpI.close {s : ByteArray} {c : UInt8} {L : List ByteArray} {f : Nat} (h : SpI s c L f s.size) : (L ++ [s.extract f s.size]).map (·.data.toList) = spW c s.data.toList := by
  rw [← h.1]
  have e : (s.data.toList.drop f).take (s.size - f) = s.data.toList.drop f := by
    refine List.take_of_length_le ?_
    rw [List.length_drop, Array.length_toList]; exact Nat.le_refl _
  have hm := h.2
  rw [e] at hm
  rw [spW_miss hm, List.map_append]
  simp only [List.map_cons, List.map_nil, ext_data, e]
set_option maxHeartbeats 1000000 in
theorem split_any (s : ByteArray) (c : UInt8) (w : World) (hs : s.size ≤ 50000) : Calls Tryz.prog 67 #[.string s, .int .u8 c.toNat] w (SplE s c w) := by
  have HZ := Lib.hid (SpI.zero s c)
  go_enter Tryz.func67, Tryz.ntmps67
  go_wp2
  go_loopw [5, 6, 7] (fun v x y wr => ∃ (k f : Nat) (L : List ByteArray) (A' : Option Addr) (c' : Nat), f ≤ k ∧ k ≤ s.size ∧ v = .slice A' L.length c' ∧ x = .int .i64 f ∧ y = .int .i64 k ∧ wr.ownsRow w.heap.size 9 1 (.slice A' L.length c') L.length (strsC L) ∧ Hid (SpI s c L f k) ∧ L.length ≤ k ∧ Below w.heap.size w wr) (fun _ _ y _ => s.size - (intOf y).toNat)
  case atStart => exact ⟨0, 0, [], none, 0, by omega, by omega, rfl, rfl, rfl, World.ownsRow_nil _ _ _ _, HZ, by simp, Below.refl _ _⟩
  case round =>
    obtain ⟨k, f, L, A', c', hf, hk, rfl, rfl, rfl, ho, HI, hLk, hbw⟩ := hrel
    clear HZ
    have hbs := hbw.size
    have hfI : (f : Int) ≤ k := by omega
    have hkS : (k : Int) ≤ s.size := by omega
    by_cases hlt : k < s.size
    · by_cases hc : s[k] = c
      · have hb1 : ((s[k].toNat : Int) == (c.toNat : Int)) = true := by rw [hc]; simp
        have HI2 := Lib.hid (HI.out.hit hf hlt hc)
        have HSN : Hid (strsC L ++ [.string (s.extract f k)] = strsC (L ++ [s.extract f k])) := by show _ = _; simp [strsC]
        have hll : (L ++ [s.extract f k]).length = L.length + 1 := by simp
        clear hc HI
        go_wp2_with (at_builtin; refine wpList_append1 rfl (.tmp 19) (.tmp 24) 34 rfl w.heap.size 9 (.string ByteArray.empty) 1 16 Tryz.underlying34 info9 rfl (by decide) _ L.length (strsC L) rfl (ho.alloc _) wr.heap.size #[.string (s.extract f k)] 9 rfl ?c0 rfl ?c1 ?c2 (by decide) ?c3 w.heap.size w ?c4 (Nat.le_refl _) ?_)
        case c0 => simpa using Bk.new wr 9 #[.string (s.extract f k)]
        case c1 => rfl
        case c2 => omega
        case c3 => first | omega | (simp; omega)
        case c4 => exact hbw.alloc hbs _
        intro v' w4 ho4 hb4 _
        replace ho4 : w4.ownsRow w.heap.size 9 1 v' (L.length + 1) (strsC (L ++ [s.extract f k])) := by rw [← HSN.out]; exact ho4
        obtain ⟨A4, c4, rfl, h41, h42⟩ := ownsSlice ho4
        clear ho
        go_wp2
        go_roundw
        case rel => exact ⟨k + 1, k + 1, L ++ [s.extract f k], A4, c4, by omega, by omega, by rw [hll], by go_num, by go_num, by rw [hll]; exact ho4, HI2, by omega, hb4⟩
        case measure => simp [intOf]; omega
      · have hb1 : ((s[k].toNat : Int) == (c.toNat : Int)) = false := by
          rw [beq_eq_false_iff_ne]; intro h; exact hc (UInt8.toNat_inj.1 (by omega))
        have HI2 := Lib.hid (HI.out.miss hf hlt hc)
        clear hc HI
        go_wp2
        go_roundw
        case rel => exact ⟨k + 1, f, L, A', c', by omega, by omega, rfl, rfl, by go_num, ho, HI2, by omega, hbw⟩
        case measure => simp [intOf]; omega
    · obtain rfl : k = s.size := by omega
      have HC := Lib.hid HI.out.close
      have HSN : Hid (strsC L ++ [.string (s.extract f s.size)] = strsC (L ++ [s.extract f s.size])) := by show _ = _; simp [strsC]
      have hll : (L ++ [s.extract f s.size]).length = L.length + 1 := by simp
      clear HI
      go_wp2_with (at_builtin; refine wpList_append1 rfl (.tmp 28) (.tmp 32) 34 rfl w.heap.size 9 (.string ByteArray.empty) 1 16 Tryz.underlying34 info9 rfl (by decide) _ L.length (strsC L) rfl (ho.alloc _) wr.heap.size #[.string (s.extract f s.size)] 9 rfl ?c0 rfl ?c1 ?c2 (by decide) ?c3 w.heap.size w ?c4 (Nat.le_refl _) ?_)
      case c0 => simpa using Bk.new wr 9 #[.string (s.extract f s.size)]
      case c1 => rfl
      case c2 => omega
      case c3 => first | omega | (simp; omega)
      case c4 => exact hbw.alloc hbs _
      intro v' w4 ho4 hb4 _
      replace ho4 : w4.ownsRow w.heap.size 9 1 v' (L.length + 1) (strsC (L ++ [s.extract f s.size])) := by rw [← HSN.out]; exact ho4
      obtain ⟨A4, c4, rfl, h41, h42⟩ := ownsSlice ho4
      clear ho
      go_wp2
      go_ret
      refine ⟨L ++ [s.extract f s.size], A4, c4, HC.out, by rw [hll]; rfl, ownsRow_lies ho4, by rw [hll]; exact ⟨h41, h42⟩, by omega, hb4⟩
end Go.Proofs.YtkfeagokmcakgaaGreatDoor
