/- The plain law of a rule's line: what is written is read again. -/
import Derived.Lib.SplitLaws
import Derived.Lib.AtoiTie
import Derived.Lib.ItoaLen
import Derived.Laws.IdiomStrings
import Derived.Test.YtkfeagokmcakgaaGreatDoorG02
import Derived.Test.YtkfeagokmcakgaaGreatDoorG03
import Derived.Test.YtkfeagokmcakgaaGreatDoorG07
import Derived.Test.YtkfeagokmcakgaaGreatDoorG11
import Derived.Test.YtkfeagokmcakgaaGreatDoorG14
import Derived.Test.YtkfeagokmcakgaaGreatDoorG17
import Derived.Test.YtkfeagokmcakgaaGreatDoorG19
import Derived.Test.YtkfeagokmcakgaaGreatDoorG21
import Derived.Test.YtkfeagokmcakgaaGreatDoorG22

set_option linter.unusedVariables false
set_option linter.unusedSimpArgs false

namespace Go.Proofs.YtkfeagokmcakgaaGreatDoor
open Go.RowKit

theorem index_miss {c : UInt8} : ∀ w : List UInt8, c ∉ w → Lib.index w [c] = -1
  | [], _ => by simp [Lib.index]
  | b :: l, h => by
    have hb : c ≠ b := fun e => h (by simp [e])
    have hp : ([c] : List UInt8).isPrefixOf (b :: l) = false := by simp [List.isPrefixOf, hb]
    rw [Lib.index, hp, index_miss l (fun hm => h (List.mem_cons_of_mem _ hm))]; simp
theorem index_hit {c : UInt8} (r : List UInt8) : ∀ w : List UInt8, c ∉ w → Lib.index (w ++ c :: r) [c] = (w.length : Int)
  | [], _ => by simp [Lib.index, List.isPrefixOf]
  | b :: l, h => by
    have hb : c ≠ b := fun e => h (by simp [e])
    have hp : ([c] : List UInt8).isPrefixOf (b :: (l ++ c :: r)) = false := by simp [List.isPrefixOf, hb]
    show Lib.index (b :: (l ++ c :: r)) [c] = _
    rw [Lib.index, hp, index_hit r l (fun hm => h (List.mem_cons_of_mem _ hm))]
    have hn : ¬ ((l.length : Int) == -1) = true := fun e => by have := beq_iff_eq.1 e; omega
    simp only [Bool.false_eq_true, if_false, hn, List.length_cons]
    omega
/-- the parts of a list between the bytes c -/
def spW (c : UInt8) (s : List UInt8) : List (List UInt8) := Lib.splitK [c] 0 (s.count c) s
theorem spW_miss {c : UInt8} {w : List UInt8} (h : c ∉ w) : spW c w = [w] := by
  unfold spW; rw [List.count_eq_zero.2 h]; rfl
theorem spW_hit {c : UInt8} {w : List UInt8} (r : List UInt8) (h : c ∉ w) : spW c (w ++ c :: r) = w :: spW c r := by
  unfold spW
  rw [List.count_append, List.count_eq_zero.2 h, List.count_cons_self, Nat.zero_add, Lib.splitK, index_hit r w h]
  have hn : ¬ ((w.length : Int) == -1) = true := fun e => by have := beq_iff_eq.1 e; omega
  rw [if_neg hn]
  simp
theorem spW_join (c : UInt8) : ∀ (r : List (List UInt8)) (x : List UInt8), (∀ w ∈ x :: r, c ∉ w) → spW c (x ++ Lib.joinTail [c] r) = x :: r
  | [], x, h => by
    rw [show Lib.joinTail [c] [] = [] from rfl, List.append_nil, spW_miss (h x (by simp))]
  | y :: r, x, h => by
    have e : x ++ Lib.joinTail [c] (y :: r) = x ++ c :: (y ++ Lib.joinTail [c] r) := by simp [Lib.joinTail]
    rw [e, spW_hit _ (h x (by simp)), spW_join c r y (fun w hw => h w (List.mem_cons_of_mem _ hw))]
theorem wds_data (line : ByteArray) : (wdsB line).map (·.data.toList) = spW 32 line.data.toList := by
  unfold wdsB spW
  rw [Lib.splitB_data]
  have : Lib.countB line spB = line.data.toList.count 32 := Lib.count_one 32 line.data.toList
  rw [this]; rfl
theorem map_data_inj {a b : List ByteArray} (h : a.map (·.data.toList) = b.map (·.data.toList)) : a = b := by
  induction a generalizing b with
  | nil => cases b with
    | nil => rfl
    | cons _ _ => simp at h
  | cons x a ih => cases b with
    | nil => simp at h
    | cons y b =>
      simp only [List.map_cons, List.cons.injEq] at h
      rw [bytes_inj h.1, ih h.2]
/-! numerals -/
theorem dec_byte {u : Nat} (h : u < 10) : (UInt8.ofNat (48 + u)).toNat = 48 + u := by
  rw [UInt8.toNat_ofNat']; omega
theorem dec_digits (u : Nat) : ∀ b ∈ Lib.decDigits u, 48 ≤ b.toNat ∧ b.toNat ≤ 57 := by
  induction u using Nat.strongRecOn with
  | _ u ih =>
    intro b hb
    rw [Lib.decDigits] at hb
    split at hb
    · rename_i h
      obtain rfl := List.mem_singleton.1 hb; rw [dec_byte h]; omega
    · rename_i h
      rcases List.mem_append.1 hb with hb | hb
      · exact ih (u / 10) (by omega) b hb
      · obtain rfl := List.mem_singleton.1 hb; rw [dec_byte (Nat.mod_lt u (by omega))]; have := Nat.mod_lt u (show 10 > 0 by omega); omega
theorem decFrom_app : ∀ (l m : List UInt8) (acc : Nat), Lib.decFrom acc (l ++ m) = (Lib.decFrom acc l).bind fun a => Lib.decFrom a m
  | [], m, acc => rfl
  | b :: l, m, acc => by
    simp only [List.cons_append, Lib.decFrom]
    cases Lib.digitVal b with
    | none => rfl
    | some d => exact decFrom_app l m _
theorem dec_val (u : Nat) : Lib.decFrom 0 (Lib.decDigits u) = some u := by
  induction u using Nat.strongRecOn with
  | _ u ih =>
    rw [Lib.decDigits]
    split
    · rename_i h
      have hd : Lib.digitVal (UInt8.ofNat (48 + u)) = some u := by
        unfold Lib.digitVal; rw [dec_byte h, if_pos (by omega)]; simp
      simp only [Lib.decFrom, hd]; simp
    · rename_i h
      have hd : Lib.digitVal (UInt8.ofNat (48 + u % 10)) = some (u % 10) := by
        have hm := Nat.mod_lt u (show 10 > 0 by omega)
        unfold Lib.digitVal; rw [dec_byte hm, if_pos (by omega)]; simp
      rw [decFrom_app, ih (u / 10) (by omega)]
      simp only [Option.bind_some, Lib.decFrom, hd]
      congr 1; omega
theorem dec_ne (u : Nat) : Lib.decDigits u ≠ [] := by
  rw [Lib.decDigits]; split <;> simp
theorem nDigits_le : ∀ (k u : Nat), u < 10 ^ (k + 1) → Lib.nDigits u ≤ k + 1
  | 0, u, h => by rw [Lib.nDigits_small (by simpa using h)]; omega
  | k + 1, u, h => by
    by_cases h0 : u < 10
    · rw [Lib.nDigits_small h0]; omega
    · rw [Lib.nDigits_big h0]
      have := nDigits_le k (u / 10) (by rw [Nat.pow_succ] at h; omega)
      omega
theorem dec_len {u : Nat} (h : u ≤ 1000000) : (Lib.decDigits u).length ≤ 7 := by
  rw [Lib.decDigits_length]; exact nDigits_le 6 u (by omega)
theorem itoB_nat (u : Nat) : (itoB (u : Int)).data.toList = Lib.decDigits u := by
  show (Lib.itoa (u : Int)).toArray.toList = _
  rw [List.toList_toArray, Lib.itoa_nonneg]
theorem numB_itoB {n : Int} (h0 : 0 ≤ n) (h1 : n ≤ 1000000) : numB (itoB n) = some n := by
  obtain ⟨u, rfl⟩ := Int.eq_ofNat_of_zero_le h0
  have hu : u ≤ 1000000 := by omega
  have hl := dec_len hu
  have ha : Lib.atoi (Lib.decDigits u) = some (u : Int) := by
    have hd := dec_digits u
    have hv := dec_val u
    cases e : Lib.decDigits u with
    | nil => exact absurd e (dec_ne u)
    | cons b r =>
      rw [e] at hd hv
      have hb := hd b (by simp)
      have h45 : (b == 45) = false := by
        cases h : b == 45 with
        | false => rfl
        | true => have := beq_iff_eq.1 h; subst this; have := hb.1; simp at this
      have h43 : (b == 43) = false := by
        cases h : b == 43 with
        | false => rfl
        | true => have := beq_iff_eq.1 h; subst this; have := hb.1; simp at this
      unfold Lib.atoi
      dsimp only
      rw [h45, h43]
      simp only [Bool.false_eq_true, if_false, Lib.decNat, List.isEmpty_cons, hv, Option.map_some]
  unfold numB
  rw [itoB_nat, Lib.atoiAll_short _ (by omega), ha]
  rfl
theorem itoB_nosp {n : Int} (h0 : 0 ≤ n) {c : UInt8} (hc : c.toNat < 48) : c ∉ (itoB n).data.toList := by
  obtain ⟨u, rfl⟩ := Int.eq_ofNat_of_zero_le h0
  rw [itoB_nat]
  intro h
  have := dec_digits u c h
  omega
theorem name_nosp {s : ByteArray} (h : nameB s = true) {c : UInt8} (hc : c.toNat < 45) : c ∉ s.data.toList := by
  intro hm
  unfold nameB at h
  simp only [Bool.and_eq_true] at h
  have := List.all_eq_true.1 h.2 c hm
  unfold okc at this
  simp only [Bool.and_eq_true, Bool.or_eq_true, decide_eq_true_eq] at this
  omega
/-- what a well-formed rule's fields are -/
theorem frm_cases {r : Rul} (h : frm r = true) : (1 ≤ r.id ∧ r.id ≤ 1000000) ∧ (0 ≤ r.known ∧ r.known ≤ 1000000) ∧
    ((r.kind = 1 ∨ r.kind = 2) ∧ nameB r.x = true ∧ r.y = ⟨#[]⟩ ∧ r.of = 0 ∨ (r.kind = 3 ∨ r.kind = 4 ∨ r.kind = 5) ∧ nameB r.x = true ∧ nameB r.y = true ∧ r.of = 0 ∨ r.kind = 6 ∧ r.x = ⟨#[]⟩ ∧ r.y = ⟨#[]⟩ ∧ 1 ≤ r.of ∧ r.of ≤ 1000000) := by
  have he : ∀ s : ByteArray, s.size = 0 → s = ⟨#[]⟩ := fun s hs => bytes_inj (by
    have : s.data.toList.length = 0 := by rw [Array.length_toList]; exact hs
    rw [List.length_eq_zero_iff.1 this])
  unfold frm shpB at h
  simp only [Bool.and_eq_true, decide_eq_true_eq] at h
  obtain ⟨⟨⟨⟨h1, h2⟩, h3⟩, h4⟩, h5⟩ := h
  refine ⟨⟨h1, h2⟩, ⟨h3, by omega⟩, ?_⟩
  split at h5
  · rename_i hk
    simp only [Bool.and_eq_true, decide_eq_true_eq] at h5
    exact .inl ⟨hk, h5.1.1, he _ h5.1.2, h5.2⟩
  · split at h5
    · rename_i hk
      simp only [Bool.and_eq_true, decide_eq_true_eq] at h5
      exact .inr (.inl ⟨by omega, h5.1.1, h5.1.2, h5.2⟩)
    · split at h5
      · rename_i hk
        simp only [Bool.and_eq_true, decide_eq_true_eq] at h5
        exact .inr (.inl ⟨by omega, h5.1.1.1, h5.1.1.2, h5.1.2⟩)
      · split at h5
        · rename_i hk
          simp only [Bool.and_eq_true, decide_eq_true_eq] at h5
          exact .inr (.inr ⟨hk, he _ h5.1.1.1.1, he _ h5.1.1.1.2, h5.1.1.2, h5.1.2⟩)
        · cases h5
theorem word_nosp (k : Int) : (32 : UInt8) ∉ (wordB k).data.toList ∧ (10 : UInt8) ∉ (wordB k).data.toList := by
  unfold wordB; (repeat' split) <;> decide
theorem words_nosp {r : Rul} (h : frm r = true) {c : UInt8} (hc : c = 32 ∨ c = 10) : ∀ w ∈ wordsB r, c ∉ w.data.toList := by
  obtain ⟨h1, h2, h3⟩ := frm_cases h
  have c1 : c.toNat < 45 := by rcases hc with rfl | rfl <;> decide
  intro w hw
  unfold wordsB at hw
  rcases List.mem_cons.1 hw with rfl | hw
  · exact itoB_nosp (by omega) (by omega)
  rcases List.mem_cons.1 hw with rfl | hw
  · exact itoB_nosp (by omega) (by omega)
  rcases List.mem_cons.1 hw with rfl | hw
  · rcases hc with rfl | rfl
    · exact (word_nosp _).1
    · exact (word_nosp _).2
  unfold tellB at hw
  rcases h3 with ⟨hk, hx, hy, ho⟩ | ⟨hk, hx, hy, ho⟩ | ⟨hk, hx, hy, ho⟩
  · rw [if_pos hk] at hw; simp at hw; subst hw; exact name_nosp hx c1
  · rw [if_neg (by omega), if_neg (by omega)] at hw
    simp at hw
    rcases hw with rfl | rfl
    · exact name_nosp hx c1
    · exact name_nosp hy c1
  · rw [if_neg (by omega), if_pos hk] at hw; simp at hw; subst hw; exact itoB_nosp (by omega) (by omega)
theorem wrB_data {r : Rul} (h : frm r = true) : (wrB r).data.toList = wrL r := by
  unfold wrB; rw [if_pos h]
theorem wrL_join (r : Rul) : wrL r = (itoB r.id).data.toList ++ Lib.joinTail [32] ((itoB r.known :: wordB r.kind :: tellB r).map (·.data.toList)) := by
  unfold wrL wordsB
  rw [List.map_cons, Lib.join_cons]
theorem wds_words {r : Rul} (h : frm r = true) : wdsB (wrB r) = wordsB r := by
  refine map_data_inj ?_
  rw [wds_data, wrB_data h, wrL_join, spW_join]
  · rfl
  · intro w hw
    have hw' : w ∈ (wordsB r).map (·.data.toList) := hw
    obtain ⟨u, hu, rfl⟩ := List.mem_map.1 hw'
    exact words_nosp h (.inl rfl) u hu
theorem rdR_words {line w0 w1 w2 w3 : ByteArray} {l : List ByteArray} {a b : Int} (h : wdsB line = w0 :: w1 :: w2 :: w3 :: l) (ha : numB w0 = some a) (hb : numB w1 = some b) : rdR line = (rdT a b w2 w3 (l.getD 0 ⟨#[]⟩)).bind (rdF line) := by
  unfold rdR; rw [h]; simp only [ha, hb]
theorem kindB_word {k : Int} (h : 1 ≤ k ∧ k ≤ 6) : kindB (wordB k) = k := by
  have : k = 1 ∨ k = 2 ∨ k = 3 ∨ k = 4 ∨ k = 5 ∨ k = 6 := by omega
  rcases this with rfl | rfl | rfl | rfl | rfl | rfl <;> decide +kernel
theorem rdF_wr {r : Rul} (h : frm r = true) : rdF (wrB r) r = some r := by unfold rdF; rw [if_pos ⟨h, rfl⟩]
/-- what is written is read again -/
theorem rdR_wr {r : Rul} (h : frm r = true) : rdR (wrB r) = some r := by
  obtain ⟨h1, h2, h3⟩ := frm_cases h
  have hw := wds_words h
  have hF := rdF_wr h
  have n1 := numB_itoB (n := r.id) (by omega) (by omega)
  have n2 := numB_itoB (n := r.known) (by omega) (by omega)
  have hkw := kindB_word (k := r.kind) (by omega)
  have h0 : r.kind ≠ 0 := by omega
  unfold wordsB tellB at hw
  obtain ⟨id, kn, kd, x, y, of⟩ := r
  dsimp only at *
  rcases h3 with ⟨hk, hx, rfl, rfl⟩ | ⟨hk, hx, hy, rfl⟩ | ⟨rfl, rfl, rfl, ho⟩
  · rw [if_pos hk] at hw
    rw [rdR_words hw n1 n2]
    unfold rdT takR
    rw [hkw, if_neg h0, if_pos hk]
    exact hF
  · rw [if_neg (by omega), if_neg (by omega)] at hw
    rw [rdR_words hw n1 n2]
    unfold rdT takR
    rw [hkw, if_neg h0, if_neg (by omega), if_neg (by omega)]
    exact hF
  · rw [if_neg (by omega), if_pos rfl] at hw
    rw [rdR_words hw n1 n2]
    unfold rdT takR
    rw [hkw, if_neg h0, if_neg (by omega), if_pos rfl, numB_itoB (by omega) ho.2]
    exact hF
theorem rdR_line {line : ByteArray} {r : Rul} (h : rdR line = some r) : frm r = true ∧ wrB r = line := by
  unfold rdR at h
  split at h
  · split at h
    · obtain ⟨q, _, h2⟩ := Option.bind_eq_some_iff.1 h
      unfold rdF at h2
      split at h2
      · rename_i hq; cases h2; exact hq
      · cases h2
    · cases h
  · cases h
/-! the reference's reading -/
def valB (s : ByteArray) : Int := if 1 ≤ s.size ∧ s.size ≤ 7 then (match Lib.decFrom 0 s.data.toList with | some n => (n : Int) | none => -1) else -1
theorem valB_itoB {n : Int} (h0 : 0 ≤ n) (h1 : n ≤ 1000000) : valB (itoB n) = n := by
  obtain ⟨u, rfl⟩ := Int.eq_ofNat_of_zero_le h0
  have hu : u ≤ 1000000 := by omega
  have hl := dec_len hu
  have hs : (itoB (u : Int)).size = (Lib.decDigits u).length := by
    rw [← itoB_nat, Array.length_toList]; rfl
  have hp := List.length_pos_iff.2 (dec_ne u)
  unfold valB
  rw [itoB_nat, dec_val, if_pos (by omega)]
/-- the rule that the words of a line may mean -/
def rrK (a b k : Int) (w3 y : ByteArray) : Rul := if k = 6 then ⟨a, b, 6, ⟨#[]⟩, ⟨#[]⟩, valB w3⟩ else ⟨a, b, k, w3, y, 0⟩
def rrd (line : ByteArray) : Option Rul := match wdsB line with
  | [w0, w1, w2, w3] => rdF line (rrK (valB w0) (valB w1) (kindB w2) w3 ⟨#[]⟩)
  | [w0, w1, w2, w3, w4] => rdF line (rrK (valB w0) (valB w1) (kindB w2) w3 w4)
  | _ => none
theorem rrd_line {line : ByteArray} {r : Rul} (h : rrd line = some r) : frm r = true ∧ wrB r = line := by
  unfold rrd rdF at h
  split at h
  · split at h
    · rename_i hq; cases h; exact hq
    · cases h
  · split at h
    · rename_i hq; cases h; exact hq
    · cases h
  · cases h
theorem rrd_wr {r : Rul} (h : frm r = true) : rrd (wrB r) = some r := by
  obtain ⟨h1, h2, h3⟩ := frm_cases h
  have hw := wds_words h
  have hF := rdF_wr h
  have n1 := valB_itoB (n := r.id) (by omega) (by omega)
  have n2 := valB_itoB (n := r.known) (by omega) (by omega)
  have hkw := kindB_word (k := r.kind) (by omega)
  unfold wordsB tellB at hw
  obtain ⟨id, kn, kd, x, y, of⟩ := r
  dsimp only at *
  unfold rrd
  rcases h3 with ⟨hk, hx, rfl, rfl⟩ | ⟨hk, hx, hy, rfl⟩ | ⟨rfl, rfl, rfl, ho⟩
  · rw [if_pos hk] at hw
    rw [hw]
    dsimp only
    unfold rrK
    rw [hkw, n1, n2, if_neg (by omega)]
    exact hF
  · rw [if_neg (by omega), if_neg (by omega)] at hw
    rw [hw]
    dsimp only
    unfold rrK
    rw [hkw, n1, n2, if_neg (by omega)]
    exact hF
  · rw [if_neg (by omega), if_pos rfl] at hw
    rw [hw]
    dsimp only
    unfold rrK
    rw [hkw, n1, n2, if_pos rfl, valB_itoB (by omega) ho.2]
    exact hF
/-- both read the same -/
theorem rrd_eq (line : ByteArray) : rrd line = rdR line := by
  cases e : rdR line with
  | some r =>
    obtain ⟨h1, h2⟩ := rdR_line e
    rw [← h2, rrd_wr h1]
  | none =>
    cases e2 : rrd line with
    | none => rfl
    | some r =>
      obtain ⟨h1, h2⟩ := rrd_line e2
      rw [← h2, rdR_wr h1] at e; cases e
end Go.Proofs.YtkfeagokmcakgaaGreatDoor

namespace Go.Proofs.YtkfeagokmcakgaaGreatDoor
open Go.RowKit

def decB (n : Nat) : ByteArray := ⟨(Lib.decDigits n).toArray⟩
theorem decB_one {n : Nat} (h : n < 10) : decB n = ⟨#[UInt8.ofNat (48 + n)]⟩ := by
  unfold decB; rw [Lib.decDigits_one h]
theorem decB_len {n : Nat} (h : n ≤ 1000000) : (decB n).size ≤ 21 := by
  have := Lib.itoa_length_le (n : Int) (by omega) (by omega)
  rw [Lib.itoa_nonneg] at this
  exact this
theorem decB_big {n : Nat} (h : ¬ n < 10) : decB n = decB (n / 10) ++ decB (n % 10) := by
  unfold decB
  rw [Lib.decDigits, dif_neg h, Lib.decDigits_one (Nat.mod_lt n (by omega))]
  apply ByteArray.ext
  rw [ByteArray.data_append]
  simp
/-- what Digits answers at a number, in any world -/
structure DigK (q : Int) (s : ByteArray) : Prop where
  run : ∀ V, Calls Tryz.prog 86 #[.int .i64 q] V (ValEnd (.string s) V)
theorem DigK.go {q : Int} {s : ByteArray} (h : DigK q s) (V : World) : Calls Tryz.prog 86 #[.int .i64 q] V (ValEnd (.string s) V) := h.run V
set_option maxRecDepth 100000 in
set_option maxHeartbeats 1000000 in
theorem digits_any : ∀ (n : Nat) (w : World), n ≤ 1000000 → Calls Tryz.prog 86 #[.int .i64 n] w (ValEnd (.string (decB n)) w) := by
  intro n
  induction n using Nat.strongRecOn with
  | _ n ih =>
    intro w hn
    by_cases h : n < 10
    · have hI : (n : Int) < 10 := by omega
      have HC : Hid ((convert 84 9 (.slice (some ⟨w.heap.size, 0, none⟩) 1 1)).run Tryz.prog (w.alloc (.cells #[.int .u8 (48 + (n : Int))] 5)) = .ok (.string (decB n)) (w.alloc (.cells #[.int .u8 (48 + (n : Int))] 5))) := by
        show _ = _
        have hc := run_convert_bytes_back (P := Tryz.prog) (w.alloc (.cells #[.int .u8 (48 + (n : Int))] 5)) 84 9 5 ⟨w.heap.size, 0, none⟩ 1 [UInt8.ofNat (48 + n)] Tryz.underlying84 Tryz.underlying5 Tryz.underlying9 (fun j hj => by
          have hj0 : j = 0 := by simpa using hj
          subst hj0
          rw [show (⟨w.heap.size, 0, none⟩ : Addr).add 0 = ⟨w.heap.size, 0, none⟩ from rfl, (Bk.new w 5 #[.int .u8 (48 + (n : Int))]).cell 0 rfl]
          have : (UInt8.ofNat (48 + n)).toNat = 48 + n := by rw [UInt8.toNat_ofNat']; omega
          simp only [List.getElem_cons_zero, this]
          rfl)
        rw [← decB_one h] at hc
        exact hc
      clear ih
      have hcv := HC.out
      clear HC
      go_enter Tryz.func86, Tryz.ntmps86
      go_wp2
      go_ret
      exact ⟨rfl, (by repeat (first | with_reducible exact Below.refl _ _ | with_reducible assumption | with_reducible refine Below.drew ?_ | with_reducible refine below_drewN ?_ _ | (with_reducible refine Below.alloc ?_ ?_ _; rotate_left; (try simp) <;> omega) | (with_reducible refine Below.setCell ?_ ?_ _; rotate_left; (try simp) <;> omega)))⟩
    · have hI : ¬ (n : Int) < 10 := by omega
      have HB := Lib.hid (decB_big h)
      have H1 : DigK ((n : Int) / 10) (decB (n / 10)) := ⟨fun V => by
        have h := ih (n / 10) (by omega) V (by omega)
        rwa [show ((n / 10 : Nat) : Int) = (n : Int) / 10 by omega] at h⟩
      have H2 : DigK ((n : Int) % 10) (decB (n % 10)) := ⟨fun V => by
        have h := ih (n % 10) (by omega) V (by omega)
        rwa [show ((n % 10 : Nat) : Int) = (n : Int) % 10 by omega] at h⟩
      clear ih
      go_enter Tryz.func86, Tryz.ntmps86
      have hsz : (decB (n / 10)).size + (decB (n % 10)).size ≤ 9223372036854775807 := by
        have h1 := decB_len (n := n / 10) (by omega)
        have h2 := decB_len (n := n % 10) (by omega)
        omega
      have hB0 : Below w.heap.size w w := Below.refl _ _
      go_wp2_with (go_at_call 86; refine (DigK.go (by assumption) _).mono ?_; rintro e V ⟨rfl, hb⟩; have hB := Below.trans hB0 (hb.mono (Below.size hB0)); clear hb hB0; have hB0 := hB; clear hB)
      go_ret
      exact ⟨by rw [HB.out]; rfl, hB0⟩
/-- Digits answers the decimal numeral -/
theorem digK {n : Int} (h0 : 0 ≤ n) (h1 : n ≤ 1000000) : DigK n (decB n.toNat) := ⟨fun V => by
  obtain ⟨u, rfl⟩ := Int.eq_ofNat_of_zero_le h0
  exact digits_any u V (by omega)⟩
end Go.Proofs.YtkfeagokmcakgaaGreatDoor

namespace Go.Proofs.YtkfeagokmcakgaaGreatDoor
open Go.RowKit

def rwB (r : Rul) : ByteArray :=
  if r.kind = 1 then decB r.id.toNat ++ ⟨#[32]⟩ ++ decB r.known.toNat ++ ⟨#[32]⟩ ++ ⟨#[102, 97, 115, 116, 32]⟩ ++ r.x
  else if r.kind = 2 then decB r.id.toNat ++ ⟨#[32]⟩ ++ decB r.known.toNat ++ ⟨#[32]⟩ ++ ⟨#[100, 114, 121, 32]⟩ ++ r.x
  else if r.kind = 3 then decB r.id.toNat ++ ⟨#[32]⟩ ++ decB r.known.toNat ++ ⟨#[32]⟩ ++ ⟨#[98, 101, 115, 105, 100, 101, 32]⟩ ++ r.x ++ ⟨#[32]⟩ ++ r.y
  else if r.kind = 4 then decB r.id.toNat ++ ⟨#[32]⟩ ++ decB r.known.toNat ++ ⟨#[32]⟩ ++ ⟨#[111, 118, 101, 114, 32]⟩ ++ r.x ++ ⟨#[32]⟩ ++ r.y
  else if r.kind = 5 then decB r.id.toNat ++ ⟨#[32]⟩ ++ decB r.known.toNat ++ ⟨#[32]⟩ ++ ⟨#[103, 114, 111, 117, 112, 32]⟩ ++ r.x ++ ⟨#[32]⟩ ++ r.y
  else decB r.id.toNat ++ ⟨#[32]⟩ ++ decB r.known.toNat ++ ⟨#[32]⟩ ++ ⟨#[118, 111, 105, 100, 32]⟩ ++ decB r.of.toNat
structure FrK (r : Value) (b : Bool) : Prop where
  run : ∀ V, Calls Tryz.prog 85 #[r] V (ShEnd b V)
theorem FrK.go {r : Value} {b : Bool} (h : FrK r b) (V : World) : Calls Tryz.prog 85 #[r] V (ShEnd b V) := h.run V
set_option maxRecDepth 100000 in
set_option maxHeartbeats 4000000 in
theorem rwrite_ok (r : Rul) (w : World) (HF : FrK r.agg true) (i1 : 1 ≤ r.id ∧ r.id ≤ 1000000) (i2 : 0 ≤ r.known ∧ r.known ≤ 1000000) (i3 : 1 ≤ r.kind ∧ r.kind ≤ 6) (i4 : r.kind = 6 → 0 ≤ r.of ∧ r.of ≤ 1000000) (hx : r.x.size ≤ 1000) (hy : r.y.size ≤ 1000) :
    Calls Tryz.prog 35 #[r.agg] w (fun e w' => e = .returned (.tuple #[.string (rwB r), .int .i64 0]) ∧ Below w.heap.size w w') := by
  have K1 := digK (n := r.id) (by omega) i1.2
  have K2 := digK i2.1 i2.2
  have K3 := Lib.hid (fun h => digK (i4 h).1 (i4 h).2)
  have z1 := decB_len (n := r.id.toNat) (by omega)
  have z2 := decB_len (n := r.known.toNat) (by omega)
  have z3 := Lib.hid (fun h => decB_len (n := r.of.toNat) (by have := i4 h; omega))
  have HB : Hid (rwB r = _) := Lib.hid (show rwB r = (if r.kind = 1 then decB r.id.toNat ++ ⟨#[32]⟩ ++ decB r.known.toNat ++ ⟨#[32]⟩ ++ ⟨#[102, 97, 115, 116, 32]⟩ ++ r.x
  else if r.kind = 2 then decB r.id.toNat ++ ⟨#[32]⟩ ++ decB r.known.toNat ++ ⟨#[32]⟩ ++ ⟨#[100, 114, 121, 32]⟩ ++ r.x
  else if r.kind = 3 then decB r.id.toNat ++ ⟨#[32]⟩ ++ decB r.known.toNat ++ ⟨#[32]⟩ ++ ⟨#[98, 101, 115, 105, 100, 101, 32]⟩ ++ r.x ++ ⟨#[32]⟩ ++ r.y
  else if r.kind = 4 then decB r.id.toNat ++ ⟨#[32]⟩ ++ decB r.known.toNat ++ ⟨#[32]⟩ ++ ⟨#[111, 118, 101, 114, 32]⟩ ++ r.x ++ ⟨#[32]⟩ ++ r.y
  else if r.kind = 5 then decB r.id.toNat ++ ⟨#[32]⟩ ++ decB r.known.toNat ++ ⟨#[32]⟩ ++ ⟨#[103, 114, 111, 117, 112, 32]⟩ ++ r.x ++ ⟨#[32]⟩ ++ r.y
  else decB r.id.toNat ++ ⟨#[32]⟩ ++ decB r.known.toNat ++ ⟨#[32]⟩ ++ ⟨#[118, 111, 105, 100, 32]⟩ ++ decB r.of.toNat) from rfl)
  generalize rwB r = R at *
  obtain ⟨id, kn, kd, x, y, of⟩ := r
  dsimp only at *
  have h6 : kd = 1 ∨ kd = 2 ∨ kd = 3 ∨ kd = 4 ∨ kd = 5 ∨ kd = 6 := by omega
  clear i1 i2 i3 i4
  generalize decB id.toNat = a at *
  generalize decB kn.toNat = b at *
  generalize decB of.toNat = c at *
  have HK : Hid (∀ V, Below (w.alloc (.cells #[.int .i64 id, .int .i64 kn, .int .u8 kd, .string x, .string y, .int .i64 of] 50)).heap.size (w.alloc (.cells #[.int .i64 id, .int .i64 kn, .int .u8 kd, .string x, .string y, .int .i64 of] 50)) V → V.cell? ⟨w.heap.size, 0, none⟩ = some (.int .i64 id) ∧ V.cell? ⟨w.heap.size, 1, none⟩ = some (.int .i64 kn) ∧ V.cell? ⟨w.heap.size, 2, none⟩ = some (.int .u8 kd) ∧ V.cell? ⟨w.heap.size, 3, none⟩ = some (.string x) ∧ V.cell? ⟨w.heap.size, 4, none⟩ = some (.string y) ∧ V.cell? ⟨w.heap.size, 5, none⟩ = some (.int .i64 of)) := fun V hV => by
    have k := (Bk.new w 50 #[.int .i64 id, .int .i64 kn, .int .u8 kd, .string x, .string y, .int .i64 of]).below hV (Bk.new w 50 _).lt
    exact ⟨k.cell 0 rfl, k.cell 1 rfl, k.cell 2 rfl, k.cell 3 rfl, k.cell 4 rfl, k.cell 5 rfl⟩
  have HEND : Hid (∀ V, Below (w.alloc (.cells #[.int .i64 id, .int .i64 kn, .int .u8 kd, .string x, .string y, .int .i64 of] 50)).heap.size (w.alloc (.cells #[.int .i64 id, .int .i64 kn, .int .u8 kd, .string x, .string y, .int .i64 of] 50)) V → Below w.heap.size w V) := fun V hV => ((Below.refl _ _).alloc (Nat.le_refl _) _).trans (hV.mono (by simp))
  go_enter Tryz.func35, Tryz.ntmps35
  go_upto_region 1 with fail
  have hB0 : Below (w.alloc (.cells #[.int .i64 id, .int .i64 kn, .int .u8 kd, .string x, .string y, .int .i64 of] 50)).heap.size (w.alloc (.cells #[.int .i64 id, .int .i64 kn, .int .u8 kd, .string x, .string y, .int .i64 of] 50)) (w.alloc (.cells #[.int .i64 id, .int .i64 kn, .int .u8 kd, .string x, .string y, .int .i64 of] 50)) := Below.refl _ _
  generalize (w.alloc (.cells #[.int .i64 id, .int .i64 kn, .int .u8 kd, .string x, .string y, .int .i64 of] 50)) = W0 at *
  generalize hb : w.heap.size = b0 at *
  obtain ⟨y0, y1, y2, y3, y4, y5⟩ := HK.out W0 hB0
  go_upto_region 4 with (go_at_call 85; refine (FrK.go (by assumption) _).mono ?_; rintro e V ⟨rfl, hb⟩; have hB := Below.trans hB0 (hb.mono (Below.size hB0)); clear hb hB0 y0 y1 y2 y3 y4 y5; have hB0 := hB; clear hB; obtain ⟨y0, y1, y2, y3, y4, y5⟩ := HK.out V hB0)
  have m1 : ¬ 9223372036854775807 < a.size + 1 := by omega
  have m2 : ¬ 9223372036854775807 < a.size + 1 + b.size := by omega
  have m3 : ¬ 9223372036854775807 < a.size + 1 + b.size + 1 := by omega
  refine wp_region_held_drew (S := (fun V => V.cell? ⟨b0, 0, none⟩ = some (.int .i64 id) ∧ V.cell? ⟨b0, 1, none⟩ = some (.int .i64 kn))) (by kernel_rfl) ?_ (fun hHeld => ?_)
  · exact ⟨y0, y1⟩
  have hb1 := hB0.drew
  clear y0 y1 y2 y3 y4 y5
  generalize World.drew _ = u0 at *
  (refine held_take 0 (some 10) ?_ rfl (by kernel_rfl) (by kernel_rfl) (by kernel_rfl) (by rfl) (fun _ _ _ h => h) (by assumption) (fun w hSw => ?_) ?_; rotate_left; ((try dsimp only at hSw); simp only [List.getElem?_toArray, List.getElem?_cons_zero, List.getElem?_cons_succ, Option.map_some]; refine congrArg some ?_; go_simp; (try with_reducible rfl)); (try simp only [Act.put, List.setIfInBounds_toArray, List.set_cons_zero, List.set_cons_succ]))
  (refine held_take 1 (some 11) ?_ rfl (by kernel_rfl) (by kernel_rfl) (by kernel_rfl) (by rfl) (fun _ _ _ h => h) (by assumption) (fun w hSw => ?_) ?_; rotate_left; ((try dsimp only at hSw); simp only [List.getElem?_toArray, List.getElem?_cons_zero, List.getElem?_cons_succ, Option.map_some]; refine congrArg some ?_; go_simp; (try with_reducible rfl)); (try simp only [Act.put, List.setIfInBounds_toArray, List.set_cons_zero, List.set_cons_succ]))
  (refine held_take 4 (some 14) ?_ rfl (by kernel_rfl) (by kernel_rfl) (by kernel_rfl) (by rfl) (fun _ _ _ h => h) (by assumption) (fun w hSw => ?_) ?_; rotate_left; ((try dsimp only at hSw); simp only [List.getElem?_toArray, List.getElem?_cons_zero, List.getElem?_cons_succ, Option.map_some]; refine congrArg some ?_; go_simp; (try with_reducible rfl)); (try simp only [Act.put, List.setIfInBounds_toArray, List.set_cons_zero, List.set_cons_succ]))
  (refine held_take 5 (some 15) ?_ rfl (by kernel_rfl) (by kernel_rfl) (by kernel_rfl) (by rfl) (fun _ _ _ h => h) (by assumption) (fun w hSw => ?_) ?_; rotate_left; ((try dsimp only at hSw); simp only [List.getElem?_toArray, List.getElem?_cons_zero, List.getElem?_cons_succ, Option.map_some]; refine congrArg some ?_; go_simp; (try with_reducible rfl)); (try simp only [Act.put, List.setIfInBounds_toArray, List.set_cons_zero, List.set_cons_succ]))
  (refine held_call 2 (some 12) 86 _ rfl (by kernel_rfl) (by rfl) ?_ ((DigK.go K1 _)) ?_; rotate_left; rotate_left; (simp only [List.getElem?_toArray, List.getElem?_cons_zero, List.getElem?_cons_succ, Option.map_some]; refine congrArg some ?_; go_simp))
  rintro e u1 ⟨rfl, hbu⟩
  have hb2 := hb1.trans (hbu.mono hb1.size)
  have q2 := HK.out _ hb2
  refine ⟨_, rfl, ⟨q2.1, q2.2.1⟩, fun hHeld => ?_⟩
  (try simp only [Act.put, List.setIfInBounds_toArray, List.set_cons_zero, List.set_cons_succ])
  (refine held_take 3 (some 13) ?_ rfl (by kernel_rfl) (by kernel_rfl) (by kernel_rfl) (by rfl) (fun _ _ _ h => h) (by assumption) (fun w hSw => ?_) ?_; rotate_left; ((try dsimp only at hSw); simp only [List.getElem?_toArray, List.getElem?_cons_zero, List.getElem?_cons_succ, Option.map_some]; refine congrArg some ?_; go_simp; (try with_reducible rfl)); (try simp only [Act.put, List.setIfInBounds_toArray, List.set_cons_zero, List.set_cons_succ]))
  (refine held_call 6 (some 16) 86 _ rfl (by kernel_rfl) (by rfl) ?_ ((DigK.go K2 _)) ?_; rotate_left; rotate_left; (simp only [List.getElem?_toArray, List.getElem?_cons_zero, List.getElem?_cons_succ, Option.map_some]; refine congrArg some ?_; go_simp))
  rintro e u2 ⟨rfl, hbu2⟩
  have hb3 := hb2.trans (hbu2.mono hb2.size)
  have q3 := HK.out _ hb3
  refine ⟨_, rfl, ⟨q3.1, q3.2.1⟩, fun hHeld => ?_⟩
  (try simp only [Act.put, List.setIfInBounds_toArray, List.set_cons_zero, List.set_cons_succ])
  (refine held_take 7 (some 17) ?_ rfl (by kernel_rfl) (by kernel_rfl) (by kernel_rfl) (by rfl) (fun _ _ _ h => h) (by assumption) (fun w hSw => ?_) ?_; rotate_left; ((try dsimp only at hSw); simp only [List.getElem?_toArray, List.getElem?_cons_zero, List.getElem?_cons_succ, Option.map_some]; refine congrArg some ?_; go_simp; (try with_reducible rfl)); (try simp only [Act.put, List.setIfInBounds_toArray, List.set_cons_zero, List.set_cons_succ]))
  (refine held_take 8 (some 18) ?_ rfl (by kernel_rfl) (by kernel_rfl) (by kernel_rfl) (by rfl) (fun _ _ _ h => h) (by assumption) (fun w hSw => ?_) ?_; rotate_left; ((try dsimp only at hSw); simp only [List.getElem?_toArray, List.getElem?_cons_zero, List.getElem?_cons_succ, Option.map_some]; refine congrArg some ?_; go_simp; (try with_reducible rfl)); (try simp only [Act.put, List.setIfInBounds_toArray, List.set_cons_zero, List.set_cons_succ]))
  (refine held_take 9 (some 5) ?_ rfl (by kernel_rfl) (by kernel_rfl) (by kernel_rfl) (by rfl) (fun _ _ _ h => h) (by assumption) (fun w hSw => ?_) ?_; rotate_left; ((try dsimp only at hSw); simp only [List.getElem?_toArray, List.getElem?_cons_zero, List.getElem?_cons_succ, Option.map_some]; refine congrArg some ?_; go_simp; (try with_reducible rfl)); (try simp only [Act.put, List.setIfInBounds_toArray, List.set_cons_zero, List.set_cons_succ]))
  refine wpAnyH_done (by kernel_rfl) ?_ _
  clear hHeld
  have q4 := HK.out u2 hb3
  obtain ⟨-, -, y2, y3, y4, y5⟩ := q4
  clear q2 q3 m1 m2 m3 K1 K2 HF
  have hwx : x.size ≤ 1000 := hx
  rcases h6 with rfl | rfl | rfl | rfl | rfl | rfl
  · have HE := Lib.hid (HB.out.trans (if_pos rfl))
    clear HB HK K3 z3
    go_wp2
    refine bodyPost_ret (v := .tuple #[.string R, .int .i64 0]) (by rw [HE.out]; simp [results, Tryz.results35, go_sem]) rfl ?_
    exact ⟨rfl, by rw [hb]; exact HEND.out _ hb3⟩
  · have HE := Lib.hid (HB.out.trans ((if_neg (by decide)).trans (if_pos rfl)))
    clear HB HK K3 z3
    go_wp2
    refine bodyPost_ret (v := .tuple #[.string R, .int .i64 0]) (by rw [HE.out]; simp [results, Tryz.results35, go_sem]) rfl ?_
    exact ⟨rfl, by rw [hb]; exact HEND.out _ hb3⟩
  · have HE := Lib.hid (HB.out.trans ((if_neg (by decide)).trans ((if_neg (by decide)).trans (if_pos rfl))))
    clear HB HK K3 z3
    go_wp2
    refine bodyPost_ret (v := .tuple #[.string R, .int .i64 0]) (by rw [HE.out]; simp [results, Tryz.results35, go_sem]) rfl ?_
    exact ⟨rfl, by rw [hb]; exact HEND.out _ hb3⟩
  · have HE := Lib.hid (HB.out.trans ((if_neg (by decide)).trans ((if_neg (by decide)).trans ((if_neg (by decide)).trans (if_pos rfl)))))
    clear HB HK K3 z3
    go_wp2
    refine bodyPost_ret (v := .tuple #[.string R, .int .i64 0]) (by rw [HE.out]; simp [results, Tryz.results35, go_sem]) rfl ?_
    exact ⟨rfl, by rw [hb]; exact HEND.out _ hb3⟩
  · have HE := Lib.hid (HB.out.trans ((if_neg (by decide)).trans ((if_neg (by decide)).trans ((if_neg (by decide)).trans ((if_neg (by decide)).trans (if_pos rfl))))))
    clear HB HK K3 z3
    go_wp2
    refine bodyPost_ret (v := .tuple #[.string R, .int .i64 0]) (by rw [HE.out]; simp [results, Tryz.results35, go_sem]) rfl ?_
    exact ⟨rfl, by rw [hb]; exact HEND.out _ hb3⟩
  · have HE := Lib.hid (HB.out.trans ((if_neg (by decide)).trans ((if_neg (by decide)).trans ((if_neg (by decide)).trans ((if_neg (by decide)).trans (if_neg (by decide)))))))
    have zc := z3.out rfl
    have HC := K3.out rfl
    clear HB HK K3 z3
    go_wp2_with (go_at_call 86; refine (DigK.go HC _).mono ?_; rintro e u3 ⟨rfl, hb4⟩)
    refine bodyPost_ret (v := .tuple #[.string R, .int .i64 0]) (by rw [HE.out]; simp [results, Tryz.results35, go_sem]) rfl ?_
    exact ⟨rfl, by rw [hb]; exact HEND.out _ (hb3.trans (hb4.mono hb3.size))⟩
set_option maxHeartbeats 400000 in
theorem rwrite_no (r : Rul) (w : World) (HF : FrK r.agg false) : Calls Tryz.prog 35 #[r.agg] w (fun e w' => e = .returned (.tuple #[.string ⟨#[]⟩, .int .i64 1]) ∧ Below w.heap.size w w') := by
  obtain ⟨id, kn, kd, x, y, of⟩ := r
  go_enter Tryz.func35, Tryz.ntmps35
  have hB0 : Below w.heap.size w (w.alloc (.cells #[.int .i64 id, .int .i64 kn, .int .u8 kd, .string x, .string y, .int .i64 of] 50)) := (Below.refl _ _).alloc (Nat.le_refl _) _
  go_wp2_with (go_at_call 85; refine (FrK.go (by assumption) _).mono ?_; rintro e V ⟨rfl, hb⟩; have hB := hB0.trans (hb.mono (by simp)))
  refine bodyPost_ret (v := .tuple #[.string ⟨#[]⟩, .int .i64 1]) (by simp [results, Tryz.results35, go_sem]) rfl ?_
  exact ⟨rfl, hB⟩
end Go.Proofs.YtkfeagokmcakgaaGreatDoor

namespace Go.Proofs.YtkfeagokmcakgaaGreatDoor
open Go.RowKit

theorem itoB_dec {n : Int} (h : 0 ≤ n) : itoB n = decB n.toNat := by
  obtain ⟨u, rfl⟩ := Int.eq_ofNat_of_zero_le h
  exact bytes_inj (itoB_nat u)
theorem app_data (a b : ByteArray) : (a ++ b).data.toList = a.data.toList ++ b.data.toList := by rw [ByteArray.data_append, Array.toList_append]
theorem rwB_eq {r : Rul} (h : frm r = true) : rwB r = wrB r := by
  obtain ⟨i1, i2, i3⟩ := frm_cases h
  refine bytes_inj ?_
  rw [wrB_data h, wrL_join]
  have e1 := itoB_dec (n := r.id) (by omega)
  have e2 := itoB_dec (n := r.known) (by omega)
  have e3 : r.kind = 6 → itoB r.of = decB r.of.toNat := fun h6 => itoB_dec (by omega)
  rw [e1, e2]
  unfold rwB tellB wordB
  have h6 : r.kind = 1 ∨ r.kind = 2 ∨ r.kind = 3 ∨ r.kind = 4 ∨ r.kind = 5 ∨ r.kind = 6 := by omega
  rcases h6 with hk | hk | hk | hk | hk | hk
  all_goals simp only [hk]
  case inr.inr.inr.inr.inr =>
    rw [e3 hk]
    simp [app_data, Lib.joinTail]
  all_goals simp [app_data, Lib.joinTail]
/-- the reference's Write at a rule whose form it knows -/
theorem rwrite_of (r : Rul) (w : World) (HF : FrK r.agg (frm r)) (hx : r.x.size ≤ 1000) (hy : r.y.size ≤ 1000) : Calls Tryz.prog 35 #[r.agg] w (WriteE r w) := by
  by_cases h : frm r = true
  · obtain ⟨i1, i2, i3⟩ := frm_cases h
    rw [h] at HF
    refine (rwrite_ok r w HF i1 i2 (by omega) (fun h6 => by omega) hx hy).mono ?_
    rintro e w' ⟨rfl, hb⟩
    refine ⟨?_, hb⟩
    unfold wrE
    rw [if_pos h, rwB_eq h]
  · have h2 : frm r = false := by simpa using h
    rw [h2] at HF
    refine (rwrite_no r w HF).mono ?_
    rintro e w' ⟨rfl, hb⟩
    refine ⟨?_, hb⟩
    unfold wrE wrB
    rw [if_neg h, if_neg h]
end Go.Proofs.YtkfeagokmcakgaaGreatDoor

namespace Go.Proofs.YtkfeagokmcakgaaGreatDoor
open Go.RowKit

structure WrK (W : World) (r : Value) (s : ByteArray) (k : Int) : Prop where
  run : ∀ V, Below W.heap.size W V → Calls Tryz.prog 35 #[r] V (fun e w' => e = .returned (.tuple #[.string s, .int .i64 k]) ∧ Below V.heap.size V w')
theorem WrK.go {W : World} {r : Value} {s : ByteArray} {k : Int} (h : WrK W r s k) {V : World} (hV : Below W.heap.size W V) : Calls Tryz.prog 35 #[r] V (fun e w' => e = .returned (.tuple #[.string s, .int .i64 k]) ∧ Below V.heap.size V w') := h.run V hV
def bytesOf (l : List UInt8) : ByteArray := ⟨l.toArray⟩
theorem bytesOf_app (a b : List UInt8) : bytesOf a ++ bytesOf b = bytesOf (a ++ b) := by
  refine bytes_inj ?_
  rw [app_data]; simp [bytesOf]
set_option maxHeartbeats 1000000 in
set_option maxRecDepth 100000 in
theorem rprint_any (l : List Rul) (A : Option Addr) (c : Nat) (w : World) (hl : Lies w w.heap.size A (rulesC l)) (hok : RulOK l) (hm : l.length ≤ 1000) (hc : l.length ≤ c) (hc2 : c ≤ maxLen) :
    Calls Tryz.prog 53 #[.agg #[.slice A l.length c]] w (ValEnd (.string (prnB l)) w) := by
  have HW0 : Hid (Below w.heap.size w (w.alloc (.cells #[.slice A l.length c] 25))) := (Below.refl _ _).alloc (Nat.le_refl _) _
  have HCH := Lib.hid (rcheck_any l A c (w.alloc (.cells #[.slice A l.length c] 25)) (lies_on hl HW0.out) hok hm hc hc2)
  have HP : Hid (prnB l = if (chkL l).2 = 0 then ⟨(prnL l).toArray⟩ else ⟨#[]⟩) := rfl
  have HFM : Hid ((chkL l).2 = 0 → Fine l) := chkL_fine
  have HBX : Hid (∀ V, Below (w.alloc (.cells #[.slice A l.length c] 25)).heap.size (w.alloc (.cells #[.slice A l.length c] 25)) V → V.cell? ⟨w.heap.size, 0, none⟩ = some (.slice A l.length c)) := fun V hV => ((Bk.new w 25 #[.slice A l.length c]).below hV (Bk.new w 25 _).lt).cell 0 rfl
  have HEND : Hid (∀ V, Below (w.alloc (.cells #[.slice A l.length c] 25)).heap.size (w.alloc (.cells #[.slice A l.length c] 25)) V → Below w.heap.size w V) := fun V hV => HW0.out.trans (hV.mono HW0.out.size)
  have HL : Hid (∀ V, Below (w.alloc (.cells #[.slice A l.length c] 25)).heap.size (w.alloc (.cells #[.slice A l.length c] 25)) V → Lies V V.heap.size A (rulesC l)) := fun V hV => lies_on hl (HEND.out V hV)
  go_enter Tryz.func53, Tryz.ntmps53
  go_upto_region 1 with fail
  have hB0 : Below (w.alloc (.cells #[.slice A l.length c] 25)).heap.size (w.alloc (.cells #[.slice A l.length c] 25)) (w.alloc (.cells #[.slice A l.length c] 25)) := Below.refl _ _
  have x0 := HBX.out _ hB0
  clear hl HW0
  generalize (w.alloc (.cells #[.slice A l.length c] 25)) = W0 at *
  by_cases h0 : (chkL l).2 = 0
  · have HF := HFM.out h0
    have hR' : ((chkL l).2 == 0) = true := by rw [h0]; rfl
    have hR2 : ((chkL l).2 != 0) = false := by rw [bne, hR']; rfl
    have HPR : Hid (prnB l = bytesOf (prnL l)) := by show prnB l = _; rw [HP.out, if_pos h0]; rfl
    have HN : Hid (∀ k (hk : k < l.length), (prnL (l.take k)).length ≤ 1001000 ∧ (wrL l[k]).length ≤ 1000 ∧ prnL (l.take (k + 1)) = prnL (l.take k) ++ (wrL l[k] ++ [10])) := fun k hk => by
      refine ⟨?_, wrL_len (fine_frm HF hk) (hok _ (List.getElem_mem hk)).1 (hok _ (List.getElem_mem hk)).2.1, ?_⟩
      · have h1 := prnL_len (l.take k) (fun r hr => by
          obtain ⟨i, hi, e⟩ := List.getElem_of_mem (List.mem_of_mem_take hr)
          rw [← e]; exact fine_frm HF hi) (hok.sub fun r hr => List.mem_of_mem_take hr)
        have : (l.take k).length ≤ l.length := by rw [List.length_take]; exact Nat.min_le_right _ _
        omega
      · rw [← prnL_snoc, List.take_append_getElem]
    have HW : Hid (∀ k (hk : k < l.length), WrK W0 l[k].agg (bytesOf (wrL l[k])) 0) := fun k hk => ⟨fun V hV => by
      have hf := fine_frm HF hk
      have ho := hok _ (List.getElem_mem hk)
      refine (rwrite_of l[k] V ⟨fun W => rformed_any l[k] W ho.1 ho.2.1⟩ (by omega) (by omega)).mono ?_
      rintro e w1 ⟨h1, h2⟩
      refine ⟨?_, h2⟩
      rw [h1]; unfold wrB wrE; rw [if_pos hf, if_pos hf]; rfl⟩
    have HZ : Hid (bytesOf (prnL (l.take 0)) = ⟨#[]⟩) := by show _ = _; simp [prnL, bytesOf]
    have HALL : Hid (l.take l.length = l) := List.take_length
    clear HF HFM HP h0 hok
    generalize chkL l = R at *
    obtain ⟨i0, e0⟩ := R
    dsimp only at *
    go_upto_region 4 with (go_at_call 50; refine HCH.out.mono ?_; rintro e w1 ⟨rfl, hb1⟩)
    have hB1 := hB0.trans (hb1.mono hB0.size)
    have x1 := HBX.out _ hB1
    clear hb1 hB0 x0 HCH hR' hR2
    go_wp2
    go_loopw [5, 6] (fun s y wr => ∃ k : Nat, k ≤ l.length ∧ s = .string (bytesOf (prnL (l.take k))) ∧ y = .int .i64 k ∧ Below W0.heap.size W0 wr) (fun _ y _ => l.length - (intOf y).toNat)
    case atStart => exact ⟨0, by omega, by rw [HZ.out], rfl, hB1⟩
    case round =>
      obtain ⟨k, hk, rfl, rfl, hbw⟩ := hrel
      have x2 := HBX.out _ hbw
      clear hB1 x1
      by_cases hlt : k < l.length
      · obtain ⟨ad, e1, hadb, h2, h3, h4, h5, h6, h7⟩ := rule_at (HL.out wr hbw) hlt
        subst e1
        have HC := HW.out k hlt
        obtain ⟨n1, n2, n3⟩ := HN.out k hlt
        have HS := Lib.hid n3
        clear n3 HN HW HL HPR HZ HALL
        generalize wrL l[k] = U at *
        generalize hV : prnL (l.take k) = V at *
        have hVs : (bytesOf V).size = V.length := rfl
        have hUs : (bytesOf U).size = U.length := rfl
        generalize l[k] = rk at *
        obtain ⟨id, kn, kd, x, y, of⟩ := rk
        dsimp only at *
        have HQ : Hid (bytesOf V ++ bytesOf U ++ ⟨#[10]⟩ = bytesOf (prnL (l.take (k + 1)))) := by
          show _ = _
          rw [HS.out, show (⟨#[10]⟩ : ByteArray) = bytesOf [10] from rfl, bytesOf_app, bytesOf_app, List.append_assoc]
        clear HS hV
        generalize bytesOf V = bv at *
        generalize bytesOf U = bu at *
        have m1 : ¬ 9223372036854775807 < bv.size + bu.size := by omega
        have m2 : ¬ 9223372036854775807 < bv.size + bu.size + 1 := by omega
        clear hVs hUs n1 n2
        go_wp2_with (go_at_call 35; refine (HC.go (by assumption)).mono ?_; rintro e w2 ⟨rfl, hb2⟩)
        go_roundw
        case rel => exact ⟨k + 1, by omega, by rw [HQ.out], by go_num, hbw.trans (hb2.mono hbw.size)⟩
        case measure => simp [intOf]; omega
      · obtain rfl : k = l.length := by omega
        rw [HALL.out]
        clear HN HW HL HZ HALL
        go_wp2
        go_ret
        exact ⟨by rw [HPR.out]; rfl, HEND.out _ hbw⟩
  · have HE := Lib.hid h0
    have hR' : ((chkL l).2 == 0) = false := by simpa using h0
    have hR2 : ((chkL l).2 != 0) = true := by rw [bne, hR']; rfl
    clear h0 HFM hok HL
    generalize hch : chkL l = R at *
    obtain ⟨i0, e0⟩ := R
    dsimp only at *
    go_wp2_with (go_at_call 50; refine HCH.out.mono ?_; rintro e w1 ⟨rfl, hb1⟩)
    go_ret
    exact ⟨by rw [HP.out, if_neg HE.out]; rfl, HEND.out _ (hB0.trans (hb1.mono hB0.size))⟩
end Go.Proofs.YtkfeagokmcakgaaGreatDoor

namespace Go.Proofs.YtkfeagokmcakgaaGreatDoor
open Go.RowKit

theorem apdL_len (l : List Rul) (r : Rul) : (apdL l r).length ≤ l.length + 1 := by
  unfold apdL; split
  · simp
  · simp
set_option maxHeartbeats 2500000 in
set_option maxRecDepth 100000 in
theorem lawChecks_any (l : List Rul) (A : Option Addr) (c : Nat) (r : Rul) (w : World) (hg : Glob w) (hl : Lies w w.heap.size A (rulesC l)) (hc : l.length ≤ c ∧ c ≤ maxLen)
    (hlw : ∀ r ∈ l, (r.x.size ≤ maxLen ∧ r.y.size ≤ maxLen) ∧ (0 ≤ r.kind ∧ r.kind ≤ 255)) (hr : (r.x.size ≤ maxLen ∧ r.y.size ≤ maxLen) ∧ (0 ≤ r.kind ∧ r.kind ≤ 255)) :
    Calls Tryz.prog 10 #[.agg #[.slice A l.length c], r.agg] w (fun e w' => e = .returned (.bool true) ∧ Below w.heap.size w w') := by
  obtain ⟨id, kn, kd, x, y, of⟩ := r
  dsimp only at hr
  have HW : Hid (Below w.heap.size w ((w.alloc (.cells #[.slice A l.length c] 25)).alloc (.cells #[.int .i64 id, .int .i64 kn, .int .u8 kd, .string x, .string y, .int .i64 of] 50))) := ((Below.refl _ _).alloc (Nat.le_refl _) _).alloc (by simp) _
  have HK0 : Hid (Bk ((w.alloc (.cells #[.slice A l.length c] 25)).alloc (.cells #[.int .i64 id, .int .i64 kn, .int .u8 kd, .string x, .string y, .int .i64 of] 50)) w.heap.size 25 #[.slice A l.length c]) := (Bk.new _ _ _).alloc _
  have HK1 : Hid (Bk ((w.alloc (.cells #[.slice A l.length c] 25)).alloc (.cells #[.int .i64 id, .int .i64 kn, .int .u8 kd, .string x, .string y, .int .i64 of] 50)) (w.heap.size + 1) 50 #[.int .i64 id, .int .i64 kn, .int .u8 kd, .string x, .string y, .int .i64 of]) := Lib.hid (by
    have h := Bk.new (w.alloc (.cells #[.slice A l.length c] 25)) 50 #[.int .i64 id, .int .i64 kn, .int .u8 kd, .string x, .string y, .int .i64 of]
    simpa using h)
  go_enter Tryz.func10, Tryz.ntmps10
  go_upto_region 1 with fail
  have hBW0 : Below ((w.alloc (.cells #[.slice A l.length c] 25)).alloc (.cells #[.int .i64 id, .int .i64 kn, .int .u8 kd, .string x, .string y, .int .i64 of] 50)).heap.size ((w.alloc (.cells #[.slice A l.length c] 25)).alloc (.cells #[.int .i64 id, .int .i64 kn, .int .u8 kd, .string x, .string y, .int .i64 of] 50)) ((w.alloc (.cells #[.slice A l.length c] 25)).alloc (.cells #[.int .i64 id, .int .i64 kn, .int .u8 kd, .string x, .string y, .int .i64 of] 50)) := Below.refl _ _
  generalize ((w.alloc (.cells #[.slice A l.length c] 25)).alloc (.cells #[.int .i64 id, .int .i64 kn, .int .u8 kd, .string x, .string y, .int .i64 of] 50)) = W0 at *
  have HL : Hid (∀ V, Below W0.heap.size W0 V → Lies V V.heap.size A (rulesC l)) := fun V hV => lies_on hl (HW.out.trans (hV.mono HW.out.size))
  have HG : Hid (∀ V, Below W0.heap.size W0 V → Glob V) := fun V hV => hg.step (HW.out.trans (hV.mono HW.out.size))
  have HR : Hid (∀ V, Below W0.heap.size W0 V → Calls Tryz.prog 17 #[] V (fun e w' => e = .returned (.bool true) ∧ Below V.heap.size V w')) := fun V hV => ruled_any V (HG.out V hV)
  have HY : Hid (∀ V, Below W0.heap.size W0 V → V.cell? ⟨w.heap.size, 0, none⟩ = some (.slice A l.length c)) := fun V hV => (HK0.out.below hV HK0.out.lt).cell 0 rfl
  have HZ : Hid (∀ V, Below W0.heap.size W0 V → V.cell? ⟨w.heap.size + 1, 0, none⟩ = some (.int .i64 id) ∧ V.cell? ⟨w.heap.size + 1, 1, none⟩ = some (.int .i64 kn) ∧ V.cell? ⟨w.heap.size + 1, 2, none⟩ = some (.int .u8 kd) ∧ V.cell? ⟨w.heap.size + 1, 3, none⟩ = some (.string x) ∧ V.cell? ⟨w.heap.size + 1, 4, none⟩ = some (.string y) ∧ V.cell? ⟨w.heap.size + 1, 5, none⟩ = some (.int .i64 of)) := fun V hV => by
    have k := HK1.out.below hV HK1.out.lt
    exact ⟨k.cell 0 rfl, k.cell 1 rfl, k.cell 2 rfl, k.cell 3 rfl, k.cell 4 rfl, k.cell 5 rfl⟩
  have y0 := HY.out W0 hBW0
  obtain ⟨z0, z1, z2, z3, z4, z5⟩ := HZ.out W0 hBW0
  generalize hb0 : w.heap.size = b0 at *
  have HSM : Hid (∀ V, Below W0.heap.size W0 V → Calls Tryz.prog 22 #[.agg #[.slice A l.length c]] V (ShEnd (smallB l) V)) := fun V hV => small_any l A c V (HL.out V hV) (fun r hr => (hlw r hr).1) (Nat.le_trans hc.1 hc.2)
  have HEND : Hid (∀ V, Below W0.heap.size W0 V → Below w.heap.size w V) := fun V hV => by subst hb0; exact HW.out.trans (hV.mono (by have := HW.out.size; omega))
  have hx2 : (x.size : Int) ≤ 9223372036854775807 := by have := hr.1.1; unfold maxLen at this; omega
  have hy2 : (y.size : Int) ≤ 9223372036854775807 := by have := hr.1.2; unfold maxLen at this; omega
  clear hg hl HK0 HK1 HW
  cases hsm : smallB l
  · rw [hsm] at HSM
    clear HL hsm hb0
    go_wp2_with (first | (go_at_call 22; refine (HSM.out _ (by assumption)).mono ?_; rintro e w1 ⟨rfl, hb⟩; have hBw1 : Below W0.heap.size W0 w1 := Below.trans (by assumption) (hb.mono (Below.size (by assumption))); have yw1 := HY.out w1 hBw1; clear hb) | (go_at_call 17; refine (HR.out _ (by assumption)).mono ?_; rintro e z ⟨rfl, hb⟩; have hBz : Below W0.heap.size W0 z := Below.trans (by assumption) (hb.mono (Below.size (by assumption))); clear hb))
    go_ret
    exact ⟨rfl, HEND.out _ hBz⟩
  rw [hsm] at HSM
  have hO := small_ok hsm (fun r hr => (hlw r hr).2)
  clear hsm hlw
  by_cases hxs : x.size ≤ 60
  case neg =>
    have h152 : (60 : Int) < (x.size : Int) := by omega
    clear HL hb0
    go_wp2_with (first | (go_at_call 22; refine (HSM.out _ (by assumption)).mono ?_; rintro e w1 ⟨rfl, hb⟩; have hBw1 : Below W0.heap.size W0 w1 := Below.trans (by assumption) (hb.mono (Below.size (by assumption))); have yw1 := HY.out w1 hBw1; obtain ⟨p0, p1, p2, p3, p4, p5⟩ := HZ.out w1 hBw1; clear hb) | (go_at_call 17; refine (HR.out _ (by assumption)).mono ?_; rintro e z ⟨rfl, hb⟩; have hBz : Below W0.heap.size W0 z := Below.trans (by assumption) (hb.mono (Below.size (by assumption))); clear hb))
    go_ret
    exact ⟨rfl, HEND.out _ hBz⟩
  have h152 : ¬ (60 : Int) < (x.size : Int) := by omega
  by_cases hys : y.size ≤ 60
  case neg =>
    have h153 : (60 : Int) < (y.size : Int) := by omega
    clear HL hb0
    go_wp2_with (first | (go_at_call 22; refine (HSM.out _ (by assumption)).mono ?_; rintro e w1 ⟨rfl, hb⟩; have hBw1 : Below W0.heap.size W0 w1 := Below.trans (by assumption) (hb.mono (Below.size (by assumption))); have yw1 := HY.out w1 hBw1; obtain ⟨p0, p1, p2, p3, p4, p5⟩ := HZ.out w1 hBw1; clear hb) | (go_at_call 17; refine (HR.out _ (by assumption)).mono ?_; rintro e z ⟨rfl, hb⟩; have hBz : Below W0.heap.size W0 z := Below.trans (by assumption) (hb.mono (Below.size (by assumption))); clear hb))
    go_ret
    exact ⟨rfl, HEND.out _ hBz⟩
  have h153 : ¬ (60 : Int) < (y.size : Int) := by omega
  have hOK : RulOK (l ++ [⟨id, kn, kd, x, y, of⟩]) := fun q hq => by
    rcases List.mem_append.1 hq with hq | hq
    · exact hO.1 q hq
    · simp at hq; subst hq; exact ⟨by show x.size ≤ 100; omega, by show y.size ≤ 100; omega, hr.2⟩
  have h25 := hO.2
  have HC1 : Hid (∀ V, Below W0.heap.size W0 V → Calls Tryz.prog 46 #[.agg #[.slice A l.length c]] V (Int2End (chkL l) V)) := fun V hV => check_any l A c V (HL.out V hV) hO.1 (by omega) hc.1 hc.2
  have HC2 : Hid (∀ V, Below W0.heap.size W0 V → Calls Tryz.prog 50 #[.agg #[.slice A l.length c]] V (Int2End (chkL l) V)) := fun V hV => rcheck_any l A c V (HL.out V hV) hO.1 (by omega) hc.1 hc.2
  have HA1 : Hid (∀ V, Below W0.heap.size W0 V → Calls Tryz.prog 51 #[.agg #[.slice A l.length c], .agg #[.int .i64 id, .int .i64 kn, .int .u8 kd, .string x, .string y, .int .i64 of]] V (AppEnd l ⟨id, kn, kd, x, y, of⟩ V)) := fun V hV => append_any l ⟨id, kn, kd, x, y, of⟩ A c V (HL.out V hV) hOK (by omega) hc.1 hc.2
  have HA2 : Hid (∀ V, Below W0.heap.size W0 V → Calls Tryz.prog 52 #[.agg #[.slice A l.length c], .agg #[.int .i64 id, .int .i64 kn, .int .u8 kd, .string x, .string y, .int .i64 of]] V (AppEnd l ⟨id, kn, kd, x, y, of⟩ V)) := fun V hV => rappend_any l ⟨id, kn, kd, x, y, of⟩ A c V (HL.out V hV) hOK (by omega) hc.1 hc.2
  have HP1 : Hid (∀ V, Below W0.heap.size W0 V → Calls Tryz.prog 21 #[.agg #[.slice A l.length c]] V (ValEnd (.string (prnB l)) V)) := fun V hV => print_any l A c V (HL.out V hV) (HG.out V hV) hO.1 (by omega) hc.1 hc.2
  have HP2 : Hid (∀ V, Below W0.heap.size W0 V → Calls Tryz.prog 53 #[.agg #[.slice A l.length c]] V (ValEnd (.string (prnB l)) V)) := fun V hV => rprint_any l A c V (HL.out V hV) hO.1 (by omega) hc.1 hc.2
  have HLL : Hid ((apdL l ⟨id, kn, kd, x, y, of⟩).length ≤ 1000) := by have := apdL_len l ⟨id, kn, kd, x, y, of⟩; show _ ≤ _; omega
  clear hO HL HG hOK hr hc h25
  unfold AppEnd at HA1 HA2
  generalize apdL l ⟨id, kn, kd, x, y, of⟩ = M at *
  generalize apdE l ⟨id, kn, kd, x, y, of⟩ = E at *
  generalize prnB l = S at *
  generalize chkL l = C at *
  obtain ⟨i1, i2⟩ := C
  have e1 : (i1 == i1) = true := by simp
  have e2 : (i2 == i2) = true := by simp
  have e3 : (E == E) = true := by simp
  have e4 : (S.toList == S.toList) = true := by rw [str_eq]; exact decide_eq_true rfl
  go_upto_region 3 with (go_at_call 22; refine (HSM.out _ (by assumption)).mono ?_; rintro e w1 ⟨rfl, hb⟩; have hBw1 : Below W0.heap.size W0 w1 := Below.trans (by assumption) (hb.mono (Below.size (by assumption))); have yw1 := HY.out w1 hBw1; obtain ⟨p0, p1, p2, p3, p4, p5⟩ := HZ.out w1 hBw1; clear hb)
  clear y0 z0 z1 z2 z3 z4 z5 p0 p1 p2 p3 p4 p5 hBW0 HSM
  go_upto_region 4 with (go_at_call 46; refine (HC1.out _ (by assumption)).mono ?_; rintro e w2 ⟨rfl, hb⟩; have hBw2 : Below W0.heap.size W0 w2 := Below.trans (by assumption) (hb.mono (Below.size (by assumption))); have yw2 := HY.out w2 hBw2; clear hb)
  clear yw1 hBw1 HC1
  go_upto_region 5 with (go_at_call 50; refine (HC2.out _ (by assumption)).mono ?_; rintro e w3 ⟨rfl, hb⟩; have hBw3 : Below W0.heap.size W0 w3 := Below.trans (by assumption) (hb.mono (Below.size (by assumption))); have yw3 := HY.out w3 hBw3; obtain ⟨p0, p1, p2, p3, p4, p5⟩ := HZ.out w3 hBw3; clear hb)
  clear yw2 hBw2 HC2
  go_upto_region 6 with (go_at_call 51; refine (HA1.out _ (by assumption)).mono ?_; rintro e w4 ⟨A1, c1, rfl, l1, _, hb⟩; have hBw4 : Below W0.heap.size W0 w4 := Below.trans (by assumption) (hb.mono (Below.size (by assumption))); clear hb)
  have hBw5 : Below W0.heap.size W0 (w4.alloc (.cells #[.slice A1 M.length c1] 25)) := hBw4.alloc hBw4.size _
  have HX1 : Hid (Bk (w4.alloc (.cells #[.slice A1 M.length c1] 25)) w4.heap.size 25 #[.slice A1 M.length c1]) := Bk.new _ _ _
  have HM1 := Lib.hid (lies_on l1 ((Below.refl w4.heap.size w4).alloc (Nat.le_refl _) (.cells #[.slice A1 M.length c1] 25)))
  generalize w4.alloc (.cells #[.slice A1 M.length c1] 25) = w5 at *
  have yw5 := HY.out w5 hBw5
  obtain ⟨q0, q1, q2, q3, q4, q5⟩ := HZ.out w5 hBw5
  clear yw3 hBw3 HA1 hBw4 p0 p1 p2 p3 p4 p5 l1
  generalize w4.heap.size = g1 at *
  go_upto_region 7 with (go_at_call 52; refine (HA2.out _ (by assumption)).mono ?_; rintro e w6 ⟨A2, c2, rfl, l2, _, hb6⟩; have hBw6 : Below W0.heap.size W0 w6 := Below.trans (by assumption) (hb6.mono (Below.size (by assumption))))
  have hb67 : Below w6.heap.size w6 (w6.alloc (.cells #[.slice A2 M.length c2] 25)) := (Below.refl _ _).alloc (Nat.le_refl _) _
  have hBw7 : Below W0.heap.size W0 (w6.alloc (.cells #[.slice A2 M.length c2] 25)) := hBw6.trans (hb67.mono hBw6.size)
  have HX2 : Hid (Bk (w6.alloc (.cells #[.slice A2 M.length c2] 25)) w6.heap.size 25 #[.slice A2 M.length c2]) := Bk.new _ _ _
  have HX3 := Lib.hid ((HX1.out.below hb6 HX1.out.lt).below hb67 (HX1.out.below hb6 HX1.out.lt).lt)
  have HM2 := Lib.hid (lies_on l2 hb67)
  have HM3 := Lib.hid (lies_on (lies_on HM1.out hb6) hb67)
  generalize w6.alloc (.cells #[.slice A2 M.length c2] 25) = w7 at *
  have HY7 : Hid (∀ V, Below w7.heap.size w7 V → V.cell? ⟨b0, 0, none⟩ = some (.slice A l.length c) ∧ V.cell? ⟨g1, 0, none⟩ = some (.slice A1 M.length c1) ∧ V.cell? ⟨w6.heap.size, 0, none⟩ = some (.slice A2 M.length c2)) := fun V hV => ⟨HY.out V (hBw7.trans (hV.mono hBw7.size)), (HX3.out.below hV HX3.out.lt).cell 0 rfl, (HX2.out.below hV HX2.out.lt).cell 0 rfl⟩
  have HSR : Hid (∀ V, Below w7.heap.size w7 V → Calls Tryz.prog 20 #[.slice A1 M.length c1, .slice A2 M.length c2] V (ShEnd true V)) := fun V hV => sameRules_any M A1 A2 c1 c2 V (lies_on HM3.out hV) (lies_on HM2.out hV) (by have := HLL.out; omega)
  have HR7 := Lib.hid (fun V (hV : Below w7.heap.size w7 V) => HR.out V (hBw7.trans (hV.mono hBw7.size)))
  have HP17 := Lib.hid (fun V (hV : Below w7.heap.size w7 V) => HP1.out V (hBw7.trans (hV.mono hBw7.size)))
  have HP27 := Lib.hid (fun V (hV : Below w7.heap.size w7 V) => HP2.out V (hBw7.trans (hV.mono hBw7.size)))
  have HEND7 := Lib.hid (fun V (hV : Below w7.heap.size w7 V) => HEND.out V (hBw7.trans (hV.mono hBw7.size)))
  have hB0 : Below w7.heap.size w7 w7 := Below.refl _ _
  obtain ⟨y0, x1, x2⟩ := HY7.out w7 hB0
  clear hb67 hBw7 HX2 HX3 HM2 HM3 HM1 HX1 l2 hb6 hBw6 q0 q1 q2 q3 q4 q5 yw5 hBw5 HA2 HY HZ HR HP1 HP2 HEND HLL
  generalize M.length = ml at *
  generalize w6.heap.size = g2 at *
  go_upto_region 7 with fail
  refine wp_region_held_drew (S := (fun V => V.cell? ⟨b0, 0, none⟩ = some (.slice A l.length c) ∧ V.cell? ⟨g1, 0, none⟩ = some (.slice A1 ml c1) ∧ V.cell? ⟨g2, 0, none⟩ = some (.slice A2 ml c2))) (by kernel_rfl) ?_ (fun hHeld => ?_)
  · exact ⟨y0, x1, x2⟩
  have hBd := hB0.drew
  clear hB0 y0 x1 x2
  generalize w7.drew = u0 at *
  (refine held_call 0 (some 51) 17 _ rfl (by kernel_rfl) (by rfl) ?_ ((HR7.out _ hBd)) ?_; rotate_left; rotate_left; (simp only [List.getElem?_toArray, List.getElem?_cons_zero, List.getElem?_cons_succ, Option.map_some]; refine congrArg some ?_; go_simp))
  rintro e u1 ⟨rfl, hb⟩
  have hB1 := hBd.trans (hb.mono hBd.size)
  have hs1 := HY7.out _ hB1
  refine ⟨_, rfl, hs1, fun hHeld => ?_⟩
  clear hb
  (try simp only [Act.put, List.setIfInBounds_toArray, List.set_cons_zero, List.set_cons_succ])
  refine tk 1 52 ?_
  refine tk 2 53 ?_
  refine tk 3 54 ?_
  refine tk 4 55 ?_
  refine tk 5 56 ?_
  refine tk 6 57 ?_
  refine tk 7 58 ?_
  refine tk 8 59 ?_
  refine tk 9 60 ?_
  refine tk 10 61 ?_
  refine tk 11 62 ?_
  refine tk 12 63 ?_
  refine tk 13 64 ?_
  refine tk 14 65 ?_
  refine tk 15 66 ?_
  refine tk 16 67 ?_
  refine tk 17 68 ?_
  refine tk 18 69 ?_
  refine tk 19 70 ?_
  refine tk 20 71 ?_
  (refine held_call 21 (some 72) 20 _ rfl (by kernel_rfl) (by rfl) ?_ ((HSR.out _ hB1)) ?_; rotate_left; rotate_left; (simp only [List.getElem?_toArray, List.getElem?_cons_zero, List.getElem?_cons_succ, Option.map_some]; refine congrArg some ?_; go_simp))
  rintro e u2 ⟨rfl, hb⟩
  have hB2 := hB1.trans (hb.mono hB1.size)
  have hs2 := HY7.out _ hB2
  refine ⟨_, rfl, hs2, fun hHeld => ?_⟩
  clear hb
  (try simp only [Act.put, List.setIfInBounds_toArray, List.set_cons_zero, List.set_cons_succ])
  refine tk 22 73 ?_
  refine tk 23 74 ?_
  refine tk 24 75 ?_
  refine tk 26 77 ?_
  (refine held_call 25 (some 76) 21 _ rfl (by kernel_rfl) (by rfl) ?_ ((HP17.out _ hB2)) ?_; rotate_left; rotate_left; (simp only [List.getElem?_toArray, List.getElem?_cons_zero, List.getElem?_cons_succ, Option.map_some]; refine congrArg some ?_; go_simp))
  rintro e u3 ⟨rfl, hb⟩
  have hB3 := hB2.trans (hb.mono hB2.size)
  have hs3 := HY7.out _ hB3
  refine ⟨_, rfl, hs3, fun hHeld => ?_⟩
  clear hb
  (try simp only [Act.put, List.setIfInBounds_toArray, List.set_cons_zero, List.set_cons_succ])
  (refine held_call 27 (some 78) 53 _ rfl (by kernel_rfl) (by rfl) ?_ ((HP27.out _ hB3)) ?_; rotate_left; rotate_left; (simp only [List.getElem?_toArray, List.getElem?_cons_zero, List.getElem?_cons_succ, Option.map_some]; refine congrArg some ?_; go_simp))
  rintro e u4 ⟨rfl, hb⟩
  have hB4 := hB3.trans (hb.mono hB3.size)
  have hs4 := HY7.out _ hB4
  refine ⟨_, rfl, hs4, fun hHeld => ?_⟩
  clear hb
  (try simp only [Act.put, List.setIfInBounds_toArray, List.set_cons_zero, List.set_cons_succ])
  refine tk 28 79 ?_
  refine tk 29 80 ?_
  refine tk 30 4 ?_
  refine wpAnyH_done (by kernel_rfl) ?_ _
  clear hHeld
  go_wp2
  go_ret
  exact ⟨rfl, HEND7.out _ hB4⟩
end Go.Proofs.YtkfeagokmcakgaaGreatDoor

namespace Go.Proofs.YtkfeagokmcakgaaGreatDoor
open Go.ChangeShapes Go.WideShapes Go.ChangeAt Go.RowKit Go.Deep

set_option maxHeartbeats 20000000 in
set_option maxRecDepth 100000 in
theorem checks_facts : joinedFacts Tryz.prog 10 Tryz.f10 Rows.pigmentChecksSpec Rows.pigmentChecksRow = true := by
  unfold joinedFacts
  simp only [Bool.and_eq_true]
  repeat' (refine And.intro ?_ ?_)
  all_goals (as_aux_lemma => kernel_rfl)
end Go.Proofs.YtkfeagokmcakgaaGreatDoor
