import Derived.Test.YtjgnikmnadmheaaA0
import Derived.WalkLawsBesides
import Derived.Lib.Hide
import Derived.Deep.QuietTactic
import Derived.BigQuiet
import Derived.IntWalk
namespace Go.Proofs.Ytjgnikmnadmheaa
open Go.RowKit

def okc (c : UInt8) : Bool := (decide (97 ≤ (c.toNat : Int)) && decide ((c.toNat : Int) ≤ 122)) || (decide (48 ≤ (c.toNat : Int)) && decide ((c.toNat : Int) ≤ 57)) || decide ((c.toNat : Int) = 45)
def nameB (s : ByteArray) : Bool := decide (1 ≤ s.size) && decide (s.size ≤ 24) && (match s.data.toList with | c :: _ => decide (97 ≤ (c.toNat : Int)) && decide ((c.toNat : Int) ≤ 122) | [] => false) && s.data.toList.all okc

theorem nameB_iff (s : ByteArray) : nameB s = true ↔ (1 ≤ s.size ∧ s.size ≤ 24 ∧ (∀ h : 0 < s.size, 97 ≤ (s[0].toNat : Int) ∧ (s[0].toNat : Int) ≤ 122) ∧ ∀ k (h : k < s.size), okc s[k] = true) := by
  unfold nameB
  have hsz : s.size = s.data.toList.length := by rw [Array.length_toList]; rfl
  have hget : ∀ k (h : k < s.size), s[k] = s.data.toList[k]'(by rw [← hsz]; exact h) := fun k h => rfl
  generalize hl : s.data.toList = l at *
  match l with
  | [] => simp at hsz; simp [hsz]
  | c :: r =>
    simp only [Bool.and_eq_true, decide_eq_true_eq, List.all_eq_true]
    constructor
    · rintro ⟨⟨⟨h1, h2⟩, h3⟩, h4⟩
      refine ⟨h1, h2, fun h => ?_, fun k h => ?_⟩
      · rw [hget 0 h]; exact h3
      · rw [hget k h]; exact h4 _ (List.getElem_mem _)
    · rintro ⟨h1, h2, h3, h4⟩
      refine ⟨⟨⟨h1, h2⟩, ?_⟩, fun x hx => ?_⟩
      · have := h3 (by omega); rw [hget 0 (by omega)] at this; exact this
      · obtain ⟨k, hk, rfl⟩ := List.getElem_of_mem hx
        have := h4 k (by omega); rw [hget k (by omega)] at this; exact this
def BoolEnd (b : Bool) (w : World) (e : Ending) (w' : World) : Prop := e = .returned (.bool b) ∧ w = w'
theorem bool_ret {b c : Bool} {w : World} (h : c = true ↔ b = true) : BoolEnd b w (.returned (.bool c)) w := ⟨by rw [Bool.eq_iff_iff.2 h], rfl⟩

set_option maxHeartbeats 1000000 in
theorem isName_any (s : ByteArray) (w : World) (hs : s.size ≤ 100) :
    Calls Try.prog 65 #[.string s] w (BoolEnd (nameB s) w) := by
  have HN := Lib.hid (nameB_iff s)
  by_cases hz0 : s.size = 0
  · have hz : ((s.size : Int) == 0) = true := by rw [beq_iff_eq]; omega
    have HF : Hid (¬ nameB s = true) := fun h => by have := HN.out.1 h; omega
    have hz1 : (s.size : Int) < 1 := by omega
    have HZ := Lib.hid hz0; clear hz0
    go_enter Try.func65, Try.ntmps65
    go_wp2
    all_goals
      go_ret
      exact bool_ret (by simpa using HF.out)
  have hz : ((s.size : Int) == 0) = false := by rw [beq_eq_false_iff_ne]; omega
  have hp : 1 ≤ (s.size : Int) := by omega
  have hp' : 0 < s.size := by omega
  by_cases h24 : s.size ≤ 24
  · by_cases h97 : 97 ≤ (s[0].toNat : Int)
    · by_cases h122 : (s[0].toNat : Int) ≤ 122
      · have HQ : Hid (∀ k (h : k < 0), ∀ h' : k < s.size, okc s[k] = true) := fun k h => absurd h (by omega)
        go_enter Try.func65, Try.ntmps65
        go_wp2
        go_loop [25] (fun x => ∃ k : Nat, k ≤ s.size ∧ x = .int .i64 k ∧ Hid (∀ j (h : j < k) (h' : j < s.size), okc s[j] = true)) (fun x => s.size - (intOf x).toNat)
        case atStart => exact ⟨0, by omega, rfl, HQ⟩
        case round =>
          obtain ⟨k, hk, rfl, hh⟩ := hrel
          clear HQ
          by_cases hlt : k < s.size
          · have hokc : okc s[k] = true ↔ ((97 ≤ (s[k].toNat : Int) ∧ (s[k].toNat : Int) ≤ 122) ∨ (48 ≤ (s[k].toNat : Int) ∧ (s[k].toNat : Int) ≤ 57) ∨ (s[k].toNat : Int) = 45) := by
              unfold okc; simp only [Bool.or_eq_true, Bool.and_eq_true, decide_eq_true_eq]; exact or_assoc
            have HO := Lib.hid hokc; clear hokc
            have HY : okc s[k] = true → Hid (∀ j (h : j < k + 1) (h' : j < s.size), okc s[j] = true) := fun ho j h h' => by
              by_cases e : j = k
              · subst e; exact ho
              · exact hh.out j (by omega) h'
            have HX : ¬ okc s[k] = true → ¬ nameB s = true := fun ho hn => ho ((HN.out.1 hn).2.2.2 k hlt)
            have HY' := Lib.hid HY; clear HY
            have HX' := Lib.hid HX; clear HX
            by_cases c1 : 97 ≤ (s[k].toNat : Int) <;> by_cases c2 : (s[k].toNat : Int) ≤ 122 <;> by_cases c3 : 48 ≤ (s[k].toNat : Int) <;> by_cases c4 : (s[k].toNat : Int) ≤ 57 <;> by_cases c5 : (s[k].toNat : Int) = 45
            all_goals first | (exfalso; omega) | skip
            all_goals
              first
                | (have c6 : ((s[k].toNat : Int) != 45) = false := by rw [c5]; rfl
                   have hok : okc s[k] = true := HO.out.2 (by omega)
                   have H1 := HY'.out hok
                   have C5 := Lib.hid c5
                   clear hok HO HX' HY' hh HN c5
                   go_wp2
                   go_round
                   case rel => exact ⟨k + 1, by omega, by go_num, H1⟩
                   case measure => simp [intOf]; omega)
                | (have hok : okc s[k] = true := HO.out.2 (by omega)
                   have H1 := HY'.out hok
                   have c6 : ((s[k].toNat : Int) != 45) = true := by rw [bne_iff_ne]; exact c5
                   have C5 := Lib.hid c5
                   clear hok HO HX' HY' hh HN c5
                   go_wp2
                   go_round
                   case rel => exact ⟨k + 1, by omega, by go_num, H1⟩
                   case measure => simp [intOf]; omega)
                | (have hok : ¬ okc s[k] = true := fun h => by have := HO.out.1 h; omega
                   have H1 := Lib.hid (HX'.out hok)
                   have c6 : ((s[k].toNat : Int) != 45) = true := by rw [bne_iff_ne]; exact c5
                   have C5 := Lib.hid c5
                   clear hok HO HX' HY' hh HN c5
                   go_wp2
                   go_ret
                   exact bool_ret (by simpa using H1.out))
          · obtain rfl : k = s.size := by omega
            have HT := Lib.hid (HN.out.2 ⟨by omega, h24, fun _ => ⟨h97, h122⟩, fun j hj => hh.out j hj hj⟩)
            go_wp2
            go_ret
            exact bool_ret (by simpa using HT.out)
      · have HF : Hid (¬ nameB s = true) := fun h => by have := (HN.out.1 h).2.2.1 hp'; omega
        clear HN
        go_enter Try.func65, Try.ntmps65
        go_wp2
        all_goals
          go_ret
          exact bool_ret (by simpa using HF.out)
    · have HF : Hid (¬ nameB s = true) := fun h => by have := (HN.out.1 h).2.2.1 hp'; omega
      clear HN
      go_enter Try.func65, Try.ntmps65
      go_wp2
      all_goals
        go_ret
        exact bool_ret (by simpa using HF.out)
  · have HF : Hid (¬ nameB s = true) := fun h => by have := HN.out.1 h; omega
    clear HN
    go_enter Try.func65, Try.ntmps65
    go_wp2
    all_goals
      go_ret
      exact bool_ret (by simpa using HF.out)
set_option maxHeartbeats 1000000 in
theorem rName_any (s : ByteArray) (w : World) (hs : s.size ≤ 100) :
    Calls Try.prog 68 #[.string s] w (BoolEnd (nameB s) w) := by
  have HN := Lib.hid (nameB_iff s)
  by_cases hz0 : s.size = 0
  · have hz : ((s.size : Int) == 0) = true := by rw [beq_iff_eq]; omega
    have HF : Hid (¬ nameB s = true) := fun h => by have := HN.out.1 h; omega
    have hz1 : (s.size : Int) < 1 := by omega
    have HZ := Lib.hid hz0; clear hz0
    go_enter Try.func68, Try.ntmps68
    go_wp2
    all_goals
      go_ret
      exact bool_ret (by simpa using HF.out)
  have hz : ((s.size : Int) == 0) = false := by rw [beq_eq_false_iff_ne]; omega
  have hp : 1 ≤ (s.size : Int) := by omega
  have hp' : 0 < s.size := by omega
  by_cases h24 : s.size ≤ 24
  · by_cases h97 : 97 ≤ (s[0].toNat : Int)
    · by_cases h122 : (s[0].toNat : Int) ≤ 122
      · have HQ : Hid (∀ k (h : k < 0), ∀ h' : k < s.size, okc s[k] = true) := fun k h => absurd h (by omega)
        go_enter Try.func68, Try.ntmps68
        go_wp2
        go_loop [3] (fun x => ∃ k : Nat, k ≤ s.size ∧ x = .int .i64 k ∧ Hid (∀ j (h : j < k) (h' : j < s.size), okc s[j] = true)) (fun x => s.size - (intOf x).toNat)
        case atStart => exact ⟨0, by omega, rfl, HQ⟩
        case round =>
          obtain ⟨k, hk, rfl, hh⟩ := hrel
          clear HQ
          by_cases hlt : k < s.size
          · have hokc : okc s[k] = true ↔ ((97 ≤ (s[k].toNat : Int) ∧ (s[k].toNat : Int) ≤ 122) ∨ (48 ≤ (s[k].toNat : Int) ∧ (s[k].toNat : Int) ≤ 57) ∨ (s[k].toNat : Int) = 45) := by
              unfold okc; simp only [Bool.or_eq_true, Bool.and_eq_true, decide_eq_true_eq]; exact or_assoc
            have HO := Lib.hid hokc; clear hokc
            have HY : okc s[k] = true → Hid (∀ j (h : j < k + 1) (h' : j < s.size), okc s[j] = true) := fun ho j h h' => by
              by_cases e : j = k
              · subst e; exact ho
              · exact hh.out j (by omega) h'
            have HX : ¬ okc s[k] = true → ¬ nameB s = true := fun ho hn => ho ((HN.out.1 hn).2.2.2 k hlt)
            have HY' := Lib.hid HY; clear HY
            have HX' := Lib.hid HX; clear HX
            by_cases c1 : 97 ≤ (s[k].toNat : Int) <;> by_cases c2 : (s[k].toNat : Int) ≤ 122 <;> by_cases c3 : 48 ≤ (s[k].toNat : Int) <;> by_cases c4 : (s[k].toNat : Int) ≤ 57 <;> by_cases c5 : (s[k].toNat : Int) = 45
            all_goals first | (exfalso; omega) | skip
            all_goals
              first
                | (have c6 : ((s[k].toNat : Int) != 45) = false := by rw [c5]; rfl
                   have hok : okc s[k] = true := HO.out.2 (by omega)
                   have H1 := HY'.out hok
                   have C5 := Lib.hid c5
                   clear hok HO HX' HY' hh HN c5
                   go_wp2
                   go_round
                   case rel => exact ⟨k + 1, by omega, by go_num, H1⟩
                   case measure => simp [intOf]; omega)
                | (have hok : okc s[k] = true := HO.out.2 (by omega)
                   have H1 := HY'.out hok
                   have c6 : ((s[k].toNat : Int) != 45) = true := by rw [bne_iff_ne]; exact c5
                   have C5 := Lib.hid c5
                   clear hok HO HX' HY' hh HN c5
                   go_wp2
                   go_round
                   case rel => exact ⟨k + 1, by omega, by go_num, H1⟩
                   case measure => simp [intOf]; omega)
                | (have hok : ¬ okc s[k] = true := fun h => by have := HO.out.1 h; omega
                   have H1 := Lib.hid (HX'.out hok)
                   have c6 : ((s[k].toNat : Int) != 45) = true := by rw [bne_iff_ne]; exact c5
                   have C5 := Lib.hid c5
                   clear hok HO HX' HY' hh HN c5
                   go_wp2
                   go_ret
                   exact bool_ret (by simpa using H1.out))
          · obtain rfl : k = s.size := by omega
            have HT := Lib.hid (HN.out.2 ⟨by omega, h24, fun _ => ⟨h97, h122⟩, fun j hj => hh.out j hj hj⟩)
            go_wp2
            go_ret
            exact bool_ret (by simpa using HT.out)
      · have HF : Hid (¬ nameB s = true) := fun h => by have := (HN.out.1 h).2.2.1 hp'; omega
        clear HN
        go_enter Try.func68, Try.ntmps68
        go_wp2
        all_goals
          go_ret
          exact bool_ret (by simpa using HF.out)
    · have HF : Hid (¬ nameB s = true) := fun h => by have := (HN.out.1 h).2.2.1 hp'; omega
      clear HN
      go_enter Try.func68, Try.ntmps68
      go_wp2
      all_goals
        go_ret
        exact bool_ret (by simpa using HF.out)
  · have HF : Hid (¬ nameB s = true) := fun h => by have := HN.out.1 h; omega
    clear HN
    go_enter Try.func68, Try.ntmps68
    go_wp2
    all_goals
      go_ret
      exact bool_ret (by simpa using HF.out)
end Go.Proofs.Ytjgnikmnadmheaa
