/- Words for memory that this claim's walks share: cells of a slice, a block known whole. -/
import Derived.Test.YtjgnikmnadmheaaRows
import Derived.WalkKit
import Derived.WalkSpells
import Derived.Deep.Draws
import Derived.WalkLawsBesides
import Derived.Lib.Hide
import Derived.Deep.QuietTactic
import Derived.BigQuiet
import Derived.IntWalk

namespace Go.Proofs.Ytjgnikmnadmheaa
open Go.RowKit

theorem ret_int {k : IntKind} {a b : Int} (h : a = b) : Ending.returned (.int k a) = .returned (.int k b) := by rw [h]
/-- the cells of a slice value -/
def Lies (w : World) (B : Nat) (A : Option Addr) (cs : List Value) : Prop :=
  cs ≠ [] → ∃ ad, A = some ad ∧ ad.block < B ∧ ∀ j u, cs[j]? = some u → w.cell? (ad.add j) = some u
def ints (l : List Int) : List Value := l.map (Value.int .i64)
theorem Lies.at_ {w : World} {B : Nat} {A : Option Addr} {cs : List Value} (h : Lies w B A cs) {k : Nat} (hk : k < cs.length) :
    ∃ ad u, A = some ad ∧ ad.block < B ∧ cs[k]? = some u ∧ w.cell? (ad.add k) = some u := by
  obtain ⟨ad, e, hb, hc⟩ := h (by intro e; rw [e] at hk; simp at hk)
  exact ⟨ad, cs[k], e, hb, List.getElem?_eq_getElem hk, hc k _ (List.getElem?_eq_getElem hk)⟩
theorem add_block (a : Addr) (n : Nat) : (a.add n).block = a.block := by unfold Addr.add; split <;> rfl
theorem add_add' (a : Addr) (i j : Nat) : (a.add i).add j = a.add (i + j) := by
  unfold Addr.add
  by_cases hi : i = 0 <;> by_cases hj : j = 0 <;> simp [hi, hj, Nat.add_assoc]
theorem Lies.keep {w w' : World} {B : Nat} {A : Option Addr} {cs : List Value} (h : Lies w B A cs) (hk : ∀ p : Addr, p.block < B → w'.cell? p = w.cell? p) : Lies w' B A cs :=
  fun hn => by
    obtain ⟨ad, e, hb, hc⟩ := h hn
    exact ⟨ad, e, hb, fun j u hu => (hk _ (by rw [add_block]; exact hb)).trans (hc j u hu)⟩
theorem Lies.below {w w' : World} {B B' : Nat} {A : Option Addr} {cs : List Value} (h : Lies w B A cs) (hb : Below B' w w') (hB : B ≤ B') : Lies w' B A cs :=
  h.keep fun _ hp => hb.cell (by omega)
theorem Lies.more {w : World} {B B' : Nat} {A : Option Addr} {cs : List Value} (h : Lies w B A cs) (hB : B ≤ B') : Lies w B' A cs :=
  fun hn => by obtain ⟨ad, e, hb, hc⟩ := h hn; exact ⟨ad, e, by omega, hc⟩

theorem Lies.lit {w : World} {b B : Nat} {cs : List Value} (h : ∀ j u, cs[j]? = some u → w.cell? ⟨b, j, none⟩ = some u) (hb : b < B) : Lies w B (some ⟨b, 0, none⟩) cs :=
  fun _ => ⟨_, rfl, hb, fun j u hu => by
    have e : (⟨b, 0, none⟩ : Addr).add j = ⟨b, j, none⟩ := by unfold Addr.add; split <;> simp_all
    rw [e]; exact h j u hu⟩
theorem Lies.new (w : World) (cs : Array Value) (t : TypeId) {B : Nat} (hB : w.heap.size < B) : Lies (w.alloc (.cells cs t)) B (some ⟨w.heap.size, 0, none⟩) cs.toList :=
  Lies.lit (fun j u hu => by rw [cell_of_row _ _ j cs t (0, 0) (heap_alloc_new w _)]; simpa using hu) hB

theorem Lies.fresh {w X : World} {cs : Array Value} {t : TypeId} {b B : Nat} {l : List Value} (hX : w.heap = X.heap.push (.cells cs t)) (hb : X.heap.size = b) (hB : b < B) (hl : l = cs.toList) : Lies w B (some ⟨b, 0, none⟩) l := by
  subst hb; subst hl
  refine (Lies.new X cs t hB).keep fun p _ => ?_
  unfold World.cell?
  rw [hX]; rfl


/-- block g is just the cells cs, none frozen -/
def Bk (w : World) (g : Nat) (t : TypeId) (cs : Array Value) : Prop := w.heap[g]? = some (.cells cs t (0, 0))
section
variable {w w' : World} {g : Nat} {t : TypeId} {cs : Array Value}
theorem Bk.lt (h : Bk w g t cs) : g < w.heap.size := by
  unfold Bk at h
  exact (Array.getElem?_eq_some_iff.1 h).1
theorem Bk.cell (h : Bk w g t cs) (i : Nat) {v : Value} (hv : cs[i]? = some v) : w.cell? ⟨g, i, none⟩ = some v := (cell_of_row w g i cs t (0, 0) h).trans hv
theorem Bk.fro (h : Bk w g t cs) (i : Nat) : w.frozen? ⟨g, i, none⟩ = false := by
  unfold Bk at h
  simp [World.frozen?, h]
theorem Bk.new (w : World) (t : TypeId) (cs : Array Value) : Bk (w.alloc (.cells cs t)) w.heap.size t cs := heap_alloc_new w _
theorem Bk.drew (h : Bk w g t cs) : Bk w.drew g t cs := h
theorem Bk.drewN (h : Bk w g t cs) (n : Nat) : Bk (w.drewN n) g t cs := h
theorem Bk.alloc (h : Bk w g t cs) (o : Obj) : Bk (w.alloc o) g t cs := (Below.heap_alloc w o g h.lt).trans h
theorem Bk.set (h : Bk w g t cs) (i : Nat) (u : Value) : Bk (w.setCell ⟨g, i, none⟩ u) g t (cs.setIfInBounds i u) := by
  unfold Bk at h ⊢
  simp [World.setCell, Array.getElem?_modify, h]
theorem Bk.far (h : Bk w g t cs) {p : Addr} (hp : g ≠ p.block) (u : Value) : Bk (w.setCell p u) g t cs := (Below.heap_setCell w p u g hp).trans h
theorem Bk.below {B : Nat} (h : Bk w g t cs) (hb : Below B w w') (hg : g < B) : Bk w' g t cs := (hb.block g hg).trans h
theorem Bk.grown {row : Option Nat} (h : Bk w g t cs) (hb : w.grownBy w' row) (hg : some g ≠ row) : Bk w' g t cs := (hb.block g h.lt hg).trans h
end
theorem Bk.lies {w : World} {g B : Nat} {t : TypeId} {cs : Array Value} (h : Bk w g t cs) (hB : g < B) : Lies w B (some ⟨g, 0, none⟩) cs.toList :=
  Lies.lit (fun j u hu => h.cell j (by simpa using hu)) hB
/-- what a contract's Below gives the walk: old cells and marks -/
theorem bcell {W w1 : World} {B : Nat} (hb : Below B W w1) : (∀ b o, b < B → w1.cell? ⟨b, o, none⟩ = W.cell? ⟨b, o, none⟩) ∧ (∀ b o, b < B → w1.frozen? ⟨b, o, none⟩ = W.frozen? ⟨b, o, none⟩) :=
  ⟨fun b o h => hb.cell (p := ⟨b, o, none⟩) h, fun b o h => hb.frozen (p := ⟨b, o, none⟩) h⟩
end Go.Proofs.Ytjgnikmnadmheaa

namespace Go.Proofs.Ytjgnikmnadmheaa
open Go.RowKit

def okc (c : UInt8) : Bool := (decide (97 ≤ (c.toNat : Int)) && decide ((c.toNat : Int) ≤ 122)) || (decide (48 ≤ (c.toNat : Int)) && decide ((c.toNat : Int) ≤ 57)) || decide ((c.toNat : Int) = 45)
def nameB (s : ByteArray) : Bool := decide (1 ≤ s.size) && decide (s.size ≤ 24) && (match s.data.toList with | c :: _ => decide (97 ≤ (c.toNat : Int)) && decide ((c.toNat : Int) ≤ 122) | [] => false) && s.data.toList.all okc

theorem nameB_iff (s : ByteArray) : nameB s = true ↔ (1 ≤ s.size ∧ s.size ≤ 24 ∧ (∀ h : 0 < s.size, 97 ≤ (s[0].toNat : Int) ∧ (s[0].toNat : Int) ≤ 122) ∧ ∀ k (h : k < s.size), okc s[k] = true) := by
  unfold nameB
  have hsz : s.size = s.data.toList.length := by rw [Array.length_toList]; rfl
  have hget : ∀ k (h : k < s.size), s[k] = s.data.toList[k]'(by rw [← hsz]; exact h) := fun k h => rfl
  generalize hl : s.data.toList = l at *
  match l with
  | [] => simp at hsz; simp [hsz]
  | c :: r =>
    simp only [Bool.and_eq_true, decide_eq_true_eq, List.all_eq_true]
    constructor
    · rintro ⟨⟨⟨h1, h2⟩, h3⟩, h4⟩
      refine ⟨h1, h2, fun h => ?_, fun k h => ?_⟩
      · rw [hget 0 h]; exact h3
      · rw [hget k h]; exact h4 _ (List.getElem_mem _)
    · rintro ⟨h1, h2, h3, h4⟩
      refine ⟨⟨⟨h1, h2⟩, ?_⟩, fun x hx => ?_⟩
      · have := h3 (by omega); rw [hget 0 (by omega)] at this; exact this
      · obtain ⟨k, hk, rfl⟩ := List.getElem_of_mem hx
        have := h4 k (by omega); rw [hget k (by omega)] at this; exact this
def BoolEnd (b : Bool) (w : World) (e : Ending) (w' : World) : Prop := e = .returned (.bool b) ∧ w = w'
theorem bool_ret {b c : Bool} {w : World} (h : c = true ↔ b = true) : BoolEnd b w (.returned (.bool c)) w := ⟨by rw [Bool.eq_iff_iff.2 h], rfl⟩

set_option maxHeartbeats 1000000 in
theorem isName_any (s : ByteArray) (w : World) (hs : s.size ≤ 100) :
    Calls Try.prog 65 #[.string s] w (BoolEnd (nameB s) w) := by
  have HN := Lib.hid (nameB_iff s)
  by_cases hz0 : s.size = 0
  · have hz : ((s.size : Int) == 0) = true := by rw [beq_iff_eq]; omega
    have HF : Hid (¬ nameB s = true) := fun h => by have := HN.out.1 h; omega
    have hz1 : (s.size : Int) < 1 := by omega
    have HZ := Lib.hid hz0; clear hz0
    go_enter Try.func65, Try.ntmps65
    go_wp2
    all_goals
      go_ret
      exact bool_ret (by simpa using HF.out)
  have hz : ((s.size : Int) == 0) = false := by rw [beq_eq_false_iff_ne]; omega
  have hp : 1 ≤ (s.size : Int) := by omega
  have hp' : 0 < s.size := by omega
  by_cases h24 : s.size ≤ 24
  · by_cases h97 : 97 ≤ (s[0].toNat : Int)
    · by_cases h122 : (s[0].toNat : Int) ≤ 122
      · have HQ : Hid (∀ k (h : k < 0), ∀ h' : k < s.size, okc s[k] = true) := fun k h => absurd h (by omega)
        go_enter Try.func65, Try.ntmps65
        go_wp2
        go_loop [25] (fun x => ∃ k : Nat, k ≤ s.size ∧ x = .int .i64 k ∧ Hid (∀ j (h : j < k) (h' : j < s.size), okc s[j] = true)) (fun x => s.size - (intOf x).toNat)
        case atStart => exact ⟨0, by omega, rfl, HQ⟩
        case round =>
          obtain ⟨k, hk, rfl, hh⟩ := hrel
          clear HQ
          by_cases hlt : k < s.size
          · have hokc : okc s[k] = true ↔ ((97 ≤ (s[k].toNat : Int) ∧ (s[k].toNat : Int) ≤ 122) ∨ (48 ≤ (s[k].toNat : Int) ∧ (s[k].toNat : Int) ≤ 57) ∨ (s[k].toNat : Int) = 45) := by
              unfold okc; simp only [Bool.or_eq_true, Bool.and_eq_true, decide_eq_true_eq]; exact or_assoc
            have HO := Lib.hid hokc; clear hokc
            have HY : okc s[k] = true → Hid (∀ j (h : j < k + 1) (h' : j < s.size), okc s[j] = true) := fun ho j h h' => by
              by_cases e : j = k
              · subst e; exact ho
              · exact hh.out j (by omega) h'
            have HX : ¬ okc s[k] = true → ¬ nameB s = true := fun ho hn => ho ((HN.out.1 hn).2.2.2 k hlt)
            have HY' := Lib.hid HY; clear HY
            have HX' := Lib.hid HX; clear HX
            by_cases c1 : 97 ≤ (s[k].toNat : Int) <;> by_cases c2 : (s[k].toNat : Int) ≤ 122 <;> by_cases c3 : 48 ≤ (s[k].toNat : Int) <;> by_cases c4 : (s[k].toNat : Int) ≤ 57 <;> by_cases c5 : (s[k].toNat : Int) = 45
            all_goals first | (exfalso; omega) | skip
            all_goals
              first
                | (have c6 : ((s[k].toNat : Int) != 45) = false := by rw [c5]; rfl
                   have hok : okc s[k] = true := HO.out.2 (by omega)
                   have H1 := HY'.out hok
                   have C5 := Lib.hid c5
                   clear hok HO HX' HY' hh HN c5
                   go_wp2
                   go_round
                   case rel => exact ⟨k + 1, by omega, by go_num, H1⟩
                   case measure => simp [intOf]; omega)
                | (have hok : okc s[k] = true := HO.out.2 (by omega)
                   have H1 := HY'.out hok
                   have c6 : ((s[k].toNat : Int) != 45) = true := by rw [bne_iff_ne]; exact c5
                   have C5 := Lib.hid c5
                   clear hok HO HX' HY' hh HN c5
                   go_wp2
                   go_round
                   case rel => exact ⟨k + 1, by omega, by go_num, H1⟩
                   case measure => simp [intOf]; omega)
                | (have hok : ¬ okc s[k] = true := fun h => by have := HO.out.1 h; omega
                   have H1 := Lib.hid (HX'.out hok)
                   have c6 : ((s[k].toNat : Int) != 45) = true := by rw [bne_iff_ne]; exact c5
                   have C5 := Lib.hid c5
                   clear hok HO HX' HY' hh HN c5
                   go_wp2
                   go_ret
                   exact bool_ret (by simpa using H1.out))
          · obtain rfl : k = s.size := by omega
            have HT := Lib.hid (HN.out.2 ⟨by omega, h24, fun _ => ⟨h97, h122⟩, fun j hj => hh.out j hj hj⟩)
            go_wp2
            go_ret
            exact bool_ret (by simpa using HT.out)
      · have HF : Hid (¬ nameB s = true) := fun h => by have := (HN.out.1 h).2.2.1 hp'; omega
        clear HN
        go_enter Try.func65, Try.ntmps65
        go_wp2
        all_goals
          go_ret
          exact bool_ret (by simpa using HF.out)
    · have HF : Hid (¬ nameB s = true) := fun h => by have := (HN.out.1 h).2.2.1 hp'; omega
      clear HN
      go_enter Try.func65, Try.ntmps65
      go_wp2
      all_goals
        go_ret
        exact bool_ret (by simpa using HF.out)
  · have HF : Hid (¬ nameB s = true) := fun h => by have := HN.out.1 h; omega
    clear HN
    go_enter Try.func65, Try.ntmps65
    go_wp2
    all_goals
      go_ret
      exact bool_ret (by simpa using HF.out)
set_option maxHeartbeats 1000000 in
theorem rName_any (s : ByteArray) (w : World) (hs : s.size ≤ 100) :
    Calls Try.prog 68 #[.string s] w (BoolEnd (nameB s) w) := by
  have HN := Lib.hid (nameB_iff s)
  by_cases hz0 : s.size = 0
  · have hz : ((s.size : Int) == 0) = true := by rw [beq_iff_eq]; omega
    have HF : Hid (¬ nameB s = true) := fun h => by have := HN.out.1 h; omega
    have hz1 : (s.size : Int) < 1 := by omega
    have HZ := Lib.hid hz0; clear hz0
    go_enter Try.func68, Try.ntmps68
    go_wp2
    all_goals
      go_ret
      exact bool_ret (by simpa using HF.out)
  have hz : ((s.size : Int) == 0) = false := by rw [beq_eq_false_iff_ne]; omega
  have hp : 1 ≤ (s.size : Int) := by omega
  have hp' : 0 < s.size := by omega
  by_cases h24 : s.size ≤ 24
  · by_cases h97 : 97 ≤ (s[0].toNat : Int)
    · by_cases h122 : (s[0].toNat : Int) ≤ 122
      · have HQ : Hid (∀ k (h : k < 0), ∀ h' : k < s.size, okc s[k] = true) := fun k h => absurd h (by omega)
        go_enter Try.func68, Try.ntmps68
        go_wp2
        go_loop [3] (fun x => ∃ k : Nat, k ≤ s.size ∧ x = .int .i64 k ∧ Hid (∀ j (h : j < k) (h' : j < s.size), okc s[j] = true)) (fun x => s.size - (intOf x).toNat)
        case atStart => exact ⟨0, by omega, rfl, HQ⟩
        case round =>
          obtain ⟨k, hk, rfl, hh⟩ := hrel
          clear HQ
          by_cases hlt : k < s.size
          · have hokc : okc s[k] = true ↔ ((97 ≤ (s[k].toNat : Int) ∧ (s[k].toNat : Int) ≤ 122) ∨ (48 ≤ (s[k].toNat : Int) ∧ (s[k].toNat : Int) ≤ 57) ∨ (s[k].toNat : Int) = 45) := by
              unfold okc; simp only [Bool.or_eq_true, Bool.and_eq_true, decide_eq_true_eq]; exact or_assoc
            have HO := Lib.hid hokc; clear hokc
            have HY : okc s[k] = true → Hid (∀ j (h : j < k + 1) (h' : j < s.size), okc s[j] = true) := fun ho j h h' => by
              by_cases e : j = k
              · subst e; exact ho
              · exact hh.out j (by omega) h'
            have HX : ¬ okc s[k] = true → ¬ nameB s = true := fun ho hn => ho ((HN.out.1 hn).2.2.2 k hlt)
            have HY' := Lib.hid HY; clear HY
            have HX' := Lib.hid HX; clear HX
            by_cases c1 : 97 ≤ (s[k].toNat : Int) <;> by_cases c2 : (s[k].toNat : Int) ≤ 122 <;> by_cases c3 : 48 ≤ (s[k].toNat : Int) <;> by_cases c4 : (s[k].toNat : Int) ≤ 57 <;> by_cases c5 : (s[k].toNat : Int) = 45
            all_goals first | (exfalso; omega) | skip
            all_goals
              first
                | (have c6 : ((s[k].toNat : Int) != 45) = false := by rw [c5]; rfl
                   have hok : okc s[k] = true := HO.out.2 (by omega)
                   have H1 := HY'.out hok
                   have C5 := Lib.hid c5
                   clear hok HO HX' HY' hh HN c5
                   go_wp2
                   go_round
                   case rel => exact ⟨k + 1, by omega, by go_num, H1⟩
                   case measure => simp [intOf]; omega)
                | (have hok : okc s[k] = true := HO.out.2 (by omega)
                   have H1 := HY'.out hok
                   have c6 : ((s[k].toNat : Int) != 45) = true := by rw [bne_iff_ne]; exact c5
                   have C5 := Lib.hid c5
                   clear hok HO HX' HY' hh HN c5
                   go_wp2
                   go_round
                   case rel => exact ⟨k + 1, by omega, by go_num, H1⟩
                   case measure => simp [intOf]; omega)
                | (have hok : ¬ okc s[k] = true := fun h => by have := HO.out.1 h; omega
                   have H1 := Lib.hid (HX'.out hok)
                   have c6 : ((s[k].toNat : Int) != 45) = true := by rw [bne_iff_ne]; exact c5
                   have C5 := Lib.hid c5
                   clear hok HO HX' HY' hh HN c5
                   go_wp2
                   go_ret
                   exact bool_ret (by simpa using H1.out))
          · obtain rfl : k = s.size := by omega
            have HT := Lib.hid (HN.out.2 ⟨by omega, h24, fun _ => ⟨h97, h122⟩, fun j hj => hh.out j hj hj⟩)
            go_wp2
            go_ret
            exact bool_ret (by simpa using HT.out)
      · have HF : Hid (¬ nameB s = true) := fun h => by have := (HN.out.1 h).2.2.1 hp'; omega
        clear HN
        go_enter Try.func68, Try.ntmps68
        go_wp2
        all_goals
          go_ret
          exact bool_ret (by simpa using HF.out)
    · have HF : Hid (¬ nameB s = true) := fun h => by have := (HN.out.1 h).2.2.1 hp'; omega
      clear HN
      go_enter Try.func68, Try.ntmps68
      go_wp2
      all_goals
        go_ret
        exact bool_ret (by simpa using HF.out)
  · have HF : Hid (¬ nameB s = true) := fun h => by have := HN.out.1 h; omega
    clear HN
    go_enter Try.func68, Try.ntmps68
    go_wp2
    all_goals
      go_ret
      exact bool_ret (by simpa using HF.out)
end Go.Proofs.Ytjgnikmnadmheaa

namespace Go.Proofs.Ytjgnikmnadmheaa
open Go.RowKit

def inB (x a b : Int) : Bool := decide (a ≤ x) && decide (x ≤ b)
set_option maxHeartbeats 400000 in
theorem in_any (x a b : Int) (w : World) : Calls Try.prog 66 #[.int .i64 x, .int .i64 a, .int .i64 b] w (BoolEnd (inB x a b) w) := by
  unfold inB BoolEnd
  by_cases h1 : a ≤ x <;> by_cases h2 : x ≤ b
  all_goals
    go_enter Try.func66, Try.ntmps66
    go_wp2
    go_ret
    simp [h1, h2]
set_option maxHeartbeats 400000 in
theorem within_any (x a b : Int) (w : World) : Calls Try.prog 69 #[.int .i64 x, .int .i64 a, .int .i64 b] w (BoolEnd (inB x a b) w) := by
  unfold inB BoolEnd
  by_cases h1 : a ≤ x <;> by_cases h2 : x ≤ b
  all_goals
    go_enter Try.func69, Try.ntmps69
    go_wp2
    go_ret
    simp [h1, h2]
set_option maxHeartbeats 400000 in
theorem isDay_any (x : Int) (w : World) : Calls Try.prog 81 #[.int .i64 x] w (BoolEnd (inB x 0 100000) w) := by
  go_enter Try.func81, Try.ntmps81
  go_wp2_with (go_at_call 69; refine (within_any _ _ _ _).mono ?_; rintro e w' ⟨rfl, rfl⟩)
  go_ret
  exact ⟨rfl, rfl⟩

/-- strictly ascending -/
def risingB : List Int → Bool
  | a :: b :: l => decide (a < b) && risingB (b :: l)
  | _ => true
theorem risingB_iff : ∀ l : List Int, risingB l = true ↔ ∀ k (h : k + 1 < l.length), l[k]'(by omega) < l[k + 1]
  | [] => by simp [risingB]
  | [a] => by simp [risingB]
  | a :: b :: l => by
    have ih := risingB_iff (b :: l)
    simp only [risingB, Bool.and_eq_true, decide_eq_true_eq, ih]
    constructor
    · rintro ⟨h1, h2⟩ k hk
      cases k with
      | zero => exact h1
      | succ k => exact h2 k (by simpa using hk)
    · intro h
      exact ⟨h 0 (by simp), fun k hk => h (k + 1) (by simpa using hk)⟩
theorem int_at {w : World} {B : Nat} {A : Option Addr} {l : List Int} (h : Lies w B A (ints l)) {k : Nat} (hk : k < l.length) :
    ∃ ad, A = some ad ∧ ad.block < B ∧ w.cell? (ad.add k) = some (.int .i64 l[k]) := by
  obtain ⟨ad, u, e, hb, hu, hc⟩ := h.at_ (k := k) (by simpa [ints] using hk)
  refine ⟨ad, e, hb, ?_⟩
  rw [hc]
  simp [ints, List.getElem?_eq_getElem hk] at hu
  rw [hu]
theorem int_at2 {w : World} {B : Nat} {A : Option Addr} {l : List Int} (h : Lies w B A (ints l)) {k j : Nat} (hk : k < l.length) (hj : j < l.length) :
    ∃ ad, A = some ad ∧ ad.block < B ∧ w.cell? (ad.add k) = some (.int .i64 l[k]) ∧ w.cell? (ad.add j) = some (.int .i64 l[j]) := by
  obtain ⟨ad, e, hb, hc⟩ := int_at h hk
  obtain ⟨ad2, e2, _, hc2⟩ := int_at h hj
  rw [e] at e2; cases e2
  exact ⟨ad, e, hb, hc, hc2⟩

set_option maxHeartbeats 1000000 in
theorem rising_any (l : List Int) (A : Option Addr) (c : Nat) (w : World) (hl : Lies w w.heap.size A (ints l)) (hm : l.length ≤ 1000) :
    Calls Try.prog 67 #[.slice A l.length c] w fun e w' => e = .returned (.bool (risingB l)) ∧ Below w.heap.size w w' := by
  have HR := Lib.hid (risingB_iff l)
  go_enter Try.func67, Try.ntmps67
  go_wp2
  go_loopw [3] (fun y wr => ∃ k : Nat, 1 ≤ k ∧ (k ≤ l.length ∨ k = 1) ∧ y = .int .i64 k ∧ Hid (∀ j (hj : j + 1 < k) (h' : j + 1 < l.length), l[j]'(by omega) < l[j + 1]) ∧ Below w.heap.size w wr) (fun y _ => l.length - (intOf y).toNat)
  case atStart => exact ⟨1, by omega, .inr rfl, rfl, fun j hj => absurd hj (by omega), Below.refl _ _⟩
  case round =>
    obtain ⟨k, hk1, hk, rfl, hg, hbw⟩ := hrel
    have hbs := hbw.size
    by_cases hlt : k < l.length
    · obtain ⟨ad, rfl, hadb, c0, c1⟩ := int_at2 (hl.below hbw (Nat.le_refl _)) (k := k - 1) (j := k) (by omega) hlt
      have hkm : ((k : Int) - 1).toNat = k - 1 := by omega
      have hkp : 0 ≤ (k : Int) - 1 := by omega
      have hkq : (k : Int) - 1 < (l.length : Int) := by omega
      clear hl
      obtain ⟨x, hx⟩ : ∃ x, x = l[k - 1]'(by omega) := ⟨_, rfl⟩
      obtain ⟨y, hy⟩ : ∃ y, y = l[k] := ⟨_, rfl⟩
      rw [← hx] at c0
      rw [← hy] at c1
      by_cases h0 : y ≤ x
      · have H : Hid (risingB l = false) := by
          show _ = _
          rw [← Bool.not_eq_true]
          intro h
          have := HR.out.1 h (k - 1) (by omega)
          rw [← hx] at this
          have e : l[k - 1 + 1]'(by omega) = y := by rw [hy]; congr 1; omega
          rw [e] at this; omega
        have HX := Lib.hid hx; have HY := Lib.hid hy; clear hx hy hk
        go_wp2
        go_quiet (fail)
        go_wp2
        go_ret
        refine ⟨congrArg (fun b => Ending.returned (.bool b)) H.out.symm, ?_⟩
        exact (by repeat (first | with_reducible exact Below.refl _ _ | with_reducible assumption | with_reducible refine Below.drew ?_ | with_reducible refine below_drewN ?_ _ | (with_reducible refine Below.alloc ?_ ?_ _; rotate_left; (try simp) <;> omega) | (with_reducible refine Below.setCell ?_ ?_ _; rotate_left; (try simp) <;> omega)))
      · have h0' : x < y := by omega
        have H : Hid (∀ j (hj : j + 1 < k + 1) (h' : j + 1 < l.length), l[j]'(by omega) < l[j + 1]) := fun j hj h' => by
          by_cases e : j + 1 = k
          · subst e
            have e2 : l[j + 1 - 1]'(by omega) = l[j]'(by omega) := by congr 1
            rw [e2] at hx
            rw [← hx, ← hy]; exact h0'
          · exact hg.out j (by omega) h'
        have HX := Lib.hid hx; have HY := Lib.hid hy; clear hx hy hk
        go_wp2
        go_quiet (fail)
        go_wp2
        go_roundw
        case rel => exact ⟨k + 1, by omega, .inl (by omega), by go_num, H, by exact (by repeat (first | with_reducible exact Below.refl _ _ | with_reducible assumption | with_reducible refine Below.drew ?_ | with_reducible refine below_drewN ?_ _ | (with_reducible refine Below.alloc ?_ ?_ _; rotate_left; (try simp) <;> omega) | (with_reducible refine Below.setCell ?_ ?_ _; rotate_left; (try simp) <;> omega)))⟩
        case measure => simp [intOf]; omega
    · have H : Hid (risingB l = true) := HR.out.2 fun j hj => hg.out j (by omega) hj
      have hge : (l.length : Int) ≤ (k : Int) := by omega
      clear hk
      go_wp2
      go_ret
      exact ⟨congrArg (fun b => Ending.returned (.bool b)) H.out.symm, hbw⟩
end Go.Proofs.Ytjgnikmnadmheaa

namespace Go.Proofs.Ytjgnikmnadmheaa
open Go.RowKit

theorem add_rec (a : Addr) (i j : Nat) (hj : 0 < j) : a.add (i + j) = ⟨(a.add i).block, (a.add i).off + j, none⟩ := by
  rw [← add_add']; unfold Addr.add; rw [if_neg (by omega)]

/-- rows of records: element j of record k -/
theorem flat_at {α : Type} (f : α → List Value) (n : Nat) (hf : ∀ x, (f x).length = n) : ∀ (l : List α) (k : Nat) (hk : k < l.length) (j : Nat), j < n → (l.flatMap f)[k * n + j]? = (f l[k])[j]?
  | [], k, hk, _, _ => absurd hk (by simp)
  | x :: l, 0, _, j, hj => by simp only [List.flatMap_cons]; rw [List.getElem?_append_left (by rw [hf]; omega)]; simp
  | x :: l, k + 1, hk, j, hj => by
    simp only [List.flatMap_cons]
    rw [List.getElem?_append_right (by rw [hf, Nat.add_mul]; omega), hf]
    rw [show (k + 1) * n + j - n = k * n + j by rw [Nat.add_mul]; omega, flat_at f n hf l k (by simpa using hk) j hj]
    simp
theorem flat_length {α : Type} (f : α → List Value) (n : Nat) (hf : ∀ x, (f x).length = n) (l : List α) : (l.flatMap f).length = l.length * n := by
  induction l with
  | nil => simp
  | cons x l ih => simp only [List.flatMap_cons, List.length_append, List.length_cons, hf, ih]; rw [Nat.add_mul]; omega
theorem Lies.rec_at {α : Type} {f : α → List Value} {n : Nat} (hf : ∀ x, (f x).length = n) {w : World} {B : Nat} {A : Option Addr} {l : List α} (h : Lies w B A (l.flatMap f)) (hn : 0 < n) {k : Nat} (hk : k < l.length) :
    ∃ ad, A = some ad ∧ ad.block < B ∧ ∀ j v, (f l[k])[j]? = some v → w.cell? (ad.add (k * n + j)) = some v := by
  have hlen := flat_length f n hf l
  have hpos : 0 < l.length * n := Nat.mul_pos (by omega) hn
  obtain ⟨ad, e, hb, hc⟩ := h (by intro e; rw [e] at hlen; simp at hlen; omega)
  refine ⟨ad, e, hb, fun j v hv => hc _ _ ?_⟩
  have hj : j < n := by rw [← hf l[k]]; exact (List.getElem?_eq_some_iff.1 hv).1
  rw [flat_at f n hf l k hk j hj]; exact hv

structure Pit where
  s : Int
  a : Int
  b : Int
structure Mas where
  name : ByteArray
  f : Int
  u : Int
  k : Int
abbrev Pit.cells (p : Pit) : List Value := [.int .i64 p.s, .int .i64 p.a, .int .i64 p.b]
abbrev Mas.cells (m : Mas) : List Value := [.string m.name, .int .i64 m.f, .int .i64 m.u, .int .i64 m.k]
abbrev Pit.agg (p : Pit) : Value := .agg #[.int .i64 p.s, .int .i64 p.a, .int .i64 p.b]
abbrev Mas.agg (m : Mas) : Value := .agg #[.string m.name, .int .i64 m.f, .int .i64 m.u, .int .i64 m.k]
def pitsC (l : List Pit) : List Value := l.flatMap Pit.cells
def massC (l : List Mas) : List Value := l.flatMap Mas.cells
theorem pit_at {w : World} {B : Nat} {A : Option Addr} {l : List Pit} (h : Lies w B A (pitsC l)) {k : Nat} (hk : k < l.length) :
    ∃ ad, A = some ad ∧ ad.block < B ∧ w.cell? (ad.add (k * 3)) = some (.int .i64 l[k].s) ∧ w.cell? ⟨(ad.add (k * 3)).block, (ad.add (k * 3)).off + 1, none⟩ = some (.int .i64 l[k].a) ∧ w.cell? ⟨(ad.add (k * 3)).block, (ad.add (k * 3)).off + 2, none⟩ = some (.int .i64 l[k].b) := by
  obtain ⟨ad, e, hb, hc⟩ := Lies.rec_at (f := Pit.cells) (n := 3) (fun _ => rfl) h (by omega) hk
  refine ⟨ad, e, hb, hc 0 _ rfl, ?_, ?_⟩
  · rw [← add_rec _ _ _ (by omega)]; exact hc 1 _ rfl
  · rw [← add_rec _ _ _ (by omega)]; exact hc 2 _ rfl
theorem mas_at {w : World} {B : Nat} {A : Option Addr} {l : List Mas} (h : Lies w B A (massC l)) {k : Nat} (hk : k < l.length) :
    ∃ ad, A = some ad ∧ ad.block < B ∧ w.cell? (ad.add (k * 4)) = some (.string l[k].name) ∧ w.cell? ⟨(ad.add (k * 4)).block, (ad.add (k * 4)).off + 1, none⟩ = some (.int .i64 l[k].f) ∧ w.cell? ⟨(ad.add (k * 4)).block, (ad.add (k * 4)).off + 2, none⟩ = some (.int .i64 l[k].u)
      ∧ w.cell? ⟨(ad.add (k * 4)).block, (ad.add (k * 4)).off + 3, none⟩ = some (.int .i64 l[k].k) := by
  obtain ⟨ad, e, hb, hc⟩ := Lies.rec_at (f := Mas.cells) (n := 4) (fun _ => rfl) h (by omega) hk
  refine ⟨ad, e, hb, hc 0 _ rfl, ?_, ?_, ?_⟩
  · rw [← add_rec _ _ _ (by omega)]; exact hc 1 _ rfl
  · rw [← add_rec _ _ _ (by omega)]; exact hc 2 _ rfl
  · rw [← add_rec _ _ _ (by omega)]; exact hc 3 _ rfl

/-- a yard -/
structure Yd where
  se : Nat → Int
  cl : List Int
  pi : List Pit
  ma : List Mas
  dry : Int
/-- the cells of a yard's value, and where its lists lie -/
structure YardAt (w : World) (B : Nat) (C : Array Value) (Y : Yd) : Prop where
  size : C.size = 28
  se : ∀ k, k < 24 → C[k]? = some (.int .i64 (Y.se k))
  cl : ∃ A c, C[24]? = some (.slice A Y.cl.length c) ∧ Lies w B A (ints Y.cl)
  pi : ∃ A c, C[25]? = some (.slice A Y.pi.length c) ∧ Lies w B A (pitsC Y.pi)
  ma : ∃ A c, C[26]? = some (.slice A Y.ma.length c) ∧ Lies w B A (massC Y.ma)
  dry : C[27]? = some (.int .i64 Y.dry)
theorem YardAt.below {w w' : World} {B B' : Nat} {C : Array Value} {Y : Yd} (h : YardAt w B C Y) (hb : Below B' w w') (hB : B ≤ B') : YardAt w' B C Y :=
  ⟨h.size, h.se, by obtain ⟨A, c, h1, h2⟩ := h.cl; exact ⟨A, c, h1, h2.below hb hB⟩, by obtain ⟨A, c, h1, h2⟩ := h.pi; exact ⟨A, c, h1, h2.below hb hB⟩, by obtain ⟨A, c, h1, h2⟩ := h.ma; exact ⟨A, c, h1, h2.below hb hB⟩, h.dry⟩
theorem YardAt.more {w : World} {B B' : Nat} {C : Array Value} {Y : Yd} (h : YardAt w B C Y) (hB : B ≤ B') : YardAt w B' C Y :=
  ⟨h.size, h.se, by obtain ⟨A, c, h1, h2⟩ := h.cl; exact ⟨A, c, h1, h2.more hB⟩, by obtain ⟨A, c, h1, h2⟩ := h.pi; exact ⟨A, c, h1, h2.more hB⟩, by obtain ⟨A, c, h1, h2⟩ := h.ma; exact ⟨A, c, h1, h2.more hB⟩, h.dry⟩

def seasB (se : Nat → Int) (k : Nat) : Bool := inB (se (2 * k)) 0 1440 && inB (se (2 * k + 1)) 0 1440
def pitB (p : Pit) : Bool := inB p.s 0 100000 && inB p.a 0 10000 && inB p.b 1 100
def masB (m : Mas) : Bool := decide (0 ≤ m.f) && decide (m.f < m.u) && decide (m.u ≤ 100001) && inB m.k 1 9
def dayB (d : Int) : Bool := inB d 0 100000
def badName (m : Mas) : Bool := !nameB m.name
def fineY (Y : Yd) : Bool := inB Y.dry 0 30 && risingB Y.cl && (List.range 12).all (seasB Y.se) && Y.cl.all dayB && Y.pi.all pitB && Y.ma.all masB
def chkY (Y : Yd) : Int := if 200 < Y.cl.length ∨ 8 < Y.pi.length ∨ 12 < Y.ma.length then 2 else if Y.ma.any badName = true then 4 else if fineY Y = true then 0 else 1
def IntEnd (n : Int) (w : World) (e : Ending) (w' : World) : Prop := e = .returned (.int .i64 n) ∧ Below w.heap.size w w'
theorem int_end {m n : Int} {w w' : World} (h : m = n) (hb : Below w.heap.size w w') : IntEnd n w (.returned (.int .i64 m)) w' := ⟨by rw [h], hb⟩
def ShEnd (b : Bool) (w : World) (e : Ending) (w' : World) : Prop := e = .returned (.bool b) ∧ Below w.heap.size w w'
theorem sh_ret {a b : Bool} {w w' : World} (h : a = b) (hb : Below w.heap.size w w') : ShEnd b w (.returned (.bool a)) w' := ⟨by rw [h], hb⟩
theorem all_take {α : Type} (p : α → Bool) (l : List α) (k : Nat) (hk : k < l.length) : (l.take (k + 1)).all p = ((l.take k).all p && p l[k]) := by
  rw [List.take_succ_eq_append_getElem hk, List.all_append]; simp only [List.all_cons, List.all_nil, Bool.and_true]
theorem all_range (p : Nat → Bool) (k : Nat) : (List.range (k + 1)).all p = ((List.range k).all p && p k) := by
  rw [List.range_succ]; simp
end Go.Proofs.Ytjgnikmnadmheaa

namespace Go.Proofs.Ytjgnikmnadmheaa
open Go.RowKit

def idxL {α : Type} (p : α → Bool) (l : List α) : Int := match l.findIdx? p with | some i => (i : Int) | none => -1
theorem idxL_drop {α : Type} (p : α → Bool) (l : List α) (k : Nat) (hk : k ≤ l.length) (h : ∀ j (hj : j < k) (h' : j < l.length), p l[j] = false) (hp : k = l.length ∨ ∃ h : k < l.length, p l[k] = true) :
    idxL p l = if k < l.length then (k : Int) else -1 := by
  unfold idxL
  rcases hp with rfl | ⟨hlt, hp⟩
  · have : l.findIdx? p = none := by
      rw [List.findIdx?_eq_none_iff]; intro x hx
      obtain ⟨j, hj, rfl⟩ := List.getElem_of_mem hx
      exact h j hj hj
    rw [this]; simp
  · have : l.findIdx? p = some k := by
      rw [List.findIdx?_eq_some_iff_getElem]
      exact ⟨hlt, hp, fun j hj => by simpa using h j hj (by omega)⟩
    rw [this]; simp [hlt]
theorem idxL_any {α : Type} (p : α → Bool) (l : List α) : (0 ≤ idxL p l) = (l.any p = true) := by
  unfold idxL
  cases h : l.findIdx? p with
  | none => 
    have := List.findIdx?_eq_none_iff.1 h
    simp; exact fun x hx => by simpa using this x hx
  | some i =>
    obtain ⟨hi, hp, _⟩ := List.findIdx?_eq_some_iff_getElem.1 h
    simp
    exact ⟨_, List.getElem_mem hi, hp⟩
theorem idxL_dec {α : Type} (p : α → Bool) (l : List α) : decide (0 ≤ idxL p l) = l.any p := by rw [Bool.eq_iff_iff, decide_eq_true_iff, idxL_any]

/-- tasks: data, and where their lists lie -/
structure Tk where
  work : Int
  need : Int
  aA : Option Addr
  ac : Nat
  af : List Int
  cA : Option Addr
  cc : Nat
  co : List ByteArray
abbrev Tk.cells (t : Tk) : List Value := [.int .i64 t.work, .int .i64 t.need, .slice t.aA t.af.length t.ac, .slice t.cA t.co.length t.cc]
abbrev Tk.agg (t : Tk) : Value := .agg #[.int .i64 t.work, .int .i64 t.need, .slice t.aA t.af.length t.ac, .slice t.cA t.co.length t.cc]
def tasksC (l : List Tk) : List Value := l.flatMap Tk.cells
def strsC (l : List ByteArray) : List Value := l.map Value.string
structure TasksAt (w : World) (B : Nat) (A : Option Addr) (l : List Tk) : Prop where
  at_ : Lies w B A (tasksC l)
  af : ∀ t ∈ l, Lies w B t.aA (ints t.af)
  co : ∀ t ∈ l, Lies w B t.cA (strsC t.co)
theorem TasksAt.below {w w' : World} {B B' : Nat} {A : Option Addr} {l : List Tk} (h : TasksAt w B A l) (hb : Below B' w w') (hB : B ≤ B') : TasksAt w' B A l :=
  ⟨h.at_.below hb hB, fun t ht => (h.af t ht).below hb hB, fun t ht => (h.co t ht).below hb hB⟩
theorem TasksAt.more {w : World} {B B' : Nat} {A : Option Addr} {l : List Tk} (h : TasksAt w B A l) (hB : B ≤ B') : TasksAt w B' A l :=
  ⟨h.at_.more hB, fun t ht => (h.af t ht).more hB, fun t ht => (h.co t ht).more hB⟩
theorem task_at {w : World} {B : Nat} {A : Option Addr} {l : List Tk} (h : Lies w B A (tasksC l)) {k : Nat} (hk : k < l.length) :
    ∃ ad, A = some ad ∧ ad.block < B ∧ w.cell? (ad.add (k * 4)) = some (.int .i64 l[k].work) ∧ w.cell? ⟨(ad.add (k * 4)).block, (ad.add (k * 4)).off + 1, none⟩ = some (.int .i64 l[k].need) ∧ w.cell? ⟨(ad.add (k * 4)).block, (ad.add (k * 4)).off + 2, none⟩ = some (.slice l[k].aA l[k].af.length l[k].ac)
      ∧ w.cell? ⟨(ad.add (k * 4)).block, (ad.add (k * 4)).off + 3, none⟩ = some (.slice l[k].cA l[k].co.length l[k].cc) := by
  obtain ⟨ad, e, hb, hc⟩ := Lies.rec_at (f := Tk.cells) (n := 4) (fun _ => rfl) h (by omega) hk
  refine ⟨ad, e, hb, hc 0 _ rfl, ?_, ?_, ?_⟩
  · rw [← add_rec _ _ _ (by omega)]; exact hc 1 _ rfl
  · rw [← add_rec _ _ _ (by omega)]; exact hc 2 _ rfl
  · rw [← add_rec _ _ _ (by omega)]; exact hc 3 _ rfl
theorem str_at {w : World} {B : Nat} {A : Option Addr} {l : List ByteArray} (h : Lies w B A (strsC l)) {k : Nat} (hk : k < l.length) :
    ∃ ad, A = some ad ∧ ad.block < B ∧ w.cell? (ad.add k) = some (.string l[k]) := by
  obtain ⟨ad, u, e, hb, hu, hc⟩ := h.at_ (k := k) (by simpa [strsC] using hk)
  refine ⟨ad, e, hb, ?_⟩
  rw [hc]
  simp [strsC, List.getElem?_eq_getElem hk] at hu
  rw [hu]

set_option maxHeartbeats 400000 in
theorem badName_any (m : Mas) (w : World) (hs : m.name.size ≤ 100) : Calls Try.prog 64 #[m.agg] w (ShEnd (badName m) w) := by
  obtain ⟨nm, f, u, k⟩ := m
  have HB : Hid (badName ⟨nm, f, u, k⟩ = !nameB nm) := rfl
  dsimp only at *
  go_enter Try.func64, Try.ntmps64
  go_wp2_with (go_at_call 65; refine (isName_any _ _ hs).mono ?_; rintro e w' ⟨rfl, rfl⟩)
  go_ret
  exact sh_ret HB.out.symm (by repeat (first | with_reducible exact Below.refl _ _ | with_reducible assumption | with_reducible refine Below.drew ?_ | with_reducible refine below_drewN ?_ _ | (with_reducible refine Below.alloc ?_ ?_ _; rotate_left; (try simp) <;> omega) | (with_reducible refine Below.setCell ?_ ?_ _; rotate_left; (try simp) <;> omega)))
def manyC (t : Tk) : Bool := decide ((40 : Int) < t.co.length)
set_option maxHeartbeats 400000 in
theorem manyC_any (t : Tk) (w : World) (hs : t.co.length ≤ 100) : Calls Try.prog 71 #[t.agg] w (ShEnd (manyC t) w) := by
  obtain ⟨wk, nd, aA, ac, af, cA, cc, co⟩ := t
  have HB : Hid (manyC ⟨wk, nd, aA, ac, af, cA, cc, co⟩ = decide ((40 : Int) < co.length)) := rfl
  dsimp only at *
  go_enter Try.func71, Try.ntmps71
  go_wp2
  go_ret
  exact sh_ret HB.out.symm (by repeat (first | with_reducible exact Below.refl _ _ | with_reducible assumption | with_reducible refine Below.drew ?_ | with_reducible refine below_drewN ?_ _ | (with_reducible refine Below.alloc ?_ ?_ _; rotate_left; (try simp) <;> omega) | (with_reducible refine Below.setCell ?_ ?_ _; rotate_left; (try simp) <;> omega)))
def longS (s : ByteArray) : Bool := decide ((24 : Int) < s.size)
set_option maxHeartbeats 400000 in
theorem longS_any (s : ByteArray) (w : World) (hs : s.size ≤ 1000) : Calls Try.prog 75 #[.string s] w (ShEnd (longS s) w) := by
  go_enter Try.func75, Try.ntmps75
  go_wp2
  go_ret
  exact sh_ret rfl (by repeat (first | with_reducible exact Below.refl _ _ | with_reducible assumption | with_reducible refine Below.drew ?_ | with_reducible refine below_drewN ?_ _ | (with_reducible refine Below.alloc ?_ ?_ _; rotate_left; (try simp) <;> omega) | (with_reducible refine Below.setCell ?_ ?_ _; rotate_left; (try simp) <;> omega)))
def outOf (i : Nat) (x : Int) : Bool := !inB x 0 ((i : Int) - 1)
set_option maxHeartbeats 400000 in
theorem outOf_any (i : Nat) (x : Int) (b : Nat) (w : World) (hi : i ≤ 1000) (hc : w.cell? ⟨b, 0, none⟩ = some (.int .i64 i)) : Calls Try.prog 73 #[.int .i64 x, .pointer (some ⟨b, 0, none⟩)] w (ShEnd (outOf i x) w) := by
  go_enter Try.func73, Try.ntmps73
  go_wp2_with (go_at_call 66; refine (in_any _ _ _ _).mono ?_; rintro e w' ⟨rfl, rfl⟩)
  go_ret
  exact sh_ret rfl (by repeat (first | with_reducible exact Below.refl _ _ | with_reducible assumption | with_reducible refine Below.drew ?_ | with_reducible refine below_drewN ?_ _ | (with_reducible refine Below.alloc ?_ ?_ _; rotate_left; (try simp) <;> omega) | (with_reducible refine Below.setCell ?_ ?_ _; rotate_left; (try simp) <;> omega)))
set_option maxHeartbeats 400000 in
theorem idxM64 (p : Mas → Bool) (l : List Mas) (A : Option Addr) (c : Nat) (w : World)  (hl : Lies w w.heap.size A (massC l)) (hm : l.length ≤ 1000)
    (hp : Hid (∀ t ∈ l, ∀ W : World, Below w.heap.size w W → Calls Try.prog 64 (#[t.agg] ++ #[]) W (ShEnd (p t) W))) :
    Calls Try.prog 109 #[.slice A l.length c, .func (.func 64) #[] #[]] w fun e w' => e = .returned (.int .i64 (idxL p l)) ∧ Below w.heap.size w w' := by
  go_enter Try.func109, Try.ntmps109
  go_wp2
  go_loopw [8] (fun y wr => ∃ k : Nat, k ≤ l.length ∧ y = .int .i64 k ∧ Hid (∀ j (hj : j < k) (h' : j < l.length), p l[j] = false) ∧ Below w.heap.size w wr) (fun y _ => l.length - (intOf y).toNat)
  case atStart => exact ⟨0, by omega, rfl, fun j hj => absurd hj (by omega), Below.refl _ _⟩
  case round =>
    obtain ⟨k, hk, rfl, hg, hbw⟩ := hrel
    have hbs := hbw.size
    by_cases hlt : k < l.length
    · obtain ⟨ad, rfl, _, c0, c1, c2, c3⟩ := mas_at (hl.below hbw (Nat.le_refl _)) hlt
      have HC := Lib.hid (hp.out l[k] (List.getElem_mem hlt))
      clear hl
      by_cases h0 : p l[k] = true
      · have H : Hid (idxL p l = (k : Int)) := by
          have := idxL_drop p l k hk hg.out (.inr ⟨hlt, h0⟩)
          rw [if_pos hlt] at this; exact this
        have H0 := Lib.hid h0; clear h0
        go_wp2_with (go_at_call 64; refine (HC.out _ (by exact (by repeat (first | with_reducible exact Below.refl _ _ | with_reducible assumption | with_reducible refine Below.drew ?_ | with_reducible refine below_drewN ?_ _ | (with_reducible refine Below.alloc ?_ ?_ _; rotate_left; (try simp) <;> omega) | (with_reducible refine Below.setCell ?_ ?_ _; rotate_left; (try simp) <;> omega))))).mono ?_; rintro e w1 ⟨rfl, hb⟩; rw [H0.out])
        go_ret
        exact ⟨ret_int H.out.symm, hbw.trans (hb.mono (by omega))⟩
      · have h0' : p l[k] = false := by simpa using h0
        have H : Hid (∀ j (hj : j < k + 1) (h' : j < l.length), p l[j] = false) := fun j hj h' => by
          by_cases e : j = k
          · subst e; exact h0'
          · exact hg.out j (by omega) h'
        have H0 := Lib.hid h0'; clear h0 h0'
        go_wp2_with (go_at_call 64; refine (HC.out _ (by exact (by repeat (first | with_reducible exact Below.refl _ _ | with_reducible assumption | with_reducible refine Below.drew ?_ | with_reducible refine below_drewN ?_ _ | (with_reducible refine Below.alloc ?_ ?_ _; rotate_left; (try simp) <;> omega) | (with_reducible refine Below.setCell ?_ ?_ _; rotate_left; (try simp) <;> omega))))).mono ?_; rintro e w1 ⟨rfl, hb⟩; rw [H0.out])
        go_roundw
        case rel => exact ⟨k + 1, by omega, by go_num, H, hbw.trans (hb.mono (by omega))⟩
        case measure => simp [intOf]; omega
    · obtain rfl : k = l.length := by omega
      have H : Hid (idxL p l = -1) := by
        have := idxL_drop p l _ hk hg.out (.inl rfl)
        rw [if_neg (by omega)] at this; exact this
      go_wp2
      go_ret
      exact ⟨ret_int H.out.symm, hbw⟩
set_option maxHeartbeats 400000 in
theorem anyM64 (p : Mas → Bool) (l : List Mas) (A : Option Addr) (c : Nat) (w : World)  (hl : Lies w w.heap.size A (massC l)) (hm : l.length ≤ 1000)
    (hp : Hid (∀ t ∈ l, ∀ W : World, Below w.heap.size w W → Calls Try.prog 64 (#[t.agg] ++ #[]) W (ShEnd (p t) W))) :
    Calls Try.prog 63 #[.slice A l.length c, .func (.func 64) #[] #[]] w (ShEnd (l.any p) w) := by
  have HE := Lib.hid (idxL_dec p l)
  go_enter Try.func63, Try.ntmps63
  go_wp2_with (go_at_call 109; refine (idxM64 p l _ _ _  hl hm hp).mono ?_; rintro e w1 ⟨rfl, hb⟩)
  go_ret
  exact sh_ret HE.out hb
set_option maxHeartbeats 400000 in
theorem idxT71 (p : Tk → Bool) (l : List Tk) (A : Option Addr) (c : Nat) (w : World)  (hl : Lies w w.heap.size A (tasksC l)) (hm : l.length ≤ 1000)
    (hp : Hid (∀ t ∈ l, ∀ W : World, Below w.heap.size w W → Calls Try.prog 71 (#[t.agg] ++ #[]) W (ShEnd (p t) W))) :
    Calls Try.prog 110 #[.slice A l.length c, .func (.func 71) #[] #[]] w fun e w' => e = .returned (.int .i64 (idxL p l)) ∧ Below w.heap.size w w' := by
  go_enter Try.func110, Try.ntmps110
  go_wp2
  go_loopw [8] (fun y wr => ∃ k : Nat, k ≤ l.length ∧ y = .int .i64 k ∧ Hid (∀ j (hj : j < k) (h' : j < l.length), p l[j] = false) ∧ Below w.heap.size w wr) (fun y _ => l.length - (intOf y).toNat)
  case atStart => exact ⟨0, by omega, rfl, fun j hj => absurd hj (by omega), Below.refl _ _⟩
  case round =>
    obtain ⟨k, hk, rfl, hg, hbw⟩ := hrel
    have hbs := hbw.size
    by_cases hlt : k < l.length
    · obtain ⟨ad, rfl, _, c0, c1, c2, c3⟩ := task_at (hl.below hbw (Nat.le_refl _)) hlt
      have HC := Lib.hid (hp.out l[k] (List.getElem_mem hlt))
      clear hl
      by_cases h0 : p l[k] = true
      · have H : Hid (idxL p l = (k : Int)) := by
          have := idxL_drop p l k hk hg.out (.inr ⟨hlt, h0⟩)
          rw [if_pos hlt] at this; exact this
        have H0 := Lib.hid h0; clear h0
        go_wp2_with (go_at_call 71; refine (HC.out _ (by exact (by repeat (first | with_reducible exact Below.refl _ _ | with_reducible assumption | with_reducible refine Below.drew ?_ | with_reducible refine below_drewN ?_ _ | (with_reducible refine Below.alloc ?_ ?_ _; rotate_left; (try simp) <;> omega) | (with_reducible refine Below.setCell ?_ ?_ _; rotate_left; (try simp) <;> omega))))).mono ?_; rintro e w1 ⟨rfl, hb⟩; rw [H0.out])
        go_ret
        exact ⟨ret_int H.out.symm, hbw.trans (hb.mono (by omega))⟩
      · have h0' : p l[k] = false := by simpa using h0
        have H : Hid (∀ j (hj : j < k + 1) (h' : j < l.length), p l[j] = false) := fun j hj h' => by
          by_cases e : j = k
          · subst e; exact h0'
          · exact hg.out j (by omega) h'
        have H0 := Lib.hid h0'; clear h0 h0'
        go_wp2_with (go_at_call 71; refine (HC.out _ (by exact (by repeat (first | with_reducible exact Below.refl _ _ | with_reducible assumption | with_reducible refine Below.drew ?_ | with_reducible refine below_drewN ?_ _ | (with_reducible refine Below.alloc ?_ ?_ _; rotate_left; (try simp) <;> omega) | (with_reducible refine Below.setCell ?_ ?_ _; rotate_left; (try simp) <;> omega))))).mono ?_; rintro e w1 ⟨rfl, hb⟩; rw [H0.out])
        go_roundw
        case rel => exact ⟨k + 1, by omega, by go_num, H, hbw.trans (hb.mono (by omega))⟩
        case measure => simp [intOf]; omega
    · obtain rfl : k = l.length := by omega
      have H : Hid (idxL p l = -1) := by
        have := idxL_drop p l _ hk hg.out (.inl rfl)
        rw [if_neg (by omega)] at this; exact this
      go_wp2
      go_ret
      exact ⟨ret_int H.out.symm, hbw⟩
set_option maxHeartbeats 400000 in
theorem anyT71 (p : Tk → Bool) (l : List Tk) (A : Option Addr) (c : Nat) (w : World)  (hl : Lies w w.heap.size A (tasksC l)) (hm : l.length ≤ 1000)
    (hp : Hid (∀ t ∈ l, ∀ W : World, Below w.heap.size w W → Calls Try.prog 71 (#[t.agg] ++ #[]) W (ShEnd (p t) W))) :
    Calls Try.prog 70 #[.slice A l.length c, .func (.func 71) #[] #[]] w (ShEnd (l.any p) w) := by
  have HE := Lib.hid (idxL_dec p l)
  go_enter Try.func70, Try.ntmps70
  go_wp2_with (go_at_call 110; refine (idxT71 p l _ _ _  hl hm hp).mono ?_; rintro e w1 ⟨rfl, hb⟩)
  go_ret
  exact sh_ret HE.out hb
set_option maxHeartbeats 400000 in
theorem idxI73 (p : Int → Bool) (l : List Int) (A : Option Addr) (c : Nat) (w : World) (bb : Nat) (hl : Lies w w.heap.size A (ints l)) (hm : l.length ≤ 1000)
    (hp : Hid (∀ t ∈ l, ∀ W : World, Below w.heap.size w W → Calls Try.prog 73 (#[.int .i64 t] ++ #[.pointer (some ⟨bb, 0, none⟩)]) W (ShEnd (p t) W))) :
    Calls Try.prog 111 #[.slice A l.length c, .func (.func 73) #[] #[.pointer (some ⟨bb, 0, none⟩)]] w fun e w' => e = .returned (.int .i64 (idxL p l)) ∧ Below w.heap.size w w' := by
  go_enter Try.func111, Try.ntmps111
  go_wp2
  go_loopw [8] (fun y wr => ∃ k : Nat, k ≤ l.length ∧ y = .int .i64 k ∧ Hid (∀ j (hj : j < k) (h' : j < l.length), p l[j] = false) ∧ Below w.heap.size w wr) (fun y _ => l.length - (intOf y).toNat)
  case atStart => exact ⟨0, by omega, rfl, fun j hj => absurd hj (by omega), Below.refl _ _⟩
  case round =>
    obtain ⟨k, hk, rfl, hg, hbw⟩ := hrel
    have hbs := hbw.size
    by_cases hlt : k < l.length
    · obtain ⟨ad, rfl, _, c0⟩ := int_at (hl.below hbw (Nat.le_refl _)) hlt
      have HC := Lib.hid (hp.out l[k] (List.getElem_mem hlt))
      clear hl
      by_cases h0 : p l[k] = true
      · have H : Hid (idxL p l = (k : Int)) := by
          have := idxL_drop p l k hk hg.out (.inr ⟨hlt, h0⟩)
          rw [if_pos hlt] at this; exact this
        have H0 := Lib.hid h0; clear h0
        go_wp2_with (go_at_call 73; refine (HC.out _ (by exact (by repeat (first | with_reducible exact Below.refl _ _ | with_reducible assumption | with_reducible refine Below.drew ?_ | with_reducible refine below_drewN ?_ _ | (with_reducible refine Below.alloc ?_ ?_ _; rotate_left; (try simp) <;> omega) | (with_reducible refine Below.setCell ?_ ?_ _; rotate_left; (try simp) <;> omega))))).mono ?_; rintro e w1 ⟨rfl, hb⟩; rw [H0.out])
        go_ret
        exact ⟨ret_int H.out.symm, hbw.trans (hb.mono (by omega))⟩
      · have h0' : p l[k] = false := by simpa using h0
        have H : Hid (∀ j (hj : j < k + 1) (h' : j < l.length), p l[j] = false) := fun j hj h' => by
          by_cases e : j = k
          · subst e; exact h0'
          · exact hg.out j (by omega) h'
        have H0 := Lib.hid h0'; clear h0 h0'
        go_wp2_with (go_at_call 73; refine (HC.out _ (by exact (by repeat (first | with_reducible exact Below.refl _ _ | with_reducible assumption | with_reducible refine Below.drew ?_ | with_reducible refine below_drewN ?_ _ | (with_reducible refine Below.alloc ?_ ?_ _; rotate_left; (try simp) <;> omega) | (with_reducible refine Below.setCell ?_ ?_ _; rotate_left; (try simp) <;> omega))))).mono ?_; rintro e w1 ⟨rfl, hb⟩; rw [H0.out])
        go_roundw
        case rel => exact ⟨k + 1, by omega, by go_num, H, hbw.trans (hb.mono (by omega))⟩
        case measure => simp [intOf]; omega
    · obtain rfl : k = l.length := by omega
      have H : Hid (idxL p l = -1) := by
        have := idxL_drop p l _ hk hg.out (.inl rfl)
        rw [if_neg (by omega)] at this; exact this
      go_wp2
      go_ret
      exact ⟨ret_int H.out.symm, hbw⟩
set_option maxHeartbeats 400000 in
theorem anyI73 (p : Int → Bool) (l : List Int) (A : Option Addr) (c : Nat) (w : World) (bb : Nat) (hl : Lies w w.heap.size A (ints l)) (hm : l.length ≤ 1000)
    (hp : Hid (∀ t ∈ l, ∀ W : World, Below w.heap.size w W → Calls Try.prog 73 (#[.int .i64 t] ++ #[.pointer (some ⟨bb, 0, none⟩)]) W (ShEnd (p t) W))) :
    Calls Try.prog 72 #[.slice A l.length c, .func (.func 73) #[] #[.pointer (some ⟨bb, 0, none⟩)]] w (ShEnd (l.any p) w) := by
  have HE := Lib.hid (idxL_dec p l)
  go_enter Try.func72, Try.ntmps72
  go_wp2_with (go_at_call 111; refine (idxI73 p l _ _ _ bb  hl hm hp).mono ?_; rintro e w1 ⟨rfl, hb⟩)
  go_ret
  exact sh_ret HE.out hb
set_option maxHeartbeats 400000 in
theorem idxS75 (p : ByteArray → Bool) (l : List ByteArray) (A : Option Addr) (c : Nat) (w : World)  (hl : Lies w w.heap.size A (strsC l)) (hm : l.length ≤ 1000)
    (hp : Hid (∀ t ∈ l, ∀ W : World, Below w.heap.size w W → Calls Try.prog 75 (#[.string t] ++ #[]) W (ShEnd (p t) W))) :
    Calls Try.prog 112 #[.slice A l.length c, .func (.func 75) #[] #[]] w fun e w' => e = .returned (.int .i64 (idxL p l)) ∧ Below w.heap.size w w' := by
  go_enter Try.func112, Try.ntmps112
  go_wp2
  go_loopw [8] (fun y wr => ∃ k : Nat, k ≤ l.length ∧ y = .int .i64 k ∧ Hid (∀ j (hj : j < k) (h' : j < l.length), p l[j] = false) ∧ Below w.heap.size w wr) (fun y _ => l.length - (intOf y).toNat)
  case atStart => exact ⟨0, by omega, rfl, fun j hj => absurd hj (by omega), Below.refl _ _⟩
  case round =>
    obtain ⟨k, hk, rfl, hg, hbw⟩ := hrel
    have hbs := hbw.size
    by_cases hlt : k < l.length
    · obtain ⟨ad, rfl, _, c0⟩ := str_at (hl.below hbw (Nat.le_refl _)) hlt
      have HC := Lib.hid (hp.out l[k] (List.getElem_mem hlt))
      clear hl
      by_cases h0 : p l[k] = true
      · have H : Hid (idxL p l = (k : Int)) := by
          have := idxL_drop p l k hk hg.out (.inr ⟨hlt, h0⟩)
          rw [if_pos hlt] at this; exact this
        have H0 := Lib.hid h0; clear h0
        go_wp2_with (go_at_call 75; refine (HC.out _ (by exact (by repeat (first | with_reducible exact Below.refl _ _ | with_reducible assumption | with_reducible refine Below.drew ?_ | with_reducible refine below_drewN ?_ _ | (with_reducible refine Below.alloc ?_ ?_ _; rotate_left; (try simp) <;> omega) | (with_reducible refine Below.setCell ?_ ?_ _; rotate_left; (try simp) <;> omega))))).mono ?_; rintro e w1 ⟨rfl, hb⟩; rw [H0.out])
        go_ret
        exact ⟨ret_int H.out.symm, hbw.trans (hb.mono (by omega))⟩
      · have h0' : p l[k] = false := by simpa using h0
        have H : Hid (∀ j (hj : j < k + 1) (h' : j < l.length), p l[j] = false) := fun j hj h' => by
          by_cases e : j = k
          · subst e; exact h0'
          · exact hg.out j (by omega) h'
        have H0 := Lib.hid h0'; clear h0 h0'
        go_wp2_with (go_at_call 75; refine (HC.out _ (by exact (by repeat (first | with_reducible exact Below.refl _ _ | with_reducible assumption | with_reducible refine Below.drew ?_ | with_reducible refine below_drewN ?_ _ | (with_reducible refine Below.alloc ?_ ?_ _; rotate_left; (try simp) <;> omega) | (with_reducible refine Below.setCell ?_ ?_ _; rotate_left; (try simp) <;> omega))))).mono ?_; rintro e w1 ⟨rfl, hb⟩; rw [H0.out])
        go_roundw
        case rel => exact ⟨k + 1, by omega, by go_num, H, hbw.trans (hb.mono (by omega))⟩
        case measure => simp [intOf]; omega
    · obtain rfl : k = l.length := by omega
      have H : Hid (idxL p l = -1) := by
        have := idxL_drop p l _ hk hg.out (.inl rfl)
        rw [if_neg (by omega)] at this; exact this
      go_wp2
      go_ret
      exact ⟨ret_int H.out.symm, hbw⟩
set_option maxHeartbeats 400000 in
theorem anyS75 (p : ByteArray → Bool) (l : List ByteArray) (A : Option Addr) (c : Nat) (w : World)  (hl : Lies w w.heap.size A (strsC l)) (hm : l.length ≤ 1000)
    (hp : Hid (∀ t ∈ l, ∀ W : World, Below w.heap.size w W → Calls Try.prog 75 (#[.string t] ++ #[]) W (ShEnd (p t) W))) :
    Calls Try.prog 74 #[.slice A l.length c, .func (.func 75) #[] #[]] w (ShEnd (l.any p) w) := by
  have HE := Lib.hid (idxL_dec p l)
  go_enter Try.func74, Try.ntmps74
  go_wp2_with (go_at_call 112; refine (idxS75 p l _ _ _  hl hm hp).mono ?_; rintro e w1 ⟨rfl, hb⟩)
  go_ret
  exact sh_ret HE.out hb
end Go.Proofs.Ytjgnikmnadmheaa
