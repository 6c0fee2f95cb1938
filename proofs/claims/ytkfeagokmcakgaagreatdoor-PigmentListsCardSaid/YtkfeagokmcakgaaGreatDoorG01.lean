/- Words for memory that this claim's walks share: cells of a slice, a block known whole. -/
import Derived.Test.YtkfeagokmcakgaaGreatDoorRows
import Derived.WalkKit
import Derived.WalkSpells
import Derived.Deep.Draws
import Derived.MapKept
import Derived.WalkLawsBesides
import Derived.Lib.Hide
import Derived.Deep.QuietTactic
import Derived.BigQuiet
import Derived.Maps.AppendAt
import Derived.Deep.AppendLies
import Derived.ProofKit
import Derived.Deep.DeepCutAuto
import Derived.Deep.RegionHeld3
import Derived.Carry
import Derived.IntWalk
import Derived.WalkArith
import Derived.Laws.OwnMore
import Derived.Maps.OwnOps
import Derived.Maps.OwnSet
import Derived.Maps.Views

set_option linter.unusedVariables false
set_option linter.unusedSimpArgs false

namespace Go.Proofs.YtkfeagokmcakgaaGreatDoor
open Go.RowKit

theorem ret_int {k : IntKind} {a b : Int} (h : a = b) : Ending.returned (.int k a) = .returned (.int k b) := by rw [h]
/-- the cells of a slice value -/
def Lies (w : World) (B : Nat) (A : Option Addr) (cs : List Value) : Prop :=
  cs ≠ [] → ∃ ad, A = some ad ∧ ad.block < B ∧ ∀ j u, cs[j]? = some u → w.cell? (ad.add j) = some u
def ints (l : List Int) : List Value := l.map (Value.int .i64)
theorem Lies.at_ {w : World} {B : Nat} {A : Option Addr} {cs : List Value} (h : Lies w B A cs) {k : Nat} (hk : k < cs.length) :
    ∃ ad u, A = some ad ∧ ad.block < B ∧ cs[k]? = some u ∧ w.cell? (ad.add k) = some u := by
  obtain ⟨ad, e, hb, hc⟩ := h (by intro e; rw [e] at hk; simp at hk)
  exact ⟨ad, cs[k], e, hb, List.getElem?_eq_getElem hk, hc k _ (List.getElem?_eq_getElem hk)⟩
theorem add_block (a : Addr) (n : Nat) : (a.add n).block = a.block := by unfold Addr.add; split <;> rfl
theorem add_add' (a : Addr) (i j : Nat) : (a.add i).add j = a.add (i + j) := by
  unfold Addr.add
  by_cases hi : i = 0 <;> by_cases hj : j = 0 <;> simp [hi, hj, Nat.add_assoc]
theorem Lies.keep {w w' : World} {B : Nat} {A : Option Addr} {cs : List Value} (h : Lies w B A cs) (hk : ∀ p : Addr, p.block < B → w'.cell? p = w.cell? p) : Lies w' B A cs :=
  fun hn => by
    obtain ⟨ad, e, hb, hc⟩ := h hn
    exact ⟨ad, e, hb, fun j u hu => (hk _ (by rw [add_block]; exact hb)).trans (hc j u hu)⟩
theorem Lies.below {w w' : World} {B B' : Nat} {A : Option Addr} {cs : List Value} (h : Lies w B A cs) (hb : Below B' w w') (hB : B ≤ B') : Lies w' B A cs :=
  h.keep fun _ hp => hb.cell (by omega)
theorem Lies.more {w : World} {B B' : Nat} {A : Option Addr} {cs : List Value} (h : Lies w B A cs) (hB : B ≤ B') : Lies w B' A cs :=
  fun hn => by obtain ⟨ad, e, hb, hc⟩ := h hn; exact ⟨ad, e, by omega, hc⟩

theorem Lies.lit {w : World} {b B : Nat} {cs : List Value} (h : ∀ j u, cs[j]? = some u → w.cell? ⟨b, j, none⟩ = some u) (hb : b < B) : Lies w B (some ⟨b, 0, none⟩) cs :=
  fun _ => ⟨_, rfl, hb, fun j u hu => by
    have e : (⟨b, 0, none⟩ : Addr).add j = ⟨b, j, none⟩ := by unfold Addr.add; split <;> simp_all
    rw [e]; exact h j u hu⟩
theorem Lies.new (w : World) (cs : Array Value) (t : TypeId) {B : Nat} (hB : w.heap.size < B) : Lies (w.alloc (.cells cs t)) B (some ⟨w.heap.size, 0, none⟩) cs.toList :=
  Lies.lit (fun j u hu => by rw [cell_of_row _ _ j cs t (0, 0) (heap_alloc_new w _)]; simpa using hu) hB

theorem Lies.fresh {w X : World} {cs : Array Value} {t : TypeId} {b B : Nat} {l : List Value} (hX : w.heap = X.heap.push (.cells cs t)) (hb : X.heap.size = b) (hB : b < B) (hl : l = cs.toList) : Lies w B (some ⟨b, 0, none⟩) l := by
  subst hb; subst hl
  refine (Lies.new X cs t hB).keep fun p _ => ?_
  unfold World.cell?
  rw [hX]; rfl


/-- block g is just the cells cs, none frozen -/
def Bk (w : World) (g : Nat) (t : TypeId) (cs : Array Value) : Prop := w.heap[g]? = some (.cells cs t (0, 0))
section
variable {w w' : World} {g : Nat} {t : TypeId} {cs : Array Value}
theorem Bk.lt (h : Bk w g t cs) : g < w.heap.size := by
  unfold Bk at h
  exact (Array.getElem?_eq_some_iff.1 h).1
theorem Bk.cell (h : Bk w g t cs) (i : Nat) {v : Value} (hv : cs[i]? = some v) : w.cell? ⟨g, i, none⟩ = some v := (cell_of_row w g i cs t (0, 0) h).trans hv
theorem Bk.fro (h : Bk w g t cs) (i : Nat) : w.frozen? ⟨g, i, none⟩ = false := by
  unfold Bk at h
  simp [World.frozen?, h]
theorem Bk.new (w : World) (t : TypeId) (cs : Array Value) : Bk (w.alloc (.cells cs t)) w.heap.size t cs := heap_alloc_new w _
theorem Bk.drew (h : Bk w g t cs) : Bk w.drew g t cs := h
theorem Bk.drewN (h : Bk w g t cs) (n : Nat) : Bk (w.drewN n) g t cs := h
theorem Bk.alloc (h : Bk w g t cs) (o : Obj) : Bk (w.alloc o) g t cs := (Below.heap_alloc w o g h.lt).trans h
theorem Bk.set (h : Bk w g t cs) (i : Nat) (u : Value) : Bk (w.setCell ⟨g, i, none⟩ u) g t (cs.setIfInBounds i u) := by
  unfold Bk at h ⊢
  simp [World.setCell, Array.getElem?_modify, h]
theorem Bk.far (h : Bk w g t cs) {p : Addr} (hp : g ≠ p.block) (u : Value) : Bk (w.setCell p u) g t cs := (Below.heap_setCell w p u g hp).trans h
theorem Bk.below {B : Nat} (h : Bk w g t cs) (hb : Below B w w') (hg : g < B) : Bk w' g t cs := (hb.block g hg).trans h
theorem Bk.grown {row : Option Nat} (h : Bk w g t cs) (hb : w.grownBy w' row) (hg : some g ≠ row) : Bk w' g t cs := (hb.block g h.lt hg).trans h
end
theorem Bk.lies {w : World} {g B : Nat} {t : TypeId} {cs : Array Value} (h : Bk w g t cs) (hB : g < B) : Lies w B (some ⟨g, 0, none⟩) cs.toList :=
  Lies.lit (fun j u hu => h.cell j (by simpa using hu)) hB
/-- what a contract's Below gives the walk: old cells and marks -/
theorem bcell {W w1 : World} {B : Nat} (hb : Below B W w1) : (∀ b o, b < B → w1.cell? ⟨b, o, none⟩ = W.cell? ⟨b, o, none⟩) ∧ (∀ b o, b < B → w1.frozen? ⟨b, o, none⟩ = W.frozen? ⟨b, o, none⟩) :=
  ⟨fun b o h => hb.cell (p := ⟨b, o, none⟩) h, fun b o h => hb.frozen (p := ⟨b, o, none⟩) h⟩
end Go.Proofs.YtkfeagokmcakgaaGreatDoor

namespace Go.Proofs.YtkfeagokmcakgaaGreatDoor

instance lawfulBytes : LawfulBEq ByteArray where
  eq_of_beq := fun h => (MapKept.bytes_beq _ _).1 h
  rfl := (MapKept.bytes_beq _ _).2 rfl

/-- a rule about pigments -/
structure Rul where
  id : Int
  known : Int
  kind : Int
  x : ByteArray
  y : ByteArray
  of : Int
theorem Rul.ext' {a b : Rul} (h1 : a.id = b.id) (h2 : a.known = b.known) (h3 : a.kind = b.kind) (h4 : a.x = b.x) (h5 : a.y = b.y) (h6 : a.of = b.of) : a = b := by
  cases a; cases b; simp_all

/-- an edge from a name to its group -/
def edge (l : List Rul) (a b : ByteArray) : Prop := ∃ r ∈ l, r.kind = 5 ∧ r.x = a ∧ r.y = b
inductive Reach (l : List Rul) : ByteArray → ByteArray → Prop where
  | refl (a : ByteArray) : Reach l a a
  | step {a b c : ByteArray} : edge l a b → Reach l b c → Reach l a c
theorem Reach.trans {l : List Rul} {a b c : ByteArray} (h : Reach l a b) (g : Reach l b c) : Reach l a c := by
  induction h with
  | refl => exact g
  | step e _ ih => exact .step e (ih g)
theorem Reach.one {l : List Rul} {a b : ByteArray} (h : edge l a b) : Reach l a b := .step h (.refl _)
theorem Reach.snoc {l : List Rul} {a b c : ByteArray} (h : Reach l a b) (e : edge l b c) : Reach l a c := h.trans (.one e)
theorem edge_mono {l m : List Rul} (h : ∀ r ∈ l, r ∈ m) {a b : ByteArray} : edge l a b → edge m a b := fun ⟨r, hr, e⟩ => ⟨r, h r hr, e⟩
theorem Reach.mono {l m : List Rul} (h : ∀ r ∈ l, r ∈ m) {a b : ByteArray} (g : Reach l a b) : Reach m a b := by
  induction g with
  | refl => exact .refl _
  | step e _ ih => exact .step (edge_mono h e) ih
/-- what holds a and is closed holds all that a reaches -/
theorem Reach.inv {l : List Rul} {P : ByteArray → Prop} {a b : ByteArray} (h : Reach l a b) (ha : P a) (hc : ∀ u v, P u → edge l u v → P v) : P b := by
  induction h with
  | refl => exact ha
  | step e _ ih => exact ih (hc _ _ ha e)

/-- the reference's groups -/
def grpS (out : List ByteArray) (r : Rul) : List ByteArray := if r.kind = 5 ∧ r.x ∈ out ∧ r.y ∉ out then out ++ [r.y] else out
def grpR (l : List Rul) (out : List ByteArray) : List ByteArray := l.foldl grpS out
def grpN (l : List Rul) : Nat → List ByteArray → List ByteArray
  | 0, out => out
  | n + 1, out => grpN l n (grpR l out)
def grps (l : List Rul) (x : ByteArray) : List ByteArray := grpN l (l.length + 1) [x]

theorem grpS_pre (out : List ByteArray) (r : Rul) : ∃ t, grpS out r = out ++ t := by
  unfold grpS; split
  · exact ⟨_, rfl⟩
  · exact ⟨[], by simp⟩
theorem fold_pre : ∀ (m : List Rul) (out : List ByteArray), ∃ t, m.foldl grpS out = out ++ t
  | [], out => ⟨[], by simp⟩
  | r :: m, out => by
    obtain ⟨t, h⟩ := grpS_pre out r
    obtain ⟨u, g⟩ := fold_pre m (grpS out r)
    exact ⟨t ++ u, by rw [List.foldl_cons, g, h, List.append_assoc]⟩
theorem fold_mem {m : List Rul} {out : List ByteArray} {z : ByteArray} (h : z ∈ out) : z ∈ m.foldl grpS out := by
  obtain ⟨t, e⟩ := fold_pre m out
  rw [e]; exact List.mem_append_left _ h
theorem fold_nodup : ∀ (m : List Rul) (out : List ByteArray), out.Nodup → (m.foldl grpS out).Nodup
  | [], _, h => h
  | r :: m, out, h => by
    refine fold_nodup m _ ?_
    unfold grpS; split
    · rename_i c
      rw [List.nodup_append]
      exact ⟨h, by simp, fun a ha b hb e => by simp at hb; subst hb; subst e; exact c.2.2 ha⟩
    · exact h
theorem fold_in {l : List Rul} : ∀ (m : List Rul) (out : List ByteArray), (∀ r ∈ m, r ∈ l) → ∀ z ∈ m.foldl grpS out, z ∈ out ∨ ∃ r ∈ l, r.y = z
  | [], _, _, z, hz => .inl hz
  | r :: m, out, h, z, hz => by
    rcases fold_in m (grpS out r) (fun s hs => h s (List.mem_cons_of_mem _ hs)) z hz with g | g
    · unfold grpS at g; split at g
      · rcases List.mem_append.1 g with g | g
        · exact .inl g
        · simp at g; exact .inr ⟨r, h r (by simp), g.symm⟩
      · exact .inl g
    · exact .inr g
theorem fold_reach {l : List Rul} {x : ByteArray} : ∀ (m : List Rul) (out : List ByteArray), (∀ r ∈ m, r ∈ l) → (∀ z ∈ out, Reach l x z) → ∀ z ∈ m.foldl grpS out, Reach l x z
  | [], _, _, h => h
  | r :: m, out, hm, h => by
    refine fold_reach m _ (fun s hs => hm s (List.mem_cons_of_mem _ hs)) ?_
    intro z hz
    unfold grpS at hz; split at hz
    · rename_i c
      rcases List.mem_append.1 hz with g | g
      · exact h z g
      · simp at g; subst g
        exact (h _ c.2.1).snoc ⟨r, hm r (by simp), c.1, rfl, rfl⟩
    · exact h z hz
/-- a round that adds nothing leaves a closed list -/
theorem fold_fix : ∀ (m : List Rul) (out : List ByteArray), (m.foldl grpS out).length = out.length → ∀ r ∈ m, r.kind = 5 → r.x ∈ out → r.y ∈ out
  | [], _, _, r, hr, _, _ => by simp at hr
  | s :: m, out, h, r, hr, hk, hx => by
    obtain ⟨u, hu⟩ := fold_pre m (grpS out s)
    obtain ⟨t, ht⟩ := grpS_pre out s
    rw [List.foldl_cons, hu, ht] at h
    have ht0 : t = [] := by cases t <;> simp at h ⊢
    have hu0 : u = [] := by cases u <;> simp at h ⊢
    have hS : grpS out s = out := by rw [ht, ht0, List.append_nil]
    rcases List.mem_cons.1 hr with rfl | hr
    · by_cases hy : r.y ∈ out
      · exact hy
      · exfalso
        unfold grpS at hS; rw [if_pos ⟨hk, hx, hy⟩] at hS
        have := congrArg List.length hS; simp at this
    · refine fold_fix m out ?_ r hr hk hx
      rw [hS, hu0, List.append_nil] at hu
      rw [hu]
theorem grpN_fix (l : List Rul) : ∀ n out, (grpR l out).length = out.length → grpN l n out = out
  | 0, _, _ => rfl
  | n + 1, out, h => by
    have e : grpR l out = out := by
      obtain ⟨t, ht⟩ := fold_pre l out
      unfold grpR at h ⊢
      rw [ht] at h ⊢
      have : t = [] := by cases t <;> simp at h ⊢
      rw [this, List.append_nil]
    show grpN l n (grpR l out) = out
    rw [e]; exact grpN_fix l n out h
theorem grpN_grow (l : List Rul) : ∀ n out, (∃ k, k ≤ n ∧ (grpR l (grpN l k out)).length = (grpN l k out).length ∧ grpN l n out = grpN l k out) ∨ out.length + n ≤ (grpN l n out).length
  | 0, out => .inr (by simp [grpN])
  | n + 1, out => by
    by_cases h : (grpR l out).length = out.length
    · exact .inl ⟨0, by omega, h, by rw [grpN_fix l _ out h]; rfl⟩
    · have hlt : out.length < (grpR l out).length := by
        obtain ⟨t, ht⟩ := fold_pre l out
        unfold grpR at h ⊢
        rw [ht] at h ⊢
        simp at h ⊢
        exact List.length_pos_iff.2 h
      rcases grpN_grow l n (grpR l out) with ⟨k, hk, h1, h2⟩ | h1
      · exact .inl ⟨k + 1, by omega, h1, h2⟩
      · refine .inr ?_
        show _ ≤ (grpN l n (grpR l out)).length
        omega
theorem grpN_nodup (l : List Rul) : ∀ n out, out.Nodup → (grpN l n out).Nodup
  | 0, _, h => h
  | n + 1, out, h => grpN_nodup l n _ (fold_nodup l out h)
theorem grpN_in (l : List Rul) : ∀ n out, ∀ z ∈ grpN l n out, z ∈ out ∨ ∃ r ∈ l, r.y = z
  | 0, _, z, h => .inl h
  | n + 1, out, z, h => by
    rcases grpN_in l n _ z h with g | g
    · exact fold_in l out (fun _ h => h) z g
    · exact .inr g
theorem grpN_reach (l : List Rul) (x : ByteArray) : ∀ n out, (∀ z ∈ out, Reach l x z) → ∀ z ∈ grpN l n out, Reach l x z
  | 0, _, h => h
  | n + 1, out, h => grpN_reach l x n _ (fold_reach l out (fun _ h => h) h)
theorem grpN_mem (l : List Rul) {z : ByteArray} : ∀ n out, z ∈ out → z ∈ grpN l n out
  | 0, _, h => h
  | n + 1, out, h => grpN_mem l n _ (fold_mem h)
theorem nodup_len {α : Type} [DecidableEq α] : ∀ (l m : List α), l.Nodup → (∀ z ∈ l, z ∈ m) → l.length ≤ m.length
  | [], _, _, _ => by simp
  | a :: l, m, hn, h => by
    have ha := h a (by simp)
    have hnl := List.nodup_cons.1 hn
    have := nodup_len l (m.erase a) hnl.2 fun z hz => by
      have hza : z ≠ a := fun e => hnl.1 (e ▸ hz)
      exact (List.mem_erase_of_ne hza).2 (h z (List.mem_cons_of_mem _ hz))
    rw [List.length_erase_of_mem ha] at this
    have := List.length_pos_of_mem ha
    simp only [List.length_cons]; omega
theorem grps_nodup (l : List Rul) (x : ByteArray) : (grps l x).Nodup := grpN_nodup l _ _ (by simp)
/-- the reference's groups are what is reached -/
theorem grps_iff (l : List Rul) (x z : ByteArray) : z ∈ grps l x ↔ Reach l x z := by
  constructor
  · exact grpN_reach l x _ _ (fun u hu => by simp at hu; subst hu; exact .refl _) z
  · intro h
    have hx : x ∈ grps l x := grpN_mem l _ _ (by simp)
    rcases grpN_grow l (l.length + 1) [x] with ⟨k, hk, h1, h2⟩ | h1
    · have e : grps l x = grpN l k [x] := h2
      rw [e] at hx ⊢
      refine h.inv (P := fun v => v ∈ grpN l k [x]) hx fun u v hu hv => ?_
      obtain ⟨r, hr, hk5, rfl, rfl⟩ := hv
      exact fold_fix l _ h1 r hr hk5 hu
    · exfalso
      have h2 : (grps l x).length ≤ (x :: l.map Rul.y).length := nodup_len _ _ (grps_nodup l x) fun z hz => by
        rcases grpN_in l _ _ z hz with g | ⟨r, hr, rfl⟩
        · simp at g; subst g; simp
        · exact List.mem_cons_of_mem _ (List.mem_map.2 ⟨r, hr, rfl⟩)
      unfold grps at h2
      simp at h1 h2
      omega

/-- a circle of groups -/
def Circ (l : List Rul) : Prop := ∃ a b, edge l a b ∧ Reach l b a
/-- a circle is reached -/
def Bad (l : List Rul) (z : ByteArray) : Prop := ∃ a b, Reach l z a ∧ edge l a b ∧ Reach l b a
theorem bad_step {l : List Rul} {x : ByteArray} (h : ∀ v, edge l x v → ¬ Bad l v) : ¬ Bad l x := by
  rintro ⟨a, b, hr, he, hb⟩
  cases hr with
  | refl => exact h b he ⟨x, b, hb, he, hb⟩
  | step e g => exact h _ e ⟨a, b, g, he, hb⟩
theorem circ_bad {l : List Rul} : Circ l ↔ ∃ r ∈ l, r.kind = 5 ∧ Bad l r.x := by
  constructor
  · rintro ⟨a, b, ⟨r, hr, hk, rfl, rfl⟩, h⟩
    exact ⟨r, hr, hk, r.x, r.y, .refl _, ⟨r, hr, hk, rfl, rfl⟩, h⟩
  · rintro ⟨r, hr, hk, a, b, _, he, hb⟩
    exact ⟨a, b, he, hb⟩
theorem reach_snoc {l : List Rul} {r : Rul} (hr : r.kind = 5) {a b : ByteArray} (h : Reach (l ++ [r]) a b) : Reach l a b ∨ (Reach l a r.x ∧ Reach l r.y b) := by
  induction h with
  | refl a => exact .inl (.refl a)
  | step e _ ih =>
    obtain ⟨s, hs, hk, rfl, rfl⟩ := e
    rcases List.mem_append.1 hs with hs | hs
    · have e' : edge l s.x s.y := ⟨s, hs, hk, rfl, rfl⟩
      rcases ih with g | ⟨g, g'⟩
      · exact .inl (.step e' g)
      · exact .inr ⟨.step e' g, g'⟩
    · simp at hs; subst hs
      rcases ih with g | ⟨_, g'⟩
      · exact .inr ⟨.refl _, g⟩
      · exact .inr ⟨.refl _, g'⟩
/-- one more group closes a circle just if it leads back -/
theorem circ_snoc {l : List Rul} {r : Rul} (hr : r.kind = 5) (hl : ¬ Circ l) : Circ (l ++ [r]) ↔ Reach l r.y r.x := by
  have hm : ∀ s ∈ l, s ∈ l ++ [r] := fun s hs => List.mem_append_left _ hs
  have her : edge (l ++ [r]) r.x r.y := ⟨r, by simp, hr, rfl, rfl⟩
  constructor
  · rintro ⟨a, b, ⟨s, hs, hk, rfl, rfl⟩, h⟩
    rcases List.mem_append.1 hs with hs | hs
    · rcases reach_snoc hr h with g | ⟨g, g'⟩
      · exact absurd ⟨s.x, s.y, ⟨s, hs, hk, rfl, rfl⟩, g⟩ hl
      · exact g'.trans (.step ⟨s, hs, hk, rfl, rfl⟩ g)
    · simp at hs; subst hs
      rcases reach_snoc hr h with g | ⟨g, _⟩
      · exact g
      · exact g
  · intro h
    exact ⟨r.x, r.y, her, h.mono hm⟩
theorem circ_other {l : List Rul} {r : Rul} (hr : r.kind ≠ 5) : Circ (l ++ [r]) ↔ Circ l := by
  have he : ∀ a b, edge (l ++ [r]) a b ↔ edge l a b := fun a b => by
    constructor
    · rintro ⟨s, hs, hk, e⟩
      rcases List.mem_append.1 hs with hs | hs
      · exact ⟨s, hs, hk, e⟩
      · simp at hs; subst hs; exact absurd hk hr
    · exact edge_mono fun s hs => List.mem_append_left _ hs
  have hR : ∀ a b, Reach (l ++ [r]) a b → Reach l a b := fun a b h => by
    induction h with
    | refl => exact .refl _
    | step e _ ih => exact .step ((he _ _).1 e) ih
  constructor
  · rintro ⟨a, b, e, h⟩; exact ⟨a, b, (he _ _).1 e, hR _ _ h⟩
  · rintro ⟨a, b, e, h⟩; exact ⟨a, b, (he _ _).2 e, h.mono fun s hs => List.mem_append_left _ hs⟩
end Go.Proofs.YtkfeagokmcakgaaGreatDoor

namespace Go.Proofs.YtkfeagokmcakgaaGreatDoor
open Go.RowKit
/-- what lay below n still lies: through draws, allocs and stores above n -/
theorem bw {n : Nat} {a w : World} (h : Below n a w := by repeat (first | with_reducible exact Below.refl _ _ | with_reducible assumption | with_reducible refine Below.drew ?_ | with_reducible refine below_drewN ?_ _ | (with_reducible refine Below.alloc ?_ ?_ _; rotate_left; (try simp) <;> omega) | (with_reducible refine Below.setCell ?_ ?_ _; rotate_left; (try simp) <;> omega))) : Below n a w := h
/-- a block is still known whole -/
theorem bkw {w : World} {g t : Nat} {cs : Array Value} (h : Bk w g t cs := by repeat (first | with_reducible assumption | with_reducible exact Bk.new _ _ _ | with_reducible refine Bk.drew ?_ | with_reducible refine Bk.drewN ?_ _ | with_reducible refine Bk.alloc ?_ _ | (with_reducible refine Bk.far ?_ ?_ _; rotate_left; (try simp) <;> omega))) : Bk w g t cs := h
end Go.Proofs.YtkfeagokmcakgaaGreatDoor

namespace Go.Proofs.YtkfeagokmcakgaaGreatDoor
open Go.RowKit


def okc (c : UInt8) : Bool := (decide (97 ≤ (c.toNat : Int)) && decide ((c.toNat : Int) ≤ 122)) || (decide (48 ≤ (c.toNat : Int)) && decide ((c.toNat : Int) ≤ 57)) || decide ((c.toNat : Int) = 45)
def nameB (s : ByteArray) : Bool := decide (1 ≤ s.size) && decide (s.size ≤ 24) && (match s.data.toList with | c :: _ => decide (97 ≤ (c.toNat : Int)) && decide ((c.toNat : Int) ≤ 122) | [] => false) && s.data.toList.all okc

theorem nameB_iff (s : ByteArray) : nameB s = true ↔ (1 ≤ s.size ∧ s.size ≤ 24 ∧ (∀ h : 0 < s.size, 97 ≤ (s[0].toNat : Int) ∧ (s[0].toNat : Int) ≤ 122) ∧ ∀ k (h : k < s.size), okc s[k] = true) := by
  unfold nameB
  have hsz : s.size = s.data.toList.length := by rw [Array.length_toList]; rfl
  have hget : ∀ k (h : k < s.size), s[k] = s.data.toList[k]'(by rw [← hsz]; exact h) := fun k h => rfl
  generalize hl : s.data.toList = l at *
  match l with
  | [] => simp at hsz; simp [hsz]
  | c :: r =>
    simp only [Bool.and_eq_true, decide_eq_true_eq, List.all_eq_true]
    constructor
    · rintro ⟨⟨⟨h1, h2⟩, h3⟩, h4⟩
      refine ⟨h1, h2, fun h => ?_, fun k h => ?_⟩
      · rw [hget 0 h]; exact h3
      · rw [hget k h]; exact h4 _ (List.getElem_mem _)
    · rintro ⟨h1, h2, h3, h4⟩
      refine ⟨⟨⟨h1, h2⟩, ?_⟩, fun x hx => ?_⟩
      · have := h3 (by omega); rw [hget 0 (by omega)] at this; exact this
      · obtain ⟨k, hk, rfl⟩ := List.getElem_of_mem hx
        have := h4 k (by omega); rw [hget k (by omega)] at this; exact this
def BoolEnd (b : Bool) (w : World) (e : Ending) (w' : World) : Prop := e = .returned (.bool b) ∧ w = w'
theorem bool_ret {b c : Bool} {w : World} (h : c = true ↔ b = true) : BoolEnd b w (.returned (.bool c)) w := ⟨by rw [Bool.eq_iff_iff.2 h], rfl⟩

set_option maxHeartbeats 1000000 in
theorem isName_big (s : ByteArray) (w : World) (hs : s.size ≤ 1000) :
    Calls Tryz.prog 73 #[.string s] w (BoolEnd (nameB s) w) := by
  have HN := Lib.hid (nameB_iff s)
  by_cases hz0 : s.size = 0
  · have hz : ((s.size : Int) == 0) = true := by rw [beq_iff_eq]; omega
    have HF : Hid (¬ nameB s = true) := fun h => by have := HN.out.1 h; omega
    have hz1 : (s.size : Int) < 1 := by omega
    have HZ := Lib.hid hz0; clear hz0
    go_enter Tryz.func73, Tryz.ntmps73
    go_wp2
    all_goals
      go_ret
      exact bool_ret (by simpa using HF.out)
  have hz : ((s.size : Int) == 0) = false := by rw [beq_eq_false_iff_ne]; omega
  have hp : 1 ≤ (s.size : Int) := by omega
  have hp' : 0 < s.size := by omega
  by_cases h24 : s.size ≤ 24
  · by_cases h97 : 97 ≤ (s[0].toNat : Int)
    · by_cases h122 : (s[0].toNat : Int) ≤ 122
      · have HQ : Hid (∀ k (h : k < 0), ∀ h' : k < s.size, okc s[k] = true) := fun k h => absurd h (by omega)
        go_enter Tryz.func73, Tryz.ntmps73
        go_wp2
        go_loop [25] (fun x => ∃ k : Nat, k ≤ s.size ∧ x = .int .i64 k ∧ Hid (∀ j (h : j < k) (h' : j < s.size), okc s[j] = true)) (fun x => s.size - (intOf x).toNat)
        case atStart => exact ⟨0, by omega, rfl, HQ⟩
        case round =>
          obtain ⟨k, hk, rfl, hh⟩ := hrel
          clear HQ
          by_cases hlt : k < s.size
          · have hokc : okc s[k] = true ↔ ((97 ≤ (s[k].toNat : Int) ∧ (s[k].toNat : Int) ≤ 122) ∨ (48 ≤ (s[k].toNat : Int) ∧ (s[k].toNat : Int) ≤ 57) ∨ (s[k].toNat : Int) = 45) := by
              unfold okc; simp only [Bool.or_eq_true, Bool.and_eq_true, decide_eq_true_eq]; exact or_assoc
            have HO := Lib.hid hokc; clear hokc
            have HY : okc s[k] = true → Hid (∀ j (h : j < k + 1) (h' : j < s.size), okc s[j] = true) := fun ho j h h' => by
              by_cases e : j = k
              · subst e; exact ho
              · exact hh.out j (by omega) h'
            have HX : ¬ okc s[k] = true → ¬ nameB s = true := fun ho hn => ho ((HN.out.1 hn).2.2.2 k hlt)
            have HY' := Lib.hid HY; clear HY
            have HX' := Lib.hid HX; clear HX
            by_cases c1 : 97 ≤ (s[k].toNat : Int) <;> by_cases c2 : (s[k].toNat : Int) ≤ 122 <;> by_cases c3 : 48 ≤ (s[k].toNat : Int) <;> by_cases c4 : (s[k].toNat : Int) ≤ 57 <;> by_cases c5 : (s[k].toNat : Int) = 45
            all_goals first | (exfalso; omega) | skip
            all_goals
              first
                | (have c6 : ((s[k].toNat : Int) != 45) = false := by rw [c5]; rfl
                   have hok : okc s[k] = true := HO.out.2 (by omega)
                   have H1 := HY'.out hok
                   have C5 := Lib.hid c5
                   clear hok HO HX' HY' hh HN c5
                   go_wp2
                   go_round
                   case rel => exact ⟨k + 1, by omega, by go_num, H1⟩
                   case measure => simp [intOf]; omega)
                | (have hok : okc s[k] = true := HO.out.2 (by omega)
                   have H1 := HY'.out hok
                   have c6 : ((s[k].toNat : Int) != 45) = true := by rw [bne_iff_ne]; exact c5
                   have C5 := Lib.hid c5
                   clear hok HO HX' HY' hh HN c5
                   go_wp2
                   go_round
                   case rel => exact ⟨k + 1, by omega, by go_num, H1⟩
                   case measure => simp [intOf]; omega)
                | (have hok : ¬ okc s[k] = true := fun h => by have := HO.out.1 h; omega
                   have H1 := Lib.hid (HX'.out hok)
                   have c6 : ((s[k].toNat : Int) != 45) = true := by rw [bne_iff_ne]; exact c5
                   have C5 := Lib.hid c5
                   clear hok HO HX' HY' hh HN c5
                   go_wp2
                   go_ret
                   exact bool_ret (by simpa using H1.out))
          · obtain rfl : k = s.size := by omega
            have HT := Lib.hid (HN.out.2 ⟨by omega, h24, fun _ => ⟨h97, h122⟩, fun j hj => hh.out j hj hj⟩)
            go_wp2
            go_ret
            exact bool_ret (by simpa using HT.out)
      · have HF : Hid (¬ nameB s = true) := fun h => by have := (HN.out.1 h).2.2.1 hp'; omega
        clear HN
        go_enter Tryz.func73, Tryz.ntmps73
        go_wp2
        all_goals
          go_ret
          exact bool_ret (by simpa using HF.out)
    · have HF : Hid (¬ nameB s = true) := fun h => by have := (HN.out.1 h).2.2.1 hp'; omega
      clear HN
      go_enter Tryz.func73, Tryz.ntmps73
      go_wp2
      all_goals
        go_ret
        exact bool_ret (by simpa using HF.out)
  · have HF : Hid (¬ nameB s = true) := fun h => by have := HN.out.1 h; omega
    clear HN
    go_enter Tryz.func73, Tryz.ntmps73
    go_wp2
    all_goals
      go_ret
      exact bool_ret (by simpa using HF.out)
set_option maxHeartbeats 1000000 in
theorem rName_any (s : ByteArray) (w : World) (hs : s.size ≤ 100) :
    Calls Tryz.prog 97 #[.string s] w (BoolEnd (nameB s) w) := by
  have HN := Lib.hid (nameB_iff s)
  by_cases hz0 : s.size = 0
  · have hz : ((s.size : Int) == 0) = true := by rw [beq_iff_eq]; omega
    have HF : Hid (¬ nameB s = true) := fun h => by have := HN.out.1 h; omega
    have hz1 : (s.size : Int) < 1 := by omega
    have HZ := Lib.hid hz0; clear hz0
    go_enter Tryz.func97, Tryz.ntmps97
    go_wp2
    all_goals
      go_ret
      exact bool_ret (by simpa using HF.out)
  have hz : ((s.size : Int) == 0) = false := by rw [beq_eq_false_iff_ne]; omega
  have hp : 1 ≤ (s.size : Int) := by omega
  have hp' : 0 < s.size := by omega
  by_cases h24 : s.size ≤ 24
  · by_cases h97 : 97 ≤ (s[0].toNat : Int)
    · by_cases h122 : (s[0].toNat : Int) ≤ 122
      · have HQ : Hid (∀ k (h : k < 0), ∀ h' : k < s.size, okc s[k] = true) := fun k h => absurd h (by omega)
        go_enter Tryz.func97, Tryz.ntmps97
        go_wp2
        go_loop [3] (fun x => ∃ k : Nat, k ≤ s.size ∧ x = .int .i64 k ∧ Hid (∀ j (h : j < k) (h' : j < s.size), okc s[j] = true)) (fun x => s.size - (intOf x).toNat)
        case atStart => exact ⟨0, by omega, rfl, HQ⟩
        case round =>
          obtain ⟨k, hk, rfl, hh⟩ := hrel
          clear HQ
          by_cases hlt : k < s.size
          · have hokc : okc s[k] = true ↔ ((97 ≤ (s[k].toNat : Int) ∧ (s[k].toNat : Int) ≤ 122) ∨ (48 ≤ (s[k].toNat : Int) ∧ (s[k].toNat : Int) ≤ 57) ∨ (s[k].toNat : Int) = 45) := by
              unfold okc; simp only [Bool.or_eq_true, Bool.and_eq_true, decide_eq_true_eq]; exact or_assoc
            have HO := Lib.hid hokc; clear hokc
            have HY : okc s[k] = true → Hid (∀ j (h : j < k + 1) (h' : j < s.size), okc s[j] = true) := fun ho j h h' => by
              by_cases e : j = k
              · subst e; exact ho
              · exact hh.out j (by omega) h'
            have HX : ¬ okc s[k] = true → ¬ nameB s = true := fun ho hn => ho ((HN.out.1 hn).2.2.2 k hlt)
            have HY' := Lib.hid HY; clear HY
            have HX' := Lib.hid HX; clear HX
            by_cases c1 : 97 ≤ (s[k].toNat : Int) <;> by_cases c2 : (s[k].toNat : Int) ≤ 122 <;> by_cases c3 : 48 ≤ (s[k].toNat : Int) <;> by_cases c4 : (s[k].toNat : Int) ≤ 57 <;> by_cases c5 : (s[k].toNat : Int) = 45
            all_goals first | (exfalso; omega) | skip
            all_goals
              first
                | (have c6 : ((s[k].toNat : Int) != 45) = false := by rw [c5]; rfl
                   have hok : okc s[k] = true := HO.out.2 (by omega)
                   have H1 := HY'.out hok
                   have C5 := Lib.hid c5
                   clear hok HO HX' HY' hh HN c5
                   go_wp2
                   go_round
                   case rel => exact ⟨k + 1, by omega, by go_num, H1⟩
                   case measure => simp [intOf]; omega)
                | (have hok : okc s[k] = true := HO.out.2 (by omega)
                   have H1 := HY'.out hok
                   have c6 : ((s[k].toNat : Int) != 45) = true := by rw [bne_iff_ne]; exact c5
                   have C5 := Lib.hid c5
                   clear hok HO HX' HY' hh HN c5
                   go_wp2
                   go_round
                   case rel => exact ⟨k + 1, by omega, by go_num, H1⟩
                   case measure => simp [intOf]; omega)
                | (have hok : ¬ okc s[k] = true := fun h => by have := HO.out.1 h; omega
                   have H1 := Lib.hid (HX'.out hok)
                   have c6 : ((s[k].toNat : Int) != 45) = true := by rw [bne_iff_ne]; exact c5
                   have C5 := Lib.hid c5
                   clear hok HO HX' HY' hh HN c5
                   go_wp2
                   go_ret
                   exact bool_ret (by simpa using H1.out))
          · obtain rfl : k = s.size := by omega
            have HT := Lib.hid (HN.out.2 ⟨by omega, h24, fun _ => ⟨h97, h122⟩, fun j hj => hh.out j hj hj⟩)
            go_wp2
            go_ret
            exact bool_ret (by simpa using HT.out)
      · have HF : Hid (¬ nameB s = true) := fun h => by have := (HN.out.1 h).2.2.1 hp'; omega
        clear HN
        go_enter Tryz.func97, Tryz.ntmps97
        go_wp2
        all_goals
          go_ret
          exact bool_ret (by simpa using HF.out)
    · have HF : Hid (¬ nameB s = true) := fun h => by have := (HN.out.1 h).2.2.1 hp'; omega
      clear HN
      go_enter Tryz.func97, Tryz.ntmps97
      go_wp2
      all_goals
        go_ret
        exact bool_ret (by simpa using HF.out)
  · have HF : Hid (¬ nameB s = true) := fun h => by have := HN.out.1 h; omega
    clear HN
    go_enter Tryz.func97, Tryz.ntmps97
    go_wp2
    all_goals
      go_ret
      exact bool_ret (by simpa using HF.out)

def idxL {α : Type} (p : α → Bool) (l : List α) : Int := match l.findIdx? p with | some i => (i : Int) | none => -1
theorem idxL_drop {α : Type} (p : α → Bool) (l : List α) (k : Nat) (hk : k ≤ l.length) (h : ∀ j (hj : j < k) (h' : j < l.length), p l[j] = false) (hp : k = l.length ∨ ∃ h : k < l.length, p l[k] = true) :
    idxL p l = if k < l.length then (k : Int) else -1 := by
  unfold idxL
  rcases hp with rfl | ⟨hlt, hp⟩
  · have : l.findIdx? p = none := by
      rw [List.findIdx?_eq_none_iff]; intro x hx
      obtain ⟨j, hj, rfl⟩ := List.getElem_of_mem hx
      exact h j hj hj
    rw [this]; simp
  · have : l.findIdx? p = some k := by
      rw [List.findIdx?_eq_some_iff_getElem]
      exact ⟨hlt, hp, fun j hj => by simpa using h j hj (by omega)⟩
    rw [this]; simp [hlt]
theorem idxL_any {α : Type} (p : α → Bool) (l : List α) : (0 ≤ idxL p l) = (l.any p = true) := by
  unfold idxL
  cases h : l.findIdx? p with
  | none => 
    have := List.findIdx?_eq_none_iff.1 h
    simp; exact fun x hx => by simpa using this x hx
  | some i =>
    obtain ⟨hi, hp, _⟩ := List.findIdx?_eq_some_iff_getElem.1 h
    simp
    exact ⟨_, List.getElem_mem hi, hp⟩

theorem idxL_dec {α : Type} (p : α → Bool) (l : List α) : decide (0 ≤ idxL p l) = l.any p := by rw [Bool.eq_iff_iff, decide_eq_true_iff, idxL_any]

def ShEnd (b : Bool) (w : World) (e : Ending) (w' : World) : Prop := e = .returned (.bool b) ∧ Below w.heap.size w w'
theorem sh_ret {b c : Bool} {w w' : World} (h : c = b) (hb : Below w.heap.size w w') : ShEnd b w (.returned (.bool c)) w' := ⟨by rw [h], hb⟩


theorem str_eq (s v : ByteArray) : (s.toList == v.toList) = decide (s = v) := by
  rw [Bool.eq_iff_iff, beq_iff_eq, decide_eq_true_iff, ByteArray.toList_eq, ByteArray.toList_eq]
  constructor
  · intro h
    have h' := Array.toList_inj.1 h
    cases s; cases v; simpa using h'
  · rintro rfl; rfl
def strsC (l : List ByteArray) : List Value := l.map Value.string
set_option maxHeartbeats 400000 in
theorem indexS_any (l : List ByteArray) (s : ByteArray) (A : Option Addr) (c : Nat) (w : World) (hl : Lies w w.heap.size A (strsC l)) (hm : l.length ≤ 1000) :
    Calls Tryz.prog 146 #[.slice A l.length c, .string s] w fun e w' => e = .returned (.int .i64 (idxL (fun x => decide (s = x)) l)) ∧ w = w' := by
  go_enter Tryz.func146, Tryz.ntmps146
  go_wp2
  go_loop [8] (fun y => ∃ k : Nat, k ≤ l.length ∧ y = .int .i64 k ∧ Hid (∀ j (hj : j < k) (h' : j < l.length), decide (s = l[j]) = false)) (fun y => l.length - (intOf y).toNat)
  case atStart => exact ⟨0, by omega, rfl, fun j hj => absurd hj (by omega)⟩
  case round =>
    obtain ⟨k, hk, rfl, hg⟩ := hrel
    by_cases hlt : k < l.length
    · obtain ⟨ad, u, rfl, _, hu, hcell⟩ := hl.at_ (k := k) (by simpa [strsC] using hlt)
      obtain ⟨v, hv⟩ : ∃ v, v = l[k] := ⟨_, rfl⟩
      obtain rfl : u = .string v := by simp [strsC, List.getElem?_eq_getElem hlt] at hu; rw [hv]; exact hu.symm
      have HV := Lib.hid hv; clear hu hl hv
      by_cases h0 : s = v
      · have H : Hid (idxL (fun x => decide (s = x)) l = (k : Int)) := by
          have := idxL_drop (fun x => decide (s = x)) l k hk hg.out (.inr ⟨hlt, by rw [← HV.out]; exact decide_eq_true h0⟩)
          rw [if_pos hlt] at this; exact this
        have hb : (s.toList == v.toList) = true := by rw [str_eq]; simpa using h0
        have H0 := Lib.hid h0; clear h0
        go_wp2
        go_ret
        exact ⟨ret_int H.out.symm, rfl⟩
      · have H : Hid (∀ j (hj : j < k + 1) (h' : j < l.length), decide (s = l[j]) = false) := fun j hj h' => by
          by_cases e : j = k
          · subst e; rw [← HV.out]; exact decide_eq_false h0
          · exact hg.out j (by omega) h'
        have hb : (s.toList == v.toList) = false := by rw [str_eq]; simpa using h0
        have H0 := Lib.hid h0; clear h0
        go_wp2
        go_round
        case rel => exact ⟨k + 1, by omega, by go_num, H⟩
        case measure => simp [intOf]; omega
    · obtain rfl : k = l.length := by omega
      have H : Hid (idxL (fun x => decide (s = x)) l = -1) := by
        have := idxL_drop (fun x => decide (s = x)) l _ hk hg.out (.inl rfl)
        rw [if_neg (by omega)] at this; exact this
      go_wp2
      go_ret
      exact ⟨ret_int H.out.symm, rfl⟩
set_option maxHeartbeats 400000 in
theorem contains_any (l : List ByteArray) (s : ByteArray) (A : Option Addr) (c : Nat) (w : World) (hl : Lies w w.heap.size A (strsC l)) (hm : l.length ≤ 1000) :
    Calls Tryz.prog 118 #[.slice A l.length c, .string s] w fun e w' => e = .returned (.bool (l.any (fun x => decide (s = x)))) ∧ w = w' := by
  go_enter Tryz.func118, Tryz.ntmps118
  go_wp2_with (go_at_call 146; refine (indexS_any l _ _ _ _ hl hm).mono ?_; rintro e w' ⟨rfl, rfl⟩)
  go_ret
  exact ⟨congrArg (fun b => Ending.returned (.bool b)) (idxL_dec _ _), rfl⟩

def twiceB : List ByteArray → Bool := fun l => (List.range l.length).any fun k => match l[k]? with | some s => (l.take k).any (fun x => decide (s = x)) | none => false
theorem twiceB_no {l : List ByteArray} (h : ∀ j (_ : j < l.length), (l.take j).any (fun x => decide (l[j]'‹_› = x)) = false) : twiceB l = false := by
  unfold twiceB
  rw [List.any_eq_false]
  intro k hk
  have hk' : k < l.length := by simpa using hk
  simp only [List.getElem?_eq_getElem hk']
  rw [h k hk']; exact Bool.false_ne_true
theorem twiceB_yes {l : List ByteArray} {j : Nat} (hj : j < l.length) (h : (l.take j).any (fun x => decide (l[j] = x)) = true) : twiceB l = true := by
  unfold twiceB
  rw [List.any_eq_true]
  exact ⟨j, by simpa using hj, by simp only [List.getElem?_eq_getElem hj]; exact h⟩

theorem Lies.take {w : World} {B : Nat} {A : Option Addr} {cs : List Value} (h : Lies w B A cs) (k : Nat) : Lies w B A (cs.take k) := fun hn => by
  obtain ⟨ad, e, hb, hc⟩ := h (by rintro rfl; simp at hn)
  refine ⟨ad, e, hb, fun j u hu => hc j u ?_⟩
  rw [List.getElem?_take] at hu
  split at hu
  · exact hu
  · cases hu

set_option maxHeartbeats 400000 in
theorem twice_any (l : List ByteArray) (A : Option Addr) (c : Nat) (w : World) (hl : Lies w w.heap.size A (strsC l)) (hm : l.length ≤ 1000) (hc : l.length ≤ c) (hc2 : c ≤ maxLen) :
    Calls Tryz.prog 74 #[.slice A l.length c] w (BoolEnd (twiceB l) w) := by
  unfold maxLen at hc2
  go_enter Tryz.func74, Tryz.ntmps74
  go_wp2
  go_loop [7] (fun y => ∃ k : Nat, k ≤ l.length ∧ y = .int .i64 k ∧ Hid (∀ j (hj : j < k) (h' : j < l.length), (l.take j).any (fun x => decide (l[j] = x)) = false)) (fun y => l.length - (intOf y).toNat)
  case atStart => exact ⟨0, by omega, rfl, fun j hj => absurd hj (by omega)⟩
  case round =>
    obtain ⟨k, hk, rfl, hg⟩ := hrel
    by_cases hlt : k < l.length
    · obtain ⟨ad, u, rfl, _, hu, hcell⟩ := hl.at_ (k := k) (by simpa [strsC] using hlt)
      obtain ⟨v, hv⟩ : ∃ v, v = l[k] := ⟨_, rfl⟩
      obtain rfl : u = .string v := by simp [strsC, List.getElem?_eq_getElem hlt] at hu; rw [hv]; exact hu.symm
      have HV := Lib.hid hv
      have hC := contains_any (l.take k) v (some ad) c w (by have := hl.take k; rwa [← show strsC (l.take k) = (strsC l).take k from List.map_take] at this) (by simp; omega)
      rw [List.length_take, Nat.min_eq_left hk] at hC
      have HC := Lib.hid hC; clear hu hl hv hC
      by_cases h0 : (l.take k).any (fun x => decide (v = x)) = true
      · have H : Hid (twiceB l = true) := twiceB_yes hlt (by rw [← HV.out]; exact h0)
        have H0 := Lib.hid h0; clear h0
        go_wp2_with (go_at_call 118; refine HC.out.mono ?_; rintro e w' ⟨rfl, rfl⟩; rw [H0.out])
        go_ret
        exact bool_ret (by simpa using H.out)
      · have h0' : (l.take k).any (fun x => decide (v = x)) = false := by rw [← Bool.not_eq_true]; exact h0
        have H : Hid (∀ j (hj : j < k + 1) (h' : j < l.length), (l.take j).any (fun x => decide (l[j] = x)) = false) := fun j hj h' => by
          by_cases e : j = k
          · subst e; rw [← HV.out]; exact h0'
          · exact hg.out j (by omega) h'
        have H0 := Lib.hid h0'; clear h0 h0'
        go_wp2_with (go_at_call 118; refine HC.out.mono ?_; rintro e w' ⟨rfl, rfl⟩; rw [H0.out])
        go_round
        case rel => exact ⟨k + 1, by omega, by go_num, H⟩
        case measure => simp [intOf]; omega
    · obtain rfl : k = l.length := by omega
      have H : Hid (twiceB l = false) := twiceB_no (fun j hj => hg.out j hj hj)
      go_wp2
      go_ret
      exact bool_ret (by rw [H.out])
def IntEnd (n : Int) (w : World) (e : Ending) (w' : World) : Prop := e = .returned (.int .i64 n) ∧ Below w.heap.size w w'
theorem int_end {m n : Int} {w w' : World} (h : m = n) (hb : Below w.heap.size w w') : IntEnd n w (.returned (.int .i64 m)) w' := ⟨by rw [h], hb⟩

open World in
theorem ownsRow_lies {w : World} {base : Nat} {e : TypeId} {A : Option Addr} {size n c : Nat} {xs : List Value} (h : w.ownsRow base e size (.slice A n c) n xs) : Lies w w.heap.size A xs := fun hn => by
  have hpos : 0 < n := by
    have := h.1
    rcases Nat.eq_zero_or_pos n with h0 | h0
    · subst h0; simp at this; exact absurd this hn
    · exact h0
  obtain ⟨g, cap, hv, _, hlt⟩ := h.form hpos
  have hA : A = some ⟨g, 0, none⟩ := by injection hv
  subst hA
  exact ⟨_, rfl, hlt, h.cells (g := g) rfl⟩
theorem isName_any (s : ByteArray) (w : World) (hs : s.size ≤ 100) : Calls Tryz.prog 73 #[.string s] w (BoolEnd (nameB s) w) := isName_big s w (by omega)
end Go.Proofs.YtkfeagokmcakgaaGreatDoor

namespace Go.Proofs.YtkfeagokmcakgaaGreatDoor

/-- the fields of a rule are as its kind wants -/
def shpB (r : Rul) : Bool :=
  if r.kind = 1 ∨ r.kind = 2 then nameB r.x && decide (r.y.size = 0) && decide (r.of = 0)
  else if r.kind = 3 ∨ r.kind = 4 then nameB r.x && nameB r.y && decide (r.of = 0)
  else if r.kind = 5 then nameB r.x && nameB r.y && decide (r.of = 0) && !decide (r.x = r.y)
  else if r.kind = 6 then decide (r.x.size = 0) && decide (r.y.size = 0) && decide (1 ≤ r.of) && decide (r.of ≤ 1000000) && !decide (r.of = r.id)
  else false
def frm (r : Rul) : Bool := decide (1 ≤ r.id) && decide (r.id ≤ 1000000) && decide (0 ≤ r.known) && decide (r.known ≤ 100000) && shpB r

def circB (l : List Rul) : Bool := l.any fun r => decide (r.kind = 5) && decide (r.x ∈ grps l r.y)
theorem circB_iff (l : List Rul) : circB l = true ↔ Circ l := by
  unfold circB Circ
  simp only [List.any_eq_true, Bool.and_eq_true, decide_eq_true_eq, grps_iff]
  constructor
  · rintro ⟨r, hr, hk, h⟩; exact ⟨r.x, r.y, ⟨r, hr, hk, rfl, rfl⟩, h⟩
  · rintro ⟨a, b, ⟨r, hr, hk, rfl, rfl⟩, h⟩; exact ⟨r, hr, hk, h⟩

def dupB (l : List Rul) (id : Int) : Bool := l.any fun x => decide (x.id = id)
def ofB (l : List Rul) (id : Int) : Bool := l.any fun x => decide (x.id = id) && !decide (x.kind = 6)
def timeB (l : List Rul) (r : Rul) : Bool := match l.getLast? with | none => false | some p => decide (r.known < p.known)
/-- what is wrong with a rule behind others; c: whether it closes a circle -/
def refG (l : List Rul) (r : Rul) (c : Bool) : Int :=
  if 200 ≤ l.length then 2 else if frm r = false then 1 else if dupB l r.id = true then 6 else if timeB l r = true then 7 else if r.kind = 6 ∧ ofB l r.of = false then 5 else if r.kind = 5 ∧ c = true then 60 else 0
def refE (l : List Rul) (r : Rul) : Int := refG l r (circB (l ++ [r]))
def refR (l : List Rul) (r : Rul) : Int := refG l r (decide (r.x ∈ grps l r.y))
theorem refE_eq (l : List Rul) (r : Rul) (h : ¬ Circ l) : refE l r = refR l r := by
  unfold refE refR
  by_cases hk : r.kind = 5
  · have : circB (l ++ [r]) = decide (r.x ∈ grps l r.y) := by
      rw [Bool.eq_iff_iff, circB_iff, decide_eq_true_eq, grps_iff]
      exact circ_snoc hk h
    rw [this]
  · unfold refG
    have : ∀ c : Bool, ¬ (r.kind = 5 ∧ c = true) := fun c h => hk h.1
    simp only [this, if_false]
theorem refE_ok {l : List Rul} {r : Rul} (h : ¬ Circ l) (e : refE l r = 0) : ¬ Circ (l ++ [r]) := by
  by_cases hk : r.kind = 5
  · intro hc
    have hb := (circB_iff _).2 hc
    unfold refE refG at e
    rw [hb] at e
    repeat' split at e
    all_goals first | omega | (rename_i h5; exact h5 ⟨hk, rfl⟩)
  · rw [circ_other hk]; exact h
theorem circ_nil : ¬ Circ [] := by rintro ⟨a, b, ⟨r, hr, _⟩, _⟩; simp at hr

/-- the first rule that is refused, from place i on -/
def chkG (f : List Rul → Rul → Int) : List Rul → List Rul → Int × Int
  | _, [] => (0, 0)
  | p, r :: l => if f p r = 0 then chkG f (p ++ [r]) l else ((p.length : Int), f p r)
theorem chk_eq : ∀ (l p : List Rul), ¬ Circ p → chkG refE p l = chkG refR p l
  | [], _, _ => rfl
  | r :: l, p, h => by
    unfold chkG
    rw [← refE_eq p r h]
    by_cases e : refE p r = 0
    · rw [if_pos e, if_pos e]; exact chk_eq l _ (refE_ok h e)
    · rw [if_neg e, if_neg e]
def chkL (l : List Rul) : Int × Int := chkG refE [] l
/-- all rules of a list are right -/
def Fine (l : List Rul) : Prop := ∀ i (h : i < l.length), refE (l.take i) l[i] = 0
theorem Fine.take {l : List Rul} (h : Fine l) (k : Nat) : Fine (l.take k) := fun i hi => by
  have hi' : i < k ∧ i < l.length := by simp at hi; omega
  have := h i hi'.2
  rw [List.take_take, Nat.min_eq_left (by omega)]
  rw [List.getElem_take]; exact this
theorem Fine.nocirc {l : List Rul} (h : Fine l) : ¬ Circ l := by
  suffices ∀ k, k ≤ l.length → ¬ Circ (l.take k) by
    have := this l.length (Nat.le_refl _); rwa [List.take_length] at this
  intro k
  induction k with
  | zero => intro _; simpa using circ_nil
  | succ k ih =>
    intro hk
    have := refE_ok (ih (by omega)) (h k (by omega))
    rwa [← List.take_append_getElem (by omega : k < l.length)]
theorem Fine.snoc {l : List Rul} {r : Rul} (h : Fine l) (e : refE l r = 0) : Fine (l ++ [r]) := fun i hi => by
  by_cases hl : i < l.length
  · rw [List.take_append_of_le_length (by omega), List.getElem_append_left hl]; exact h i hl
  · obtain rfl : i = l.length := by simp at hi; omega
    rw [List.take_left, List.getElem_append_right (by omega)]; simpa using e
theorem chkG_fine (l : List Rul) : ∀ k, k ≤ l.length → Fine (l.take k) → chkG refE [] l = chkG refE (l.take k) (l.drop k)
  | 0, _, _ => by simp
  | k + 1, hk, h => by
    have h0 : Fine (l.take k) := by
      have := h.take k
      rwa [List.take_take, Nat.min_eq_left (by omega)] at this
    rw [chkG_fine l k (by omega) h0]
    have e : refE (l.take k) l[k] = 0 := by
      have := h k (by simp; omega)
      rw [List.take_take, Nat.min_eq_left (by omega), List.getElem_take] at this; exact this
    rw [List.drop_eq_getElem_cons (by omega : k < l.length)]
    show (if refE (l.take k) l[k] = 0 then _ else _) = _
    rw [if_pos e, List.take_append_getElem]
theorem chkL_ok {l : List Rul} (h : Fine l) : chkL l = (0, 0) := by
  unfold chkL
  rw [chkG_fine l l.length (Nat.le_refl _) (by rwa [List.take_length]), List.drop_length]; rfl
theorem chkL_bad {l : List Rul} {k : Nat} (hk : k < l.length) (h : Fine (l.take k)) (e : refE (l.take k) l[k] ≠ 0) : chkL l = ((k : Int), refE (l.take k) l[k]) := by
  unfold chkL
  rw [chkG_fine l k (by omega) h, List.drop_eq_getElem_cons hk]
  show (if refE (l.take k) l[k] = 0 then _ else _) = _
  rw [if_neg e, List.length_take, Nat.min_eq_left (by omega)]
theorem chkL_fine {l : List Rul} (h : (chkL l).2 = 0) : Fine l := by
  suffices ∀ k, k ≤ l.length → Fine (l.take k) by
    have := this l.length (Nat.le_refl _); rwa [List.take_length] at this
  intro k
  induction k with
  | zero => intro _ i hi; simp at hi
  | succ k ih =>
    intro hk
    have hf := ih (by omega)
    have e : refE (l.take k) l[k] = 0 := by
      by_cases e : refE (l.take k) l[k] = 0
      · exact e
      · rw [chkL_bad (by omega) hf e] at h; exact absurd h e
    rw [← List.take_append_getElem (by omega : k < l.length)]
    exact hf.snoc e
theorem chkL_ref (l : List Rul) : chkL l = chkG refR [] l := chk_eq l [] circ_nil
/-- a book with one more rule -/
def appE (l : List Rul) (r : Rul) : Int := if (chkL l).2 = 0 then refE l r else (chkL l).2
end Go.Proofs.YtkfeagokmcakgaaGreatDoor

namespace Go.Proofs.YtkfeagokmcakgaaGreatDoor

def voidB (l : List Rul) (known id : Int) : Bool := l.any fun v => frm v && decide (v.known ≤ known) && decide (v.kind = 6) && decide (v.of = id)
def cntB (l : List Rul) (known : Int) (r : Rul) : Bool := frm r && decide (r.known ≤ known) && !decide (r.kind = 6) && !voidB l known r.id
def cntL (l : List Rul) (known : Int) : List Rul := l.filter (cntB l known)
def inG (l : List Rul) (x z : ByteArray) : Bool := decide (z ∈ grps l x)
theorem inG_iff (l : List Rul) (x z : ByteArray) : inG l x z = true ↔ Reach l x z := by unfold inG; rw [decide_eq_true_eq, grps_iff]
def abtB (l : List Rul) (x : ByteArray) (r : Rul) : Bool := (decide (r.kind = 1) || decide (r.kind = 2)) && inG l x r.x
def abtL (l : List Rul) (x : ByteArray) : List Rul := l.filter (abtB l x)
/-- the state of a name, of what is said about it -/
def sttA (m : List Rul) : Nat := (if m.any (fun r => decide (r.kind = 1)) = true then 1 else 0) + (if m.any (fun r => !decide (r.kind = 1)) = true then 2 else 0)
def stt (l : List Rul) (x : ByteArray) : Nat := sttA (abtL l x)
/-- a rule of a kind is about two names -/
def barB (l : List Rul) (kind : Int) (x y : ByteArray) (back : Bool) (r : Rul) : Bool := decide (r.kind = kind) && (inG l x r.x && inG l y r.y || back && inG l y r.x && inG l x r.y)
def barL (l : List Rul) (kind : Int) (x y : ByteArray) (back : Bool) : Bool × Int := match l.find? (barB l kind x y back) with | none => (true, 0) | some r => (false, r.id)

/-- names as a set -/
def sNone : ByteArray → Bool := fun _ => false
def sPut (S : ByteArray → Bool) (x : ByteArray) : ByteArray → Bool := fun z => decide (z = x) || S z
/-- a search from x has turned S into S' -/
structure Dfs (l : List Rul) (S S' : ByteArray → Bool) (x : ByteArray) : Prop where
  sub : ∀ z, S z = true → S' z = true
  own : S' x = true
  rch : ∀ z, S' z = true → S z = true ∨ Reach l x z
  cls : ∀ z, S' z = true → S z = true ∨ ∀ v, edge l z v → S' v = true
/-- a search from x, its first k rules done -/
structure DfsM (l : List Rul) (S S' : ByteArray → Bool) (x : ByteArray) (k : Nat) : Prop where
  sub : ∀ z, S z = true → S' z = true
  own : S' x = true
  rch : ∀ z, S' z = true → S z = true ∨ Reach l x z
  cls : ∀ z, S' z = true → S z = true ∨ z = x ∨ ∀ v, edge l z v → S' v = true
  did : ∀ j (h : j < l.length), j < k → l[j].kind = 5 → l[j].x = x → S' l[j].y = true
theorem Dfs.old {l : List Rul} {S : ByteArray → Bool} {x : ByteArray} (h : S x = true) : Dfs l S S x := ⟨fun _ h => h, h, fun _ h => .inl h, fun _ h => .inl h⟩
theorem DfsM.start (l : List Rul) (S : ByteArray → Bool) (x : ByteArray) : DfsM l S (sPut S x) x 0 :=
  ⟨fun z h => by unfold sPut; rw [h, Bool.or_true], by unfold sPut; simp, fun z h => by
    unfold sPut at h
    rcases Bool.or_eq_true_iff.1 h with e | e
    · rw [decide_eq_true_eq] at e; subst e; exact .inr (.refl _)
    · exact .inl e, fun z h => by
    unfold sPut at h
    rcases Bool.or_eq_true_iff.1 h with e | e
    · exact .inr (.inl (by simpa using e))
    · exact .inl e, fun j _ h => absurd h (by omega)⟩
theorem DfsM.skip {l : List Rul} {S S' : ByteArray → Bool} {x : ByteArray} {k : Nat} (h : DfsM l S S' x k) (hk : k < l.length) (hn : ¬ (l[k].kind = 5 ∧ l[k].x = x)) : DfsM l S S' x (k + 1) :=
  ⟨h.sub, h.own, h.rch, h.cls, fun j hj hlt h5 hx => by
    by_cases e : j = k
    · subst e; exact absurd ⟨h5, hx⟩ hn
    · exact h.did j hj (by omega) h5 hx⟩
theorem DfsM.take {l : List Rul} {S S' T : ByteArray → Bool} {x : ByteArray} {k : Nat} (h : DfsM l S S' x k) (hk : k < l.length) (h5 : l[k].kind = 5) (hx : l[k].x = x) (g : Dfs l S' T l[k].y) : DfsM l S T x (k + 1) :=
  ⟨fun z hz => g.sub z (h.sub z hz), g.sub x h.own, fun z hz => by
    rcases g.rch z hz with e | e
    · exact h.rch z e
    · exact .inr (.step ⟨l[k], List.getElem_mem hk, h5, hx, rfl⟩ e), fun z hz => by
    rcases g.cls z hz with e | e
    · rcases h.cls z e with e | e | e
      · exact .inl e
      · exact .inr (.inl e)
      · exact .inr (.inr fun v hv => g.sub v (e v hv))
    · exact .inr (.inr e), fun j hj hlt h5' hx' => by
    by_cases e : j = k
    · subst e; exact g.own
    · exact g.sub _ (h.did j hj (by omega) h5' hx')⟩
theorem DfsM.done {l : List Rul} {S S' : ByteArray → Bool} {x : ByteArray} (h : DfsM l S S' x l.length) : Dfs l S S' x :=
  ⟨h.sub, h.own, h.rch, fun z hz => by
    rcases h.cls z hz with e | e | e
    · exact .inl e
    · subst e
      refine .inr ?_
      rintro v ⟨r, hr, h5, hx, rfl⟩
      obtain ⟨j, hj, rfl⟩ := List.getElem_of_mem hr
      exact h.did j hj hj h5 hx
    · exact .inr e⟩
theorem Dfs.all {l : List Rul} {S' : ByteArray → Bool} {x : ByteArray} (h : Dfs l sNone S' x) : S' = inG l x := by
  funext z
  rw [Bool.eq_iff_iff, inG_iff]
  constructor
  · intro hz
    rcases h.rch z hz with e | e
    · exact absurd e (by simp [sNone])
    · exact e
  · intro hr
    refine hr.inv (P := fun v => S' v = true) h.own fun u v hu he => ?_
    rcases h.cls u hu with e | e
    · exact absurd e (by simp [sNone])
    · exact e v he
/-- how many names are still to be met -/
def left (U : List ByteArray) (S : ByteArray → Bool) : Nat := (U.filter fun z => !S z).length
theorem left_le (U : List ByteArray) {S S' : ByteArray → Bool} (h : ∀ z, S z = true → S' z = true) : left U S' ≤ left U S := by
  unfold left
  induction U with
  | nil => exact Nat.le_refl _
  | cons a U ih =>
    simp only [List.filter_cons]
    cases h1 : S a with
    | true => rw [h a h1]; simpa using ih
    | false => cases h2 : S' a <;> simp <;> omega
theorem left_put (U : List ByteArray) (S : ByteArray → Bool) {x : ByteArray} (hx : x ∈ U) (hS : S x = false) : left U (sPut S x) + 1 ≤ left U S := by
  unfold left
  induction U with
  | nil => simp at hx
  | cons a U ih =>
    simp only [List.filter_cons]
    by_cases e : a = x
    · subst e
      have h2 : sPut S a a = true := by unfold sPut; simp
      rw [h2, hS]
      have := left_le U (S := S) (S' := sPut S a) fun z h => by unfold sPut; rw [h, Bool.or_true]
      unfold left at this
      simp; omega
    · have h2 : sPut S x a = S a := by unfold sPut; simp [e]
      rw [h2]
      have := ih (by rcases List.mem_cons.1 hx with h | h; exact absurd h.symm e; exact h)
      split <;> simp <;> omega

/-- the way of the search for circles -/
structure Way (l : List Rul) (way : List ByteArray) (x : ByteArray) : Prop where
  nd : way.Nodup
  xs : ∀ z ∈ way, ∃ r ∈ l, r.x = z
  goes : ∀ z ∈ way, ∃ v, edge l z v ∧ Reach l v x
theorem Way.nil (l : List Rul) (x : ByteArray) : Way l [] x := ⟨by simp, by simp, by simp⟩
theorem Way.circ {l : List Rul} {way : List ByteArray} {x : ByteArray} (h : Way l way x) (hx : x ∈ way) : Circ l := by
  obtain ⟨v, he, hr⟩ := h.goes x hx
  exact ⟨x, v, he, hr⟩
theorem Way.next {l : List Rul} {way : List ByteArray} {x : ByteArray} (h : Way l way x) (hx : x ∉ way) {r : Rul} (hr : r ∈ l) (h5 : r.kind = 5) (e : r.x = x) : Way l (way ++ [x]) r.y :=
  have he : edge l x r.y := ⟨r, hr, h5, e, rfl⟩
  ⟨by rw [List.nodup_append]; exact ⟨h.nd, by simp, fun a ha b hb e' => hx (by simp at hb; rw [← hb, ← e']; exact ha)⟩, fun z hz => by
    rcases List.mem_append.1 hz with g | g
    · exact h.xs z g
    · simp at g; subst g; exact ⟨r, hr, e⟩, fun z hz => by
    rcases List.mem_append.1 hz with g | g
    · obtain ⟨v, h1, h2⟩ := h.goes z g; exact ⟨v, h1, h2.snoc he⟩
    · simp at g; subst g; exact ⟨r.y, he, .refl _⟩⟩
theorem Way.len {l : List Rul} {way : List ByteArray} {x : ByteArray} (h : Way l way x) : way.length ≤ l.length := by
  have := nodup_len way (l.map Rul.x) h.nd fun z hz => by
    obtain ⟨r, hr, e⟩ := h.xs z hz
    exact List.mem_map.2 ⟨r, hr, e⟩
  simpa using this
/-- names of which it is known that no circle is reached -/
def Good (l : List Rul) (D : ByteArray → Bool) : Prop := ∀ z, D z = true → ¬ Bad l z
theorem Good.put {l : List Rul} {D : ByteArray → Bool} {x : ByteArray} (h : Good l D) (hd : ∀ j (h : j < l.length), l[j].kind = 5 → l[j].x = x → D l[j].y = true) : Good l (sPut D x) := fun z hz => by
  unfold sPut at hz
  rcases Bool.or_eq_true_iff.1 hz with e | e
  · rw [decide_eq_true_eq] at e; subst e
    refine bad_step ?_
    rintro v ⟨r, hr, h5, hx, rfl⟩
    obtain ⟨j, hj, rfl⟩ := List.getElem_of_mem hr
    exact h _ (hd j hj h5 hx)
  · exact h z e
end Go.Proofs.YtkfeagokmcakgaaGreatDoor

namespace Go.Proofs.YtkfeagokmcakgaaGreatDoor
open Go.RowKit

abbrev Rul.agg (r : Rul) : Value := .agg #[.int .i64 r.id, .int .i64 r.known, .int .u8 r.kind, .string r.x, .string r.y, .int .i64 r.of]
def Rul.cells (r : Rul) : List Value := [.int .i64 r.id, .int .i64 r.known, .int .u8 r.kind, .string r.x, .string r.y, .int .i64 r.of]
def rulesC (l : List Rul) : List Value := l.flatMap Rul.cells
theorem rulesC_length (l : List Rul) : (rulesC l).length = l.length * 6 := by
  induction l with
  | nil => rfl
  | cons t r ih => simp only [rulesC, List.flatMap_cons, List.length_append] at *; rw [ih]; simp [Rul.cells]; omega
theorem rulesC_app (l m : List Rul) : rulesC (l ++ m) = rulesC l ++ rulesC m := by unfold rulesC; rw [List.flatMap_append]
theorem rulesC_at (l : List Rul) (k : Nat) (hk : k < l.length) (j : Nat) (hj : j < 6) : (rulesC l)[k * 6 + j]? = (l[k]).cells[j]? := by
  induction l generalizing k with
  | nil => simp at hk
  | cons t r ih =>
    simp only [rulesC, List.flatMap_cons] at *
    cases k with
    | zero => rw [List.getElem?_append_left (by simp [Rul.cells]; omega)]; simp
    | succ k =>
      rw [List.getElem?_append_right (by simp [Rul.cells]; omega)]
      have : (k + 1) * 6 + j - t.cells.length = k * 6 + j := by simp [Rul.cells]; omega
      rw [this, ih k (by simpa using hk)]; simp
theorem add_rec (a : Addr) (i j : Nat) (hj : 0 < j) : a.add (i + j) = ⟨(a.add i).block, (a.add i).off + j, none⟩ := by
  rw [← add_add']; unfold Addr.add; rw [if_neg (by omega)]
/-- what the walk asks of rule k -/
theorem rule_at {w : World} {B : Nat} {A : Option Addr} {l : List Rul} (h : Lies w B A (rulesC l)) {k : Nat} (hk : k < l.length) :
    ∃ ad, A = some ad ∧ ad.block < B ∧ w.cell? (ad.add (k * 6)) = some (.int .i64 l[k].id) ∧ w.cell? ⟨(ad.add (k * 6)).block, (ad.add (k * 6)).off + 1, none⟩ = some (.int .i64 l[k].known) ∧ w.cell? ⟨(ad.add (k * 6)).block, (ad.add (k * 6)).off + 2, none⟩ = some (.int .u8 l[k].kind)
      ∧ w.cell? ⟨(ad.add (k * 6)).block, (ad.add (k * 6)).off + 3, none⟩ = some (.string l[k].x) ∧ w.cell? ⟨(ad.add (k * 6)).block, (ad.add (k * 6)).off + 4, none⟩ = some (.string l[k].y) ∧ w.cell? ⟨(ad.add (k * 6)).block, (ad.add (k * 6)).off + 5, none⟩ = some (.int .i64 l[k].of) := by
  obtain ⟨ad, e, hb, hc⟩ := h (by intro e; have := rulesC_length l; rw [e] at this; simp at this; omega)
  refine ⟨ad, e, hb, hc _ _ (rulesC_at l k hk 0 (by omega)), ?_, ?_, ?_, ?_, ?_⟩
  · rw [← add_rec _ _ _ (by omega)]; exact hc _ _ (rulesC_at l k hk 1 (by omega))
  · rw [← add_rec _ _ _ (by omega)]; exact hc _ _ (rulesC_at l k hk 2 (by omega))
  · rw [← add_rec _ _ _ (by omega)]; exact hc _ _ (rulesC_at l k hk 3 (by omega))
  · rw [← add_rec _ _ _ (by omega)]; exact hc _ _ (rulesC_at l k hk 4 (by omega))
  · rw [← add_rec _ _ _ (by omega)]; exact hc _ _ (rulesC_at l k hk 5 (by omega))
theorem Lies.prefix {w : World} {B : Nat} {A : Option Addr} {c d : List Value} (h : Lies w B A (c ++ d)) : Lies w B A c := fun hn => by
  obtain ⟨ad, e, hb, hc⟩ := h (by simp [hn])
  refine ⟨ad, e, hb, fun j u hu => hc j u ?_⟩
  rw [List.getElem?_append_left (List.getElem?_eq_some_iff.1 hu).1]; exact hu
theorem Lies.rtake {w : World} {B : Nat} {A : Option Addr} {l : List Rul} (h : Lies w B A (rulesC l)) (k : Nat) : Lies w B A (rulesC (l.take k)) := by
  have : rulesC l = rulesC (l.take k) ++ rulesC (l.drop k) := by rw [← rulesC_app, List.take_append_drop]
  rw [this] at h; exact h.prefix
/-- what is asked of rules that the statements take: names are short, numbers in their kinds -/
def RulOK (l : List Rul) : Prop := ∀ r ∈ l, r.x.size ≤ 100 ∧ r.y.size ≤ 100 ∧ (0 ≤ r.kind ∧ r.kind ≤ 255)
end Go.Proofs.YtkfeagokmcakgaaGreatDoor
