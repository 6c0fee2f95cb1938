/- Words for memory that this claim's walks share: cells of a slice,a block known whole. -/
import Derived.Test.YtkjceegmmhnajaaRows
import Derived.WalkKit
import Derived.WalkSpells
import Derived.Deep.Draws

set_option linter.unusedVariables false
set_option linter.unusedSimpArgs false

namespace Go.Proofs.Ytkjceegmmhnajaa
open Go.RowKit

theorem ret_int {k : IntKind} {a b : Int} (h : a = b) : Ending.returned (.int k a) = .returned (.int k b):=by rw [h]
def Lies (w : World) (B : Nat) (A : Option Addr) (cs : List Value) : Prop :=
 cs ≠ [] → ∃ ad,A = some ad ∧ ad.block < B ∧ ∀ j u,cs[j]? = some u → w.cell? (ad.add j) = some u
def ints (l : List Int) : List Value:=l.map (Value.int .i64)
theorem Lies.at_ {w : World} {B : Nat} {A : Option Addr} {cs : List Value} (h : Lies w B A cs) {k : Nat} (hk : k < cs.length) :
  ∃ ad u,A = some ad ∧ ad.block < B ∧ cs[k]? = some u ∧ w.cell? (ad.add k) = some u:=by
 obtain ⟨ad,e,hb,hc⟩:=h (by intro e; rw [e] at hk; simp at hk)
 exact ⟨ad,cs[k],e,hb,List.getElem?_eq_getElem hk,hc k _ (List.getElem?_eq_getElem hk)⟩
theorem add_block (a : Addr) (n : Nat) : (a.add n).block = a.block:=by unfold Addr.add; split <;> rfl
theorem add_add' (a : Addr) (i j : Nat) : (a.add i).add j = a.add (i + j):=by
 unfold Addr.add
 by_cases hi : i = 0 <;> by_cases hj : j = 0 <;> simp [hi,hj,Nat.add_assoc]
theorem Lies.keep {w w' : World} {B : Nat} {A : Option Addr} {cs : List Value} (h : Lies w B A cs) (hk : ∀ p : Addr,p.block < B → w'.cell? p = w.cell? p) : Lies w' B A cs :=
 fun hn=>by
  obtain ⟨ad,e,hb,hc⟩:=h hn
  exact ⟨ad,e,hb,fun j u hu=>(hk _ (by rw [add_block]; exact hb)).trans (hc j u hu)⟩
theorem Lies.below {w w' : World} {B B' : Nat} {A : Option Addr} {cs : List Value} (h : Lies w B A cs) (hb : Below B' w w') (hB : B ≤ B') : Lies w' B A cs :=
 h.keep fun _ hp=>hb.cell (by omega)
theorem Lies.more {w : World} {B B' : Nat} {A : Option Addr} {cs : List Value} (h : Lies w B A cs) (hB : B ≤ B') : Lies w B' A cs :=
 fun hn=>by obtain ⟨ad,e,hb,hc⟩:=h hn; exact ⟨ad,e,by omega,hc⟩

theorem Lies.lit {w : World} {b B : Nat} {cs : List Value} (h : ∀ j u,cs[j]? = some u → w.cell? ⟨b,j,none⟩ = some u) (hb : b < B) : Lies w B (some ⟨b,0,none⟩) cs :=
 fun _=>⟨_,rfl,hb,fun j u hu=>by
  have e : (⟨b,0,none⟩ : Addr).add j = ⟨b,j,none⟩:=by unfold Addr.add; split <;> simp_all
  rw [e]; exact h j u hu⟩
theorem Lies.new (w : World) (cs : Array Value) (t : TypeId) {B : Nat} (hB : w.heap.size < B) : Lies (w.alloc (.cells cs t)) B (some ⟨w.heap.size,0,none⟩) cs.toList :=
 Lies.lit (fun j u hu=>by rw [cell_of_row _ _ j cs t (0,0) (heap_alloc_new w _)]; simpa using hu) hB

theorem Lies.fresh {w X : World} {cs : Array Value} {t : TypeId} {b B : Nat} {l : List Value} (hX : w.heap = X.heap.push (.cells cs t)) (hb : X.heap.size = b) (hB : b < B) (hl : l = cs.toList) : Lies w B (some ⟨b,0,none⟩) l:=by
 subst hb; subst hl
 refine (Lies.new X cs t hB).keep fun p _=>?_
 unfold World.cell?
 rw [hX]; rfl


def Bk (w : World) (g : Nat) (t : TypeId) (cs : Array Value) : Prop:=w.heap[g]? = some (.cells cs t (0,0))
section
variable {w w' : World} {g : Nat} {t : TypeId} {cs : Array Value}
theorem Bk.lt (h : Bk w g t cs) : g < w.heap.size:=by
 unfold Bk at h
 exact (Array.getElem?_eq_some_iff.1 h).1
theorem Bk.cell (h : Bk w g t cs) (i : Nat) {v : Value} (hv : cs[i]? = some v) : w.cell? ⟨g,i,none⟩ = some v:=(cell_of_row w g i cs t (0,0) h).trans hv
theorem Bk.fro (h : Bk w g t cs) (i : Nat) : w.frozen? ⟨g,i,none⟩ = false:=by
 unfold Bk at h
 simp [World.frozen?,h]
theorem Bk.new (w : World) (t : TypeId) (cs : Array Value) : Bk (w.alloc (.cells cs t)) w.heap.size t cs:=heap_alloc_new w _
theorem Bk.drew (h : Bk w g t cs) : Bk w.drew g t cs:=h
theorem Bk.drewN (h : Bk w g t cs) (n : Nat) : Bk (w.drewN n) g t cs:=h
theorem Bk.alloc (h : Bk w g t cs) (o : Obj) : Bk (w.alloc o) g t cs:=(Below.heap_alloc w o g h.lt).trans h
theorem Bk.set (h : Bk w g t cs) (i : Nat) (u : Value) : Bk (w.setCell ⟨g,i,none⟩ u) g t (cs.setIfInBounds i u):=by
 unfold Bk at h ⊢
 simp [World.setCell,Array.getElem?_modify,h]
theorem Bk.far (h : Bk w g t cs) {p : Addr} (hp : g ≠ p.block) (u : Value) : Bk (w.setCell p u) g t cs:=(Below.heap_setCell w p u g hp).trans h
theorem Bk.below {B : Nat} (h : Bk w g t cs) (hb : Below B w w') (hg : g < B) : Bk w' g t cs:=(hb.block g hg).trans h
theorem Bk.grown {row : Option Nat} (h : Bk w g t cs) (hb : w.grownBy w' row) (hg : some g ≠ row) : Bk w' g t cs:=(hb.block g h.lt hg).trans h
end
theorem Bk.lies {w : World} {g B : Nat} {t : TypeId} {cs : Array Value} (h : Bk w g t cs) (hB : g < B) : Lies w B (some ⟨g,0,none⟩) cs.toList :=
 Lies.lit (fun j u hu=>h.cell j (by simpa using hu)) hB
theorem bcell {W w1 : World} {B : Nat} (hb : Below B W w1) : (∀ b o,b < B → w1.cell? ⟨b,o,none⟩ = W.cell? ⟨b,o,none⟩) ∧ (∀ b o,b < B → w1.frozen? ⟨b,o,none⟩ = W.frozen? ⟨b,o,none⟩) :=
 ⟨fun b o h=>hb.cell (p:=⟨b,o,none⟩) h,fun b o h=>hb.frozen (p:=⟨b,o,none⟩) h⟩
end Go.Proofs.Ytkjceegmmhnajaa

namespace Go.Proofs.Ytkjceegmmhnajaa
open Go.RowKit
theorem bw {n : Nat} {a w : World} (h : Below n a w:=by repeat (first | with_reducible exact Below.refl _ _ | with_reducible assumption | with_reducible refine Below.drew ?_ | with_reducible refine below_drewN ?_ _ | (with_reducible refine Below.alloc ?_ ?_ _; rotate_left; (try simp) <;> omega) | (with_reducible refine Below.setCell ?_ ?_ _; rotate_left; (try simp) <;> omega))) : Below n a w:=h
theorem bkw {w : World} {g t : Nat} {cs : Array Value} (h : Bk w g t cs:=by repeat (first | with_reducible assumption | with_reducible exact Bk.new _ _ _ | with_reducible refine Bk.drew ?_ | with_reducible refine Bk.drewN ?_ _ | with_reducible refine Bk.alloc ?_ _ | (with_reducible refine Bk.far ?_ ?_ _; rotate_left; (try simp) <;> omega))) : Bk w g t cs:=h
end Go.Proofs.Ytkjceegmmhnajaa
