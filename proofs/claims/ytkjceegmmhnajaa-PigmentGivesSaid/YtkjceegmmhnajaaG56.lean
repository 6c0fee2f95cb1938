/- The second machine's operations on memory: load,the makers,store. -/
import Derived.Test.YtkjceegmmhnajaaG55

set_option linter.unusedVariables false
set_option linter.unusedSimpArgs false

namespace Go.Proofs.Ytkjceegmmhnajaa
open Go.RowKit

section
variable {P : Program} {tv : Nat → Option TV} {p : Nat → Option (Nat × Nat)} {r r' : Operand → Value}

def PreR (p : Nat → Option (Nat × Nat)) (c c' : Array Value) : Prop:=c.size ≤ c'.size ∧ ∀ i,i < c.size → CR p (c.getD i undef) (c'.getD i undef)
def ARc (p : Nat → Option (Nat × Nat)) (a a' : Array Value) : Prop:=a.size = a'.size ∧ ∀ (i : Nat) (v v' : Value),a[i]? = some v → a'[i]? = some v' → CR p v v'
noncomputable def noHole (v : Value) : Bool:=match v with | .chan none=>false | _=>true
theorem noHole_ne {v : Value} (h : noHole v = true) : v ≠ hole:=fun e=>by subst e; cases h

theorem PreR.getC {c c' : Array Value} (h : PreR p c c') {i : Nat} {v : Value} (hv : c[i]? = some v) : ∃ v',c'[i]? = some v' ∧ CR p v v':=by
 have hi : i < c.size:=(Array.getElem?_eq_some_iff.1 hv).1
 have hi' : i < c'.size:=Nat.lt_of_lt_of_le hi h.1
 refine ⟨c'[i],Array.getElem?_eq_getElem hi',?_⟩
 have:=h.2 i hi
 have e : c[i] = v:=(Array.getElem?_eq_some_iff.1 hv).2
 simpa [Array.getD,hi,hi',e] using this
theorem PreR.get {c c' : Array Value} (h : PreR p c c') {i : Nat} {v : Value} (hv : c[i]? = some v) (hn : noHole v = true) : ∃ v',c'[i]? = some v' ∧ VR p v v':=by
 obtain ⟨v',h1,h2⟩:=h.getC hv
 exact ⟨v',h1,h2.resolve_left (noHole_ne hn)⟩
theorem PreR.of_getC {c c' : Array Value} (hs : c.size ≤ c'.size) (h : ∀ (i : Nat) (v v' : Value),c[i]? = some v → c'[i]? = some v' → CR p v v') : PreR p c c' :=
 ⟨hs,fun i hi=>by
  have hi' : i < c'.size:=Nat.lt_of_lt_of_le hi hs
  simpa [Array.getD,hi,hi'] using h i _ _ (Array.getElem?_eq_getElem hi) (Array.getElem?_eq_getElem hi')⟩
theorem PreR.of_get {c c' : Array Value} (hs : c.size ≤ c'.size) (h : ∀ (i : Nat) (v v' : Value),c[i]? = some v → c'[i]? = some v' → VR p v v') : PreR p c c' :=
 PreR.of_getC hs fun i v v' h1 h2=>.inr (h i v v' h1 h2)
theorem PreR.extractC {c c' : Array Value} (h : PreR p c c') {i j : Nat} (hj : j ≤ c.size) : ARc p (c.extract i j) (c'.extract i j) :=
 ⟨by have:=h.1; simp; omega,fun k v v' hv hv'=>by
  rw [Array.getElem?_extract] at hv hv'
  have hs:=h.1
  by_cases hk : k < min j c.size - i
  ·rw [if_pos hk] at hv; rw [if_pos (by omega)] at hv'
   obtain ⟨u,hu,hr⟩:=h.getC hv; rw [hu] at hv'; cases hv'; exact hr
  ·rw [if_neg hk] at hv; cases hv⟩
theorem PreR.extract {c c' : Array Value} (h : PreR p c c') {i j : Nat} (hj : j ≤ c.size) (hn : allQ noHole (c.extract i j).toList = true) : AR p (c.extract i j) (c'.extract i j) :=
 AR.of_get (h.extractC hj).1 fun k v v' hv hv'=>by
  rw [allQ_eq] at hn
  have : noHole v = true:=List.all_eq_true.1 hn v (List.mem_iff_getElem?.2 ⟨k,by rw [Array.getElem?_toList]; exact hv⟩)
  exact ((h.extractC hj).2 k v v' hv hv').resolve_left (noHole_ne this)
theorem PreR.set {c c' : Array Value} (h : PreR p c c') {v v' : Value} (hv : VR p v v') (i : Nat) (hi : i < c.size) : PreR p (c.setIfInBounds i v) (c'.setIfInBounds i v') :=
 PreR.of_getC (by simpa using h.1) fun k u u' hu hu'=>by
  have hs:=h.1
  rw [Array.getElem?_setIfInBounds] at hu hu'
  by_cases hk : i = k
  ·subst hk
   simp only [if_true] at hu hu'
   rw [if_pos hi] at hu; rw [if_pos (by omega)] at hu'; cases hu; cases hu'; exact .inr hv
  ·rw [if_neg hk] at hu hu'
   obtain ⟨x,hx,hr⟩:=h.getC hu; rw [hx] at hu'; cases hu'; exact hr

theorem cell_of {w : World} {b o : Nat} {c : Array Value} {e : TypeId} {fr : Nat × Nat} (hb : w.heap[b]? = some (.cells c e fr)) : w.cell? ⟨b,o,none⟩ = c[o]?:=by simp [World.cell?,hb]

theorem run_loadCellsFrom {w : World} {b o : Nat} {c : Array Value} {e : TypeId} {fr : Nat × Nat} (hb : w.heap[b]? = some (.cells c e fr)) : ∀ (n i : Nat) (acc : Array Value),o + i + n ≤ c.size →
  (loadCellsFrom ⟨b,o,none⟩ i n acc).run P w = .ok (acc ++ c.extract (o + i) (o + i + n)) w
 | 0,i,acc,h=>by simp [loadCellsFrom]; omega
 | n + 1,i,acc,h=>by
  have hlt : o + i < c.size:=by omega
  have hc : w.cell? ⟨b,o + i,none⟩ = some c[o + i]:=by rw [cell_of hb]; exact Array.getElem?_eq_getElem hlt
  simp only [loadCellsFrom,Sem.run_bind,add_eq,run_load,hc,Result.andThen_ok]
  rw [run_loadCellsFrom hb n (i + 1) _ (by omega)]
  congr 1
  apply Array.ext_getElem?
  intro k
  simp only [Array.getElem?_append,Array.getElem?_extract,Array.size_push,Array.getElem?_push]
  by_cases h1 : k < acc.size
  ·simp [h1,show k < acc.size + 1 by omega,show ¬ k = acc.size by omega]
  ·by_cases h2 : k = acc.size
   ·subst h2
    simp [hlt]
    omega
   ·simp [h1,show ¬ k < acc.size + 1 by omega]
    by_cases h3 : k - acc.size < min (o + i + (n + 1)) c.size - (o + i)
    ·rw [if_pos h3,if_pos (by omega)]
     congr 1; omega
    ·rw [if_neg h3,if_neg (by omega)]

theorem run_loadCells' {w : World} {b o n : Nat} {c : Array Value} {e : TypeId} {fr : Nat × Nat} (hb : w.heap[b]? = some (.cells c e fr)) (h : o + n ≤ c.size) :
  (loadCells ⟨b,o,none⟩ n).run P w = .ok (c.extract o (o + n)) w:=by
 have:=run_loadCellsFrom (P:=P) hb n 0 #[] (by omega)
 simpa [loadCells] using this

/-! ### load -/
noncomputable def sizeQ (a : Array Value) : Nat:=lenQ a.toList
theorem sizeQ_eq (a : Array Value) : sizeQ a = a.size:=by unfold sizeQ; rw [lenQ_eq]; simp
noncomputable def aLoad2 (T : Option TV) (ob : Option AO) (o : Nat) : Option Value :=
 match ob,T with
 | some (.cells c _ _),some T=>Bool.rec (match getQ c.toList o with | some v=>Bool.rec none (some v) (noHole v) | none=>none) (Bool.rec none (Bool.rec none (some (.agg (extQ c o T.size))) (allQ noHole (extQ c o T.size).toList)) (Nat.ble (Nat.add o T.size) (sizeQ c))) T.agg
 | _,_=>none
noncomputable def aLoad (tv : Nat → Option TV) (t : Nat) (a : Value) (H : Tr AO) : Option Value :=
 match a with
 | .pointer (some ⟨b,o,none⟩)=>aLoad2 (tv t) (H.get b) o
 | _=>none

theorem HR.cells {E : Env} {lb : Nat} {B : Base E lb} {w0 w : World} {h : Hp} (hr : HR B w0 p h w) {i b k : Nat} {c : Array Value} {e : TypeId} {sz : Option Nat} (hi : h i = some (.cells c e sz)) (hb : p i = some (b,k)) :
  (B.n ≤ b ∨ i < B.r) ∧ ∃ c',w.heap[b]? = some (.cells c' e (0,0)) ∧ PreR p c c' ∧ ∀ s,sz = some s → k * s ≤ c'.size:=by
 obtain ⟨b',k',o',h1,h2,h3,h4⟩:=hr.ob i _ hi
 rw [hb] at h1; cases h1
 cases o' with
 | cells c' e' fr =>
  obtain ⟨rfl,rfl,h5,h6,h7⟩:=h4
  exact ⟨h2,c',h3,⟨h5,h7⟩,h6⟩
 | _=>exact h4.elim

theorem aLoad_ok (hT : TvOk P tv) {E : Env} {lb : Nat} {B : Base E lb} {w0 w : World} {h : Hp} (hr : HR B w0 p h w) {H : Tr AO} {t : Nat} {a a' v : Value} (hS : ∀ b o,a = .pointer (some ⟨b,o,none⟩) → ∀ y,H.get b = some y → h b = some y) (ha : VR p a a')
  (hl : aLoad tv t a H = some v) : ∃ v',(Instr.loadAt t a').run P w = .ok v' w ∧ VR p v v':=by
 unfold aLoad at hl
 split at hl
 ·rename_i b o
  obtain ⟨b',k,rfl,hb⟩:=ha.ptr_inv
  unfold aLoad2 at hl
  split at hl
  ·rename_i c e sz T hc hTt
   obtain ⟨_,c',hblk,hpre,_⟩:=hr.cells (hS b o rfl _ hc) hb
   rw [extQ_eq,getQ_eq,sizeQ_eq] at hl
   cases hag : T.agg with
   | true =>
    simp only [hag] at hl
    cases hle : Nat.ble (Nat.add o T.size) c.size with
    | true =>
     rw [hle] at hl
     dsimp only at hl
     have hle : o + T.size ≤ c.size:=Nat.le_of_ble_eq_true hle
     cases hnh : allQ noHole (c.extract o (o + T.size)).toList with
     | false=>rw [hnh] at hl; cases hl
     | true =>
     rw [hnh] at hl
     cases hl
     have hx:=hpre.extract (i:=o) hle hnh
     refine ⟨.agg (c'.extract o (o + T.size)),?_, .agg hx.1 hx.2⟩
     simp only [Instr.loadAt,Instr.sureAddr,loadVar,Sem.run_bind,Sem.run_pure,Result.andThen_ok,run_isAgg' hT hTt w,hag,if_true,run_sizeOf' hT hTt w]
     simp [run_isAgg' hT hTt w,hag,run_sizeOf' hT hTt w,run_loadCells' hblk (show o + T.size ≤ c'.size from Nat.le_trans hle hpre.1)]
    | false=>rw [hle] at hl; cases hl
   | false =>
    simp only [hag] at hl
    split at hl
    case h_2=>cases hl
    rename_i u hu
    cases hnh : noHole u with
    | false=>rw [hnh] at hl; cases hl
    | true =>
    rw [hnh] at hl
    cases hl
    obtain ⟨v',h1,h2⟩:=hpre.get (show c[o]? = some v by simpa using hu) hnh
    refine ⟨v',?_,h2⟩
    have hcell : w.cell? ⟨b',o,none⟩ = some v':=by rw [cell_of hblk]; exact h1
    simp only [Instr.loadAt,Instr.sureAddr,loadVar,Sem.run_bind,Sem.run_pure,Result.andThen_ok]
    simp [run_isAgg' hT hTt w,hag,hcell]
  ·cases hl
 ·cases hl

/-! ### store -/
def setAll (o : Nat) : List Value → Nat → Array Value → Array Value
 | [],_,c=>c
 | v :: l,i,c=>setAll o l (i + 1) (c.setIfInBounds (o + i) v)

theorem setAll_size (o : Nat) : ∀ (l : List Value) (i : Nat) (c : Array Value),(setAll o l i c).size = c.size
 | [],_,_=>rfl
 | v :: l,i,c=>by rw [setAll,setAll_size o l]; simp

theorem PreR.setAll {o : Nat} : ∀ (l l' : List Value) (i : Nat) (c c' : Array Value),l.length = l'.length → (∀ (j : Nat) (v v' : Value),l[j]? = some v → l'[j]? = some v' → VR p v v') → o + i + l.length ≤ c.size → PreR p c c' →
  PreR p (setAll o l i c) (setAll o l' i c')
 | [],[],i,c,c',_,_,_,h=>h
 | [],_ :: _,i,c,c',hl,_,_,h=>by simp at hl
 | _ :: _,[],i,c,c',hl,_,_,h=>by simp at hl
 | v :: l,v' :: l',i,c,c',hl,hv,hs,h=>by
  simp only [Go.Proofs.Ytkjceegmmhnajaa.setAll]
  exact PreR.setAll l l' (i + 1) _ _ (by simpa using hl) (fun j u u' hu hu'=>hv (j + 1) u u' (by simpa using hu) (by simpa using hu')) (by simp at hs ⊢; omega) (h.set (hv 0 v v' (by simp) (by simp)) _ (by simp at hs; omega))

theorem setCell_put {w : World} {b o : Nat} {c : Array Value} {e : TypeId} {fr : Nat × Nat} (hb : w.heap[b]? = some (.cells c e fr)) (v : Value) : w.setCell ⟨b,o,none⟩ v = w.putObj b (.cells (c.setIfInBounds o v) e fr):=by
 have hlt : b < w.heap.size:=(Array.getElem?_eq_some_iff.1 hb).1
 unfold World.setCell World.putObj
 congr 1
 apply Array.ext_getElem?
 intro k
 simp only [Array.getElem?_modify,Array.getElem?_setIfInBounds]
 by_cases hk : b = k
 ·subst hk
  have:=(Array.getElem?_eq_some_iff.1 hb).2
  simp [hlt,this]
 ·simp [hk]

theorem putObj_putObj (w : World) (b : Nat) (x y : Obj) : (w.putObj b x).putObj b y = w.putObj b y:=by
 unfold World.putObj
 congr 1
 apply Array.ext_getElem?
 intro k
 simp only [Array.getElem?_setIfInBounds,Array.size_setIfInBounds]
 by_cases hk : b = k
 ·subst hk; simp
 ·simp [hk]

theorem run_storeCells' {b o : Nat} {e : TypeId} : ∀ (l : List Value) (i : Nat) (c : Array Value) (w : World),w.heap[b]? = some (.cells c e (0,0)) → (∀ v ∈ l,v.oneCell' = true) → o + i + l.length ≤ c.size →
  (storeCells ⟨b,o,none⟩ l i).run P w = .ok () (w.putObj b (.cells (setAll o l i c) e (0,0)))
 | [],i,c,w,hb,_,_=>by
  simp only [storeCells,setAll,Sem.run_pure]
  congr 1
  unfold World.putObj
  have : w.heap.setIfInBounds b (.cells c e (0,0)) = w.heap:=by
   apply Array.ext_getElem?
   intro k
   simp only [Array.getElem?_setIfInBounds]
   by_cases hk : b = k
   ·subst hk; simp [hb,(Array.getElem?_eq_some_iff.1 hb).1]
    have:=(Array.getElem?_eq_some_iff.1 hb).2
    exact this.symm
   ·simp [hk]
  rw [this]
 | v :: l,i,c,w,hb,h1,hs=>by
  have hlt : o + i < c.size:=by simp at hs; omega
  have hb1 : b < w.heap.size:=(Array.getElem?_eq_some_iff.1 hb).1
  have hc : w.cell? ⟨b,o + i,none⟩ = some c[o + i]:=by rw [cell_of hb]; exact Array.getElem?_eq_getElem hlt
  have hf : w.frozen? ⟨b,o + i,none⟩ = false:=by simp [World.frozen?,hb]
  simp only [storeCells,Sem.run_bind,add_eq,run_store P w _ v .plain (h1 v (by simp)),hc,hf]
  simp only [Bool.false_eq_true,if_false,Result.andThen_ok,setCell_put hb]
  rw [run_storeCells' l (i + 1) _ _ (World.putObj_heap_same hb1) (fun u hu=>h1 u (by simp [hu])) (by simp at hs ⊢; omega),putObj_putObj]
  rfl

theorem VR.oneCell {v v' : Value} (h : VR p v v') : v'.oneCell' = v.oneCell':=by cases h <;> rfl

noncomputable def setAllQ (o : Nat) (l : List Value) (c : Array Value) : Array Value:=⟨appQ (takeQ c.toList o) (appQ l (dropQ c.toList (Nat.add o (lenQ l))))⟩
theorem setAll_fold (o : Nat) : ∀ (l : List Value) (i : Nat) (c : Array Value),setAll o l i c = (l.zipIdx i).foldl (fun cs (c,j)=>cs.setIfInBounds (o + j) c) c
 | [],_,_=>rfl
 | v :: l,i,c=>by rw [setAll,setAll_fold o l (i + 1)]; rfl
theorem setAllQ_eq {o : Nat} {l : List Value} {c : Array Value} (h : o + l.length ≤ c.size) : setAllQ o l c = setAll o l 0 c:=by
 rw [setAll_fold,foldSet_splice o l 0 c (by omega)]
 unfold setAllQ
 rw [appQ_eq,appQ_eq,takeQ_eq,dropQ_eq,lenQ_eq]
 simp
noncomputable def allOne (a : Array Value) : Bool:=allQ Value.oneCell' a.toList
theorem allOne_eq (a : Array Value) : allOne a = a.toList.all (·.oneCell'):=allQ_eq _ _

noncomputable def aStore2 (lo : Nat) (T : Option TV) (ob : Option AO) (b o : Nat) (xs : Array Value) : Option Dl :=
 match ob,T with
 | some (.cells c e sz),some T=>Bool.rec none (some [(b,some (.cells (setAllQ o xs.toList c) e sz))])
   (Bool.rec false (Bool.rec false (Bool.rec false (Nat.ble (Nat.add o T.size) (sizeQ c)) (Nat.beq (sizeQ xs) T.size)) (allOne xs)) (Nat.ble lo b))
 | _,_=>none

noncomputable def aStore0 (tv : Nat → Option TV) (lo t : Nat) (a x : Value) (H : Tr AO) : Option Dl :=
 match a with
 | .pointer (some ⟨b,o,none⟩)=>match H.get b,tv t with
  | some (.cells c e sz),some T=>if lo ≤ b ∧ x.cells.size = T.size ∧ o + T.size ≤ c.size ∧ x.cells.toList.all (·.oneCell') = true then some [(b,some (.cells (setAll o x.cells.toList 0 c) e sz))] else none
  | _,_=>none
 | _=>none

noncomputable def aStore (tv : Nat → Option TV) (lo t : Nat) (a x : Value) (H : Tr AO) : Option Dl :=
 match a with
 | .pointer (some ⟨b,o,none⟩)=>aStore2 lo (tv t) (H.get b) b o x.cells
 | _=>none
theorem aStore_eq {tv : Nat → Option TV} {lo t : Nat} {a x : Value} {H : Tr AO} {d : Dl} (h : aStore tv lo t a x H = some d) : aStore0 tv lo t a x H = some d:=by
 unfold aStore at h
 unfold aStore0
 split at h
 ·unfold aStore2 at h
  split at h
  ·rename_i b o _ _ c e sz T h1 h2
   try rw [h1,h2]
   try dsimp only
   cases e1 : Nat.ble lo _ with
   | false=>rw [e1] at h; cases h
   | true =>
    rw [e1] at h; dsimp only at h
    cases e2 : allOne x.cells with
    | false=>rw [e2] at h; cases h
    | true =>
     rw [e2] at h; dsimp only at h
     rw [sizeQ_eq,sizeQ_eq] at h
     cases e3 : Nat.beq x.cells.size T.size with
     | false=>rw [e3] at h; cases h
     | true =>
      rw [e3] at h; dsimp only at h
      cases e4 : Nat.ble (Nat.add o T.size) c.size with
      | false=>rw [e4] at h; cases h
      | true =>
       rw [e4] at h; dsimp only at h
       have g1:=Nat.le_of_ble_eq_true e1
       have g3:=Nat.eq_of_beq_eq_true e3
       have g4 : o + T.size ≤ c.size:=Nat.le_of_ble_eq_true e4
       rw [allOne_eq] at e2
       rw [if_pos ⟨g1,g3,g4,e2⟩,← setAllQ_eq (by simp [g3]; exact g4)]
       exact h
  ·cases h
 ·cases h

theorem aStore_ok (hT : TvOk P tv) {E : Env} {lo : Nat} {B : Base E lo} {w0 w : World} {h : Hp} (hr : HR B w0 p h w) {H : Tr AO} {d : Dl} {t : Nat} {a a' x x' : Value} (hS : ∀ b o,a = .pointer (some ⟨b,o,none⟩) → ∀ y,H.get b = some y → h b = some y) (ha : VR p a a') (hx : VR p x x')
  (hl : aStore tv lo t a x H = some d) : ∃ b o c w',a = .pointer (some ⟨b,o,none⟩) ∧ lo ≤ b ∧ H.get b = some c ∧ (∃ o',d = [(b,some o')] ∧ (Instr.storeAt t a' x').run P w = .ok () w' ∧ HR B w0 p (upd h d) w'):=by
 replace hl:=aStore_eq hl
 unfold aStore0 at hl
 split at hl
 ·rename_i b o
  obtain ⟨b',k,rfl,hb⟩:=ha.ptr_inv
  split at hl
  ·rename_i c e sz T hc hTt
   have hh:=hS b o rfl _ hc
   obtain ⟨hBb,c',hblk,hpre,hsz⟩:=hr.cells hh hb
   split at hl
   ·rename_i hcond
    obtain ⟨h1,h2,h3,h4⟩:=hcond
    cases hl
    have hcells:=hx.cells
    have hone : ∀ v ∈ x'.cells.toList,v.oneCell' = true:=fun v' hv'=>by
     obtain ⟨i,hi,e1⟩:=List.mem_iff_getElem.1 hv'
     have hi' : i < x.cells.size:=by rw [hcells.1]; simpa using hi
     obtain ⟨u,hu,hvr⟩:=hcells.get i _ (Array.getElem?_eq_getElem hi')
     have : u = v':=by
      have h5 : x'.cells[i]? = some v':=by rw [← e1]; simp
      rw [h5] at hu; cases hu; rfl
     subst this
     rw [hvr.oneCell]
     exact List.all_eq_true.1 h4 _ (by simp)
    have hrun:=run_storeCells' (P:=P) (o:=o) x'.cells.toList 0 c' w hblk hone (by have:=hpre.1; have:=hcells.1; simp; omega)
    have hb1 : b' < w.heap.size:=(Array.getElem?_eq_some_iff.1 hblk).1
    refine ⟨b,o,_,w.putObj b' (.cells (setAll o x'.cells.toList 0 c') e (0,0)),rfl,h1,hc,_,rfl,?_,?_⟩
    ·simp only [Instr.storeAt,Instr.sureAddr,storeVar,Sem.run_bind,Sem.run_pure,Result.andThen_ok,run_sizeOf' hT hTt w]
     have : ¬ (x'.cells.size ≠ T.size):=by rw [← hcells.1]; simpa using h2
     simp only [if_neg this,Sem.run_bind,Sem.run_pure,Result.andThen_ok,hrun]
    ·refine hr.put hh hb ?_ (by simp) (fun k hk=>World.putObj_heap_other hk) (World.putObj_heap_same hb1) h1 rfl rfl rfl
     have hp:=PreR.setAll (p:=p) (o:=o) x.cells.toList x'.cells.toList 0 c c' (by simpa using hcells.1) (fun j v v' hv hv'=>by
      obtain ⟨u,hu,hvr⟩:=hcells.get j v (by simpa using hv)
      have : u = v':=by simp at hv'; rw [hv'] at hu; cases hu; rfl
      subst this; exact hvr) (by simp; omega) hpre
     exact ⟨rfl,rfl,hp.1,fun s hs=>by rw [setAll_size]; exact hsz s hs,hp.2⟩
   ·cases hl
  ·cases hl
 ·cases hl
end
end Go.Proofs.Ytkjceegmmhnajaa

namespace Go.Proofs.Ytkjceegmmhnajaa
open Go.RowKit

section
variable {P : Program} {tv : Nat → Option TV} {p : Nat → Option (Nat × Nat)} {r r' : Operand → Value}

def zr (z : Array Value) (n : Nat) : Array Value:=(Array.range n).map (fun i=>z[i % z.size]!)

theorem VR.dflt (p : Nat → Option (Nat × Nat)) : VR p (default : Value) (default : Value):=VR.bool _

theorem AR.zr {z : Array Value} (h : AR p z z) (n : Nat) : AR p (zr z n) (zr z n) :=
 AR.of_get rfl fun i v v' hv hv'=>by
  rw [hv] at hv'; cases hv'
  unfold Go.Proofs.Ytkjceegmmhnajaa.zr at hv
  simp only [Array.getElem?_map] at hv
  cases e : (Array.range n)[i]? with
  | none=>simp [e] at hv
  | some k =>
   simp only [e,Option.map_some,Option.some.injEq] at hv
   subst hv
   by_cases hk : k % z.size < z.size
   ·rw [getElem!_pos z _ hk]
    obtain ⟨u,hu,hvr⟩:=h.get (k % z.size) _ (Array.getElem?_eq_getElem hk)
    rw [Array.getElem?_eq_getElem hk] at hu; cases hu; exact hvr
   ·rw [getElem!_neg z _ hk]; exact .dflt p

noncomputable def repQ (z : List Value) (k : Nat) : List Value:=Nat.rec [] (fun _ ih=>appQ z ih) k
theorem repQ_get (z : List Value) (hz : 0 < z.length) : ∀ (k i : Nat),(repQ z k)[i]? = if i < k * z.length then z[i % z.length]? else none
 | 0,i=>by show ([] : List Value)[i]? = _; simp
 | k + 1,i=>by
  have : repQ z (k + 1) = z ++ repQ z k:=appQ_eq _ _
  rw [this]
  by_cases h : i < z.length
  ·rw [List.getElem?_append_left h,Nat.mod_eq_of_lt h,if_pos]
   rw [Nat.add_mul]; omega
  ·rw [List.getElem?_append_right (by omega),repQ_get z hz k]
   by_cases h2 : i - z.length < k * z.length
   ·rw [if_pos h2,if_pos (by rw [Nat.add_mul]; omega)]
    rw [show i % z.length = (i - z.length) % z.length from by rw [Nat.mod_eq_sub_mod (by omega)]]
   ·rw [if_neg h2,if_neg (by rw [Nat.add_mul]; omega)]
noncomputable def zrQ (z : Array Value) (size len : Nat) : List Value:=Nat.rec [] (fun _ _=>repQ z.toList len) size
theorem zrQ_eq {z : Array Value} {size len : Nat} (hz : z.size = size) : (⟨zrQ z size len⟩ : Array Value) = if len * size = 0 then #[] else zr z (len * size):=by
 cases size with
 | zero=>rfl
 | succ s =>
  show (⟨repQ z.toList len⟩ : Array Value) = _
  apply Array.ext_getElem?
  intro i
  have hg:=repQ_get z.toList (by simp [hz]) len i
  simp only [Array.length_toList,hz] at hg
  rw [show (⟨repQ z.toList len⟩ : Array Value)[i]? = (repQ z.toList len)[i]? from by simp,hg]
  by_cases h0 : len * (s + 1) = 0
  ·rw [if_pos h0,if_neg (by omega)]; simp
  ·rw [if_neg h0]
   unfold zr
   simp only [Array.getElem?_map,hz]
   by_cases h : i < len * (s + 1)
   ·rw [if_pos h]
    have hm : i % (s + 1) < z.size:=by rw [hz]; exact Nat.mod_lt _ (by omega)
    rw [Array.getElem?_eq_getElem (by simpa using h)]
    simp only [Array.getElem_range,Option.map_some]
    rw [getElem!_pos z _ hm]
    simp [hm]
   ·rw [if_neg h,Array.getElem?_eq_none (by simp; omega)]; rfl

noncomputable def aMake0 (tv : Nat → Option TV) (op : Op) (r : Operand → Value) (n : Nat) : Option (Value × AO) :=
 match op with
 | .alloc e=>match tv e with
  | some T=>some (.pointer (some ⟨n,0,none⟩), .cells T.zero.cells e none)
  | none=>none
 | .box e x=>some (.pointer (some ⟨n,0,none⟩), .cells (r x).cells e none)
 | .buildSlice t len parts=>match tv t with
  | some T=>match T.und with
   | .slice e=>match tv e with
    | some E=>if len * E.size > 2 ^ 24 ∨ unk ≤ len then none else
     (Instr.fill (fun i=>some (i * E.size,E.size)) (if len * E.size = 0 then #[] else zr E.zero.cells (len * E.size)) (parts.map fun (i,x)=>(i,r x)).toList).map fun c=>(.slice (some ⟨n,0,none⟩) len len, .cells c e none)
    | none=>none
   | _=>none
  | none=>none
 | .makeSlice t l c=>match tv t,r l,r c with
  | some T, .int _ li, .int _ ci=>match T.und with
   | .slice e=>match tv e with
    | some E=>if 0 ≤ li ∧ li ≤ ci ∧ ci < 4611686018427387904 ∧ (E.bytes : Int) * ci ≤ 2 ^ 48 then
      some (.slice (some ⟨n,0,none⟩) li.toNat ci.toNat, .cells (if ci.toNat * E.size = 0 then #[] else zr E.zero.cells (ci.toNat * E.size)) e none)
     else none
    | none=>none
   | _=>none
  | _,_,_=>none
 | _=>none

theorem or_new {q : Nat → Option (Nat × Nat)} {c c' : Array Value} (h : AR q c c') (k : Nat) (e : Nat) : OR q k (.cells c e none) (.cells c' e) :=
 ⟨rfl,rfl,by rw [h.1]; exact Nat.le_refl _,fun s hs=>(by cases hs),fun i _=>.inr (h.2 i)⟩

theorem wrap_in {x : Int} (h0 : 0 ≤ x) (h1 : x < 4611686018427387904) : IntKind.i64.wrap x = x:=by
 unfold IntKind.wrap IntKind.signed IntKind.bits
 simp
 omega

theorem aMake0_ok (hT : TvOk P tv) {o : Oper} {n : Nat} {w : World} (hn : p n = none) (hr : ∀ x ∈ o.op.operands,VR p (r x) (r' x)) {v : Value} {ob : AO} (h : aMake0 tv o.op r n = some (v,ob)) :
  ∃ v' o',(execOp r' o).run P w = .ok (.value v') (w.alloc o') ∧ VR (newp p n w.heap.size 0) v v' ∧ OR (newp p n w.heap.size 0) 0 ob o':=by
 have hx:=(ext_new hn w.heap.size 0).ext
 have hself : newp p n w.heap.size 0 n = some (w.heap.size,0):=by simp [newp]
 obtain ⟨dst,op,type,pos,after,guard⟩:=o
 cases op <;> simp only [Op.operands] at hr <;> (try (simp only [aMake0,reduceCtorEq] at h; done)) <;> simp only [aMake0] at h
 case alloc e =>
  split at h
  ·rename_i T hTt
   cases h
   refine ⟨.pointer (some ⟨w.heap.size,0,none⟩), .cells T.zero.cells e,?_, .ptr hself,or_new ((zeroVR hT hTt _).cells) _ _⟩
   simp [execOp,Instr.alloc,run_zero' hT hTt w,newVar,newRow]
  ·cases h
 case box e x =>
  cases h
  refine ⟨.pointer (some ⟨w.heap.size,0,none⟩), .cells (r' x).cells e,?_, .ptr hself,or_new (((hr x (by simp)).mono hx).cells) _ _⟩
  simp [execOp,Instr.box,newVar,newRow]
 case buildSlice t len parts =>
  split at h
  ·rename_i T hTt
   split at h
   ·rename_i e hund
    split at h
    ·rename_i E hE
     split at h
     ·cases h
     ·rename_i hcond
      simp only [Option.map_eq_some_iff] at h
      obtain ⟨c,hf,he⟩:=h
      cases he
      have hpr : PR (newp p n w.heap.size 0) _ _:=PR.ops (r:=r) (r':=r') parts (fun x hx'=>(hr x (by simpa using hx')).mono hx)
      have hz : AR (newp p n w.heap.size 0) (if len * E.size = 0 then #[] else zr E.zero.cells (len * E.size)) (if len * E.size = 0 then #[] else zr E.zero.cells (len * E.size)):=by
       split
       ·exact AR.empty _
       ·exact AR.zr (zeroVR hT hE _).cells _
      obtain ⟨c',hf',hc⟩:=fill_ok _ _ _ _ _ _ hpr hz hf
      refine ⟨.slice (some ⟨w.heap.size,0,none⟩) len len, .cells c' e,?_, .slice hself (.inl ⟨by omega,rfl⟩),or_new hc _ _⟩
      simp only [execOp,Instr.buildSlice,Sem.run_bind,run_und hT hTt w,Result.andThen_ok,hund,run_sizeOf' hT hE w]
      rw [if_neg (by omega)]
      have hcells : (Array.range (len * E.size)).map (fun x=>(if len * E.size = 0 then (#[] : Array Value) else E.zero.cells)[x % (if len * E.size = 0 then (#[] : Array Value) else E.zero.cells).size]!) = (if len * E.size = 0 then #[] else zr E.zero.cells (len * E.size)):=by
       split
       ·rename_i h0; simp [h0]
       ·rfl
      by_cases h0 : len * E.size = 0
      ·simp only [h0,if_true] at hf' hcells ⊢
       simp only [Sem.run_bind,Sem.run_pure,Result.andThen_ok,hcells,hf',newRow,run_newObj,World.alloc_eq]
      ·simp only [h0,if_false] at hf' hcells ⊢
       simp only [Sem.run_bind,Sem.run_pure,Result.andThen_ok,run_zero' hT hE w,hcells,hf',newRow,run_newObj,World.alloc_eq]
    ·cases h
   ·cases h
  ·cases h
 case makeSlice t l c =>
  split at h
  ·rename_i T k li k2 ci hTt hl hc
   have h1:=hr l (by simp)
   rw [hl] at h1
   have el:=h1.int_inv
   have h2:=hr c (by simp)
   rw [hc] at h2
   have ec:=h2.int_inv
   split at h
   ·rename_i e hund
    split at h
    ·rename_i E hE
     split at h
     ·rename_i hcond
      obtain ⟨c1,c2,c3,c4⟩:=hcond
      cases h
      obtain ⟨inf,hinf,hbytes⟩:=run_bytes' hT hE w
      have w1:=wrap_in c1 (show li < 4611686018427387904 by omega)
      have w2:=wrap_in (show 0 ≤ ci by omega) c3
      have hz : AR (newp p n w.heap.size 0) (if ci.toNat * E.size = 0 then #[] else zr E.zero.cells (ci.toNat * E.size)) (if ci.toNat * E.size = 0 then #[] else zr E.zero.cells (ci.toNat * E.size)):=by
       split
       ·exact AR.empty _
       ·exact AR.zr (zeroVR hT hE _).cells _
      refine ⟨.slice (some ⟨w.heap.size,0,none⟩) li.toNat ci.toNat, .cells (if ci.toNat * E.size = 0 then #[] else zr E.zero.cells (ci.toNat * E.size)) e,?_, .slice hself (.inl ⟨by unfold unk; omega,rfl⟩),or_new hz _ _⟩
      have hc1 : (decide (ci < 0) || decide ((E.bytes : Int) * ci > 2 ^ 48) || decide (li < 0) || decide (li > ci)) = false:=by
       simp only [Bool.or_eq_false_iff,decide_eq_false_iff_not]
       refine ⟨⟨⟨by omega,by omega⟩,by omega⟩,by omega⟩
      have hcells : (Array.range (ci.toNat * E.size)).map (fun x=>(if ci.toNat * E.size = 0 then (#[] : Array Value) else E.zero.cells)[x % (if ci.toNat * E.size = 0 then (#[] : Array Value) else E.zero.cells).size]!) = (if ci.toNat * E.size = 0 then #[] else zr E.zero.cells (ci.toNat * E.size)):=by
       split
       ·rename_i h0; simp [h0]
       ·rfl
      simp only [execOp,Instr.makeSlice,el,ec,asInt,asIntOf,Sem.run_bind,Sem.run_pure,run_und hT hTt w,Result.andThen_ok,hund,hinf,hbytes,w1,w2,hc1,Bool.false_eq_true,if_false,run_askRoom,run_sizeOf' hT hE w]
      by_cases h0 : ci.toNat * E.size = 0
      ·simp only [h0,if_true] at hcells ⊢
       simp only [Sem.run_bind,Sem.run_pure,Result.andThen_ok,hcells,newRow,run_newObj,World.alloc_eq]
      ·simp only [h0,if_false] at hcells ⊢
       simp only [Sem.run_bind,Sem.run_pure,Result.andThen_ok,run_zero' hT hE w,hcells,newRow,run_newObj,World.alloc_eq]
     ·cases h
    ·cases h
   ·cases h
  ·cases h

noncomputable def mkBox (n : Nat) (c : Array Value) (e : Nat) : Option (Value × AO):=some (.pointer (some ⟨n,0,none⟩), .cells c e none)
noncomputable def mkAlloc (T : Option TV) (n e : Nat) : Option (Value × AO):=match T with
 | some T=>mkBox n T.zero.cells e
 | none=>none
noncomputable def mkRow (tv : Nat → Option TV) (T : Option TV) (n len : Nat) (parts : List (Nat × Value)) : Option (Value × AO):=match T with
 | some T=>match T.und with
  | .slice e=>match tv e with
   | some E=>Bool.rec none (match fillQ (fun i=>some (Nat.mul i E.size,E.size)) parts (zrQ E.zero.cells E.size len) with
    | some c=>some (.slice (some ⟨n,0,none⟩) len len, .cells ⟨c⟩ e none)
    | none=>none) (Bool.rec false (Nat.blt len unk) (Nat.ble (Nat.mul len E.size) 16777216))
   | none=>none
  | _=>none
 | none=>none
noncomputable def mkMade (tv : Nat → Option TV) (T : Option TV) (n : Nat) (l c : Value) : Option (Value × AO):=match T,l,c with
 | some T, .int _ (.ofNat li), .int _ (.ofNat ci)=>match T.und with
  | .slice e=>match tv e with
   | some E=>Bool.rec none (some (.slice (some ⟨n,0,none⟩) li ci, .cells ⟨zrQ E.zero.cells E.size ci⟩ e none))
    (Bool.rec false (Bool.rec false (Nat.ble (Nat.mul E.bytes ci) 281474976710656) (Nat.blt ci 4611686018427387904)) (Nat.ble li ci))
   | none=>none
  | _=>none
 | _,_,_=>none
noncomputable def aMake (tv : Nat → Option TV) (op : Op) (r : Operand → Value) (n : Nat) : Option (Value × AO) :=
 match op with
 | .alloc e=>mkAlloc (tv e) n e
 | .box e x=>mkBox n (r x).cells e
 | .buildSlice t len parts=>mkRow tv (tv t) n len (partsQ r parts)
 | .makeSlice t l c=>mkMade tv (tv t) n (r l) (r c)
 | _=>none

theorem aMake_eq (hT : TvOk P tv) {op : Op} {n : Nat} {v : Value} {ob : AO} (h : aMake tv op r n = some (v,ob)) : aMake0 tv op r n = some (v,ob):=by
 cases op <;> (try (simp only [aMake,reduceCtorEq] at h; done)) <;> simp only [aMake] at h <;> simp only [aMake0]
 case alloc e =>
  unfold mkAlloc at h
  split at h
  ·rename_i T hTt; (try rw [hTt]); exact h
  ·cases h
 case box e x=>exact h
 case buildSlice t len parts =>
  unfold mkRow at h
  split at h
  ·rename_i T hTt
   try rw [hTt]
   try dsimp only
   split at h
   ·rename_i e hund
    try rw [hund]
    try dsimp only
    split at h
    ·rename_i E hE
     try rw [hE]
     try dsimp only
     cases e1 : Nat.ble (Nat.mul len E.size) 16777216 with
     | false=>rw [e1] at h; cases h
     | true =>
      rw [e1] at h; dsimp only at h
      cases e2 : Nat.blt len unk with
      | false=>rw [e2] at h; cases h
      | true =>
       rw [e2] at h; dsimp only at h
       have g1 : len * E.size ≤ 16777216:=Nat.le_of_ble_eq_true e1
       have g2 : len < unk:=by simp [Nat.blt] at e2; omega
       rw [if_neg (by omega)]
       split at h
       ·rename_i c hf
        cases h
        have hf:=fillQ_eq _ _ _ _ hf
        rw [zrQ_eq (zeroSize hT hE),partsQ_eq] at hf
        have hf' : Instr.fill (fun i=>some (i * E.size,E.size)) (if len * E.size = 0 then #[] else zr E.zero.cells (len * E.size)) (parts.map fun (i,x)=>(i,r x)).toList = some ⟨c⟩:=hf
        rw [hf']; rfl
       ·cases h
    ·cases h
   ·cases h
  ·cases h
 case makeSlice t l c =>
  unfold mkMade at h
  split at h
  ·rename_i T k li k2 ci hTt hl hc
   try rw [hTt]
   try rw [hl]
   try rw [hc]
   try dsimp only
   split at h
   ·rename_i e hund
    try rw [hund]
    try dsimp only
    split at h
    ·rename_i E hE
     try rw [hE]
     try dsimp only
     cases e1 : Nat.ble li ci with
     | false=>rw [e1] at h; cases h
     | true =>
      rw [e1] at h; dsimp only at h
      cases e2 : Nat.blt ci 4611686018427387904 with
      | false=>rw [e2] at h; cases h
      | true =>
       rw [e2] at h; dsimp only at h
       cases e3 : Nat.ble (Nat.mul E.bytes ci) 281474976710656 with
       | false=>rw [e3] at h; cases h
       | true =>
        rw [e3] at h; dsimp only at h
        have g1:=Nat.le_of_ble_eq_true e1
        have g2 : ci < 4611686018427387904:=by simp [Nat.blt] at e2; omega
        have g3 : E.bytes * ci ≤ 281474976710656:=Nat.le_of_ble_eq_true e3
        rw [if_pos ⟨Int.natCast_nonneg _,by show (li : Int) ≤ ci; omega,by show (ci : Int) < _; omega,by show (E.bytes : Int) * (ci : Int) ≤ _; omega⟩]
        cases h
        rw [zrQ_eq (zeroSize hT hE)]; rfl
    ·cases h
   ·cases h
  ·cases h

theorem aMake_ok (hT : TvOk P tv) {o : Oper} {n : Nat} {w : World} (hn : p n = none) (hr : ∀ x ∈ o.op.operands,VR p (r x) (r' x)) {v : Value} {ob : AO} (h : aMake tv o.op r n = some (v,ob)) :
  ∃ v' o',(execOp r' o).run P w = .ok (.value v') (w.alloc o') ∧ VR (newp p n w.heap.size 0) v v' ∧ OR (newp p n w.heap.size 0) 0 ob o' :=
 aMake0_ok hT hn hr (aMake_eq hT h)
end
end Go.Proofs.Ytkjceegmmhnajaa

namespace Go.Proofs.Ytkjceegmmhnajaa
open Go.RowKit

section
variable {P : Program} {tv : Nat → Option TV} {p : Nat → Option (Nat × Nat)} {r r' : Operand → Value}

noncomputable def aNews (size : Nat) (x : Value) (H : Tr AO) : Option (Nat × Array Value) :=
 match x with
 | .slice none m _=>if m = 0 then some (0,#[]) else none
 | .slice (some ⟨b,o,none⟩) m _=>match H.get b with
  | some (.cells c _ _)=>Bool.rec none (Bool.rec none (some (m,extQ c o (Nat.mul m size))) (allQ noHole (extQ c o (Nat.mul m size)).toList)) (Nat.ble (Nat.add o (Nat.mul m size)) (sizeQ c))
  | _=>none
 | .string s=>some (s.size,(s.extract 0 s.size).data.map fun b=>.int .u8 b.toNat)
 | _=>none

theorem aNews_ok {E : Env} {lb : Nat} {B : Base E lb} {w0 w : World} {h : Hp} (hr : HR B w0 p h w) {H : Tr AO} {size : Nat} {x x' : Value} (hS : ∀ b o m c,x = .slice (some ⟨b,o,none⟩) m c → ∀ y,H.get b = some y → h b = some y) (hx : VR p x x') {m : Nat} {nw : Array Value}
  (ha : aNews size x H = some (m,nw)) : ∃ nw',(∀ w',w'.heap = w.heap → (Builtin.lenOf x').run P w' = .ok m w' ∧ (Builtin.firstCells size m x').run P w' = .ok nw' w') ∧ AR p nw nw':=by
 unfold aNews at ha
 split at ha
 ·rename_i m' c
  split at ha
  ·rename_i h0
   cases ha; subst h0
   have : x' = .slice none 0 c:=by cases hx; rfl
   subst this
   exact ⟨#[],fun w' _=>⟨rfl,rfl⟩,AR.empty p⟩
  ·cases ha
 ·rename_i b o m' c
  obtain ⟨b',c',k,rfl,hb,_⟩:=hx.slice_inv
  split at ha
  ·rename_i cs e sz hcs
   obtain ⟨_,cs',hblk,hpre,_⟩:=hr.cells (hS b o m' c rfl _ hcs) hb
   rw [sizeQ_eq,extQ_eq] at ha
   cases hle : Nat.ble (Nat.add o (Nat.mul m' size)) cs.size with
   | true =>
    rw [hle] at ha
    dsimp only at ha
    have hle : o + m' * size ≤ cs.size:=Nat.le_of_ble_eq_true hle
    cases hnh : allQ noHole (cs.extract o (o + Nat.mul m' size)).toList with
    | false=>rw [hnh] at ha; cases ha
    | true =>
    rw [hnh] at ha
    cases ha
    refine ⟨cs'.extract o (o + m * size),fun w' hw'=>⟨rfl,?_⟩,hpre.extract hle hnh⟩
    simp only [Builtin.firstCells]
    exact run_loadCells' (by rw [hw']; exact hblk) (Nat.le_trans hle hpre.1)
   | false=>rw [hle] at ha; cases ha
  ·cases ha
 ·rename_i s
  cases ha
  have : x' = .string s:=by cases hx; rfl
  subst this
  refine ⟨_,fun w' _=>⟨rfl,rfl⟩,AR.of_get rfl fun i v v' hv hv'=>?_⟩
  rw [hv] at hv'; cases hv'
  rw [Array.getElem?_map] at hv
  obtain ⟨u,_,rfl⟩:=Option.map_eq_some_iff.1 hv
  exact .int _ _
 ·cases ha

theorem growBy_le (need : Nat) : ∀ (rounds c : Nat),c ≤ 2 * need + 400 → Builtin.growBy need rounds c ≤ 2 * need + 400
 | 0,c,h=>h
 | rounds + 1,c,h=>by
  unfold Builtin.growBy
  split
  ·exact h
  ·exact growBy_le need rounds _ (by omega)

theorem nextslicecap_le {need cap : Nat} (h : cap < need) : Builtin.nextslicecap need cap ≤ 2 * need + 400:=by
 unfold Builtin.nextslicecap
 split
 ·omega
 ·split
  ·omega
  ·exact growBy_le need 4 cap (by omega)

theorem run_append_room {t tx e size : Nat} {s x : Value} {T X : TypeDesc} {w : World} {m l cap : Nat} {base : Option Addr} {nw : Array Value} {type : Nat}
  (hT : ∀ w,(underlying t).run P w = .ok T w) (hTe : T = .slice e) (hX : ∀ w,(underlying tx).run P w = .ok X w) (hXi : X = .string ∨ ∃ q,X = .slice q) (hE : ∀ w,(sizeOf e).run P w = .ok size w)
  (hs : s = .slice base l cap) (hlen : (Builtin.lenOf x).run P w = .ok m w) (hfc : (Builtin.firstCells size m x).run P w = .ok nw w) (hroom : l + m ≤ cap) :
  (Builtin.append_ #[t,tx] type #[s,x]).run P w = ((match base with | some a=>storeCells (a.add (l * size)) nw.toList | none=>pure ()).run P w).andThen fun _ w'=>.ok (Value.slice base (l + m) cap) w':=by
 subst hTe hs
 unfold Builtin.append_
 rcases hXi with rfl | ⟨q,rfl⟩ <;> cases base <;> simp [hT w,hX w,hE w,hlen,hroom,hfc]

theorem run_append_new {t tx e size : Nat} {s x : Value} {T X : TypeDesc} {w : World} {m l cap : Nat} {base : Option Addr} {nw old : Array Value} {type : Nat} {E : TV} {i : TypeInfo}
  (hT : ∀ w,(underlying t).run P w = .ok T w) (hTe : T = .slice e) (hX : ∀ w,(underlying tx).run P w = .ok X w) (hXi : X = .string ∨ ∃ q,X = .slice q) (hE : ∀ w,(sizeOf e).run P w = .ok size w)
  (hB : ∀ w,(typeInfo e).run P w = .ok i w) (hib : i.bytes = E.bytes) (hZ : ∀ w,(zeroValue e).run P w = .ok E.zero w)
  (hs : s = .slice base l cap) (hlen : (Builtin.lenOf x).run P w = .ok m w) (hfc : (Builtin.firstCells size m x).run P w.drew = .ok nw w.drew) (hfo : (Builtin.firstCells size l s).run P w.drew = .ok old w.drew)
  (hroom : ¬ l + m ≤ cap) (hbig : (2 * (l + m) + 400) * E.bytes ≤ 2 ^ 48) (hmax : l + m < 2 ^ 62) :
  ∃ cap',l + m ≤ cap' ∧ (Builtin.append_ #[t,tx] type #[s,x]).run P w = .ok (.slice (some ⟨w.heap.size,0,none⟩) (l + m) cap') (w.drew.alloc (.cells (old ++ nw ++ Builtin.zeroCells E.zero.cells (cap' - (l + m))) e)):=by
 subst hTe hs
 have h1 : ¬ (281474976710656 < Builtin.nextslicecap (l + m) cap * E.bytes):=by
  have:=nextslicecap_le (show cap < l + m by omega)
  have:=Nat.mul_le_mul_right E.bytes this
  omega
 have h2 : ¬ (9223372036854775807 < (l : Int) + (m : Int)):=by omega
 have h3 : IntKind.i64.max = 9223372036854775807:=rfl
 refine ⟨l + m + w.tape w.drawn (.appendCap (l + m) cap e) % (2 ^ 63 - (l + m)),by omega,?_⟩
 unfold Builtin.append_
 rcases hXi with rfl | ⟨q,rfl⟩ <;>
  simp [hT w,hX w,hE w,hlen,hroom,hB,hib,h1,h2,h3,hfc,hfo,hZ,Question.forced,Question.cut,newRow]
end
end Go.Proofs.Ytkjceegmmhnajaa

namespace Go.Proofs.Ytkjceegmmhnajaa
open Go.RowKit

section
variable {P : Program} {tv : Nat → Option TV} {p : Nat → Option (Nat × Nat)} {r r' : Operand → Value}

def bigOk (need bytes : Nat) : Bool:=decide ((2 * need + 400) * bytes ≤ 2 ^ 48) && decide (need < 2 ^ 61)

def appendable : TypeDesc → Bool
 | .slice _=>true
 | .string=>true
 | _=>false

noncomputable def catQ (a b : Array Value) : Array Value:=⟨appQ a.toList b.toList⟩
theorem catQ_eq (a b : Array Value) : catQ a b = a ++ b:=by apply Array.toList_inj.1; simp [catQ,appQ_eq]

noncomputable def aAppend (tv : Nat → Option TV) (lo : Nat) (args : Array Operand) (argTypes : Array TypeId) (r : Operand → Value) (H : Tr AO) (n : Nat) : Option (Value × Dl × Nat) :=
 match args.toList,argTypes.toList with
 | [a0,a1],[t,tx]=>match tv t,tv tx with
  | some T,some X=>match T.und with
   | .slice e=>match tv e with
    | some E =>
     if appendable X.und = true then
      match aNews E.size (r a1) H with
      | some (m,nw)=>if sizeQ nw ≠ m * E.size then none else
       match r a0 with
       | .slice none l c=>if l = 0 ∧ c = 0 then
         if m = 0 then some (.slice none 0 0,[],n)
         else if bigOk m E.bytes then some (.slice (some ⟨n,0,none⟩) m unk,[(n,some (.cells nw e (some E.size)))],n + 1) else none
        else none
       | .slice (some ⟨b,o,none⟩) l c =>
        if m = 0 then (if l ≤ c then some (.slice (some ⟨b,o,none⟩) l c,[],n) else none)
        else match H.get b with
         | some (.cells cs e' sz) =>
          if o + l * E.size ≤ sizeQ cs then
           if c < unk then
            if l + m ≤ c then
             if lo ≤ b ∧ o + (l + m) * E.size ≤ sizeQ cs ∧ allOne nw = true then
              some (.slice (some ⟨b,o,none⟩) (l + m) c,[(b,some (.cells (setAllQ (o + l * E.size) nw.toList cs) e' sz))],n)
             else none
            else if bigOk (l + m) E.bytes then some (.slice (some ⟨n,0,none⟩) (l + m) unk,[(n,some (.cells (catQ (extQ cs o (l * E.size)) nw) e (some E.size)))],n + 1)
            else none
           else if c = unk ∧ o = 0 ∧ lo ≤ b ∧ sz = some E.size ∧ e' = e ∧ allOne nw = true ∧ bigOk (l + m) E.bytes = true then
            some (.slice (some ⟨n,0,none⟩) (l + m) unk,[(n,some (.cells (catQ (extQ cs 0 (l * E.size)) nw) e (some E.size))),(b,none)],n + 1)
           else none
          else none
         | _=>none
       | _=>none
      | none=>none
     else none
    | none=>none
   | _=>none
  | _,_=>none
 | _,_=>none

theorem HR.move {E : Env} {lb : Nat} {B : Base E lb} {w0 : World} {h : Hp} {w w' : World} (hr : HR B w0 p h w) {i b k n : Nat} {x o : AO} {o' : Obj} (hi : h i = some x) (hb : p i = some (b,k)) (hn : p n = none) (ho : OR (newp p n b k) k o o')
  (hs : w'.heap.size = w.heap.size) (hsame : ∀ k,k ≠ b → w'.heap[k]? = w.heap[k]?) (hnew : w'.heap[b]? = some o') (hli : lb ≤ i) (h1 : w'.os = w.os) (h2 : w'.tape = w.tape) (h3 : w'.output = w.output) :
  HR B w0 (newp p n b k) (fun j=>if j = n then some o else if j = i then none else h j) w':=by
 obtain ⟨b',kk,x',k1,k2,_,_⟩:=hr.ob i x hi
 rw [hb] at k1; cases k1
 have k2' : B.n ≤ b:=by have:=B.le; omega
 have hext:=(ext_new hn b k).ext
 have hin : i ≠ n:=fun e=>by subst e; rw [hn] at hb; cases hb
 have hne : ∀ j,(h j).isSome = true → j ≠ n:=fun j hj e=>by
  subst e
  cases hh : h j with
  | none=>simp [hh] at hj
  | some y=>obtain ⟨c,m,_,hc,_⟩:=hr.ob j y hh; rw [hn] at hc; cases hc
 have other : ∀ j c m,(h j).isSome = true → j ≠ i → p j = some (c,m) → c ≠ b:=fun j c m hj hji hc e=>by
  subst e; exact hji (hr.inj j i c m k hj (by simp [hi]) hc hb)
 refine ⟨hr.hB,hr.low.trans ⟨h1,h2,h3,by omega,fun k hk=>hsame k (by omega)⟩,hr.pin.up hext,fun j y hj=>?_,fun j l c m m' hj hl e1 e2=>?_⟩
 ·by_cases e : j = n
  ·subst e; simp at hj; subst hj
   exact ⟨b,k,o',by simp [newp], .inl k2',hnew,ho⟩
  ·by_cases e2 : j = i
   ·subst e2; simp [e] at hj
   ·simp only [if_neg e,if_neg e2] at hj
    obtain ⟨c,m,y',g1,g2,g3,g4⟩:=hr.ob j y hj
    exact ⟨c,m,y',hext j _ g1,g2,by rw [hsame c (other j c m (by simp [hj]) e2 g1)]; exact g3,g4.mono hext⟩
 ·have cases3 : ∀ j c m,((fun j=>if j = n then some o else if j = i then none else h j) j).isSome = true → newp p n b k j = some (c,m) → (j = n ∧ c = b) ∨ (j ≠ n ∧ j ≠ i ∧ (h j).isSome = true ∧ p j = some (c,m)):=fun j c m hj e=>by
   by_cases e1 : j = n
   ·subst e1; simp [newp] at e; exact .inl ⟨rfl,e.1.symm⟩
   ·by_cases e2 : j = i
    ·subst e2; simp [e1] at hj
    ·exact .inr ⟨e1,e2,by simpa [e1,e2] using hj,by simpa [newp,e1] using e⟩
  rcases cases3 j c m hj e1 with ⟨rfl,rfl⟩ | ⟨q1,q2,q3,q4⟩
  ·rcases cases3 l c m' hl e2 with ⟨rfl,_⟩ | ⟨q1,q2,q3,q4⟩
   ·rfl
   ·exact absurd rfl (other l c m' q3 q2 q4)
  ·rcases cases3 l c m' hl e2 with ⟨rfl,rfl⟩ | ⟨q1',q2',q3',q4'⟩
   ·exact absurd rfl (other j c m q3 q2 q4)
   ·exact hr.inj j l c m m' q3 q3' q4 q4'

theorem setAll_get (o : Nat) : ∀ (l : List Value) (i : Nat) (c : Array Value) (j : Nat),(setAll o l i c)[j]? = if o + i ≤ j ∧ j < o + i + l.length ∧ j < c.size then l[j - (o + i)]? else c[j]?
 | [],i,c,j=>by simp [setAll]; intro h1 h2; omega
 | v :: l,i,c,j=>by
  rw [setAll,setAll_get o l (i + 1),Array.size_setIfInBounds,Array.getElem?_setIfInBounds]
  by_cases hj : o + i = j
  ·subst hj
   rw [if_neg (by omega)]
   by_cases hc : o + i < c.size
   ·simp [hc]
   ·simp [hc]
  ·rw [if_neg hj]
   by_cases h2 : o + (i + 1) ≤ j ∧ j < o + (i + 1) + l.length ∧ j < c.size
   ·rw [if_pos h2,if_pos (by simp; omega)]
    obtain ⟨d,rfl⟩ : ∃ d,j = o + i + d + 1:=⟨j - (o + i) - 1,by omega⟩
    rw [show o + i + d + 1 - (o + (i + 1)) = d from by omega,show o + i + d + 1 - (o + i) = d + 1 from by omega]; simp
   ·rw [if_neg h2,if_neg (by simp; omega)]

theorem PreR.join {a a' b b' c' : Array Value} (h : ARc p a a') (k : AR p b b') (hc : ∀ i,i < a.size + b.size → c'[i]? = (a' ++ b')[i]?) (hs : a.size + b.size ≤ c'.size) : PreR p (a ++ b) c' :=
 PreR.of_getC (by simpa using hs) fun i v v' hv hv'=>by
  have hi : i < (a ++ b).size:=(Array.getElem?_eq_some_iff.1 hv).1
  rw [hc i (by simpa using hi)] at hv'
  have hs:=h.1
  by_cases hia : i < a.size
  ·rw [Array.getElem?_append_left hia] at hv
   rw [Array.getElem?_append_left (by omega)] at hv'
   exact h.2 i v v' hv hv'
  ·rw [Array.getElem?_append_right (by omega)] at hv
   rw [Array.getElem?_append_right (by omega),← hs] at hv'
   obtain ⟨u,hu,hr⟩:=k.get _ v hv
   rw [hu] at hv'; cases hv'; exact .inr hr

theorem ones {a a' : Array Value} (h : AR p a a') (ho : a.toList.all (·.oneCell') = true) : ∀ v ∈ a'.toList,v.oneCell' = true:=fun v' hv'=>by
 obtain ⟨i,hi,e1⟩:=List.mem_iff_getElem.1 hv'
 have hi' : i < a.size:=by rw [h.1]; simpa using hi
 obtain ⟨u,hu,hvr⟩:=h.get i _ (Array.getElem?_eq_getElem hi')
 have : u = v':=by
  have h5 : a'[i]? = some v':=by rw [← e1]; simp
  rw [h5] at hu; cases hu; rfl
 subst this
 rw [hvr.oneCell]
 exact List.all_eq_true.1 ho _ (by simp)

end
end Go.Proofs.Ytkjceegmmhnajaa

namespace Go.Proofs.Ytkjceegmmhnajaa
open Go.RowKit

section
variable {P : Program} {tv : Nat → Option TV} {p : Nat → Option (Nat × Nat)} {r r' : Operand → Value}

theorem drew_heap (w : World) : w.drew.heap = w.heap:=rfl

theorem zeroCells_size (z : Array Value) (n : Nat) : (Builtin.zeroCells z n).size = n * z.size:=by simp [Builtin.zeroCells]

theorem HR.new_cells {E : Env} {lb : Nat} {B : Base E lb} {w0 w : World} {h : Hp} (hr : HR B w0 p h w) {n k s e : Nat} (hn : p n = none) {c c' : Array Value} (hc : PreR p c c') (hk : k * s ≤ c'.size) :
  HR B w0 (newp p n w.heap.size k) (upd h [(n,some (.cells c e (some s)))]) (w.drew.alloc (.cells c' e)):=by
 refine (HR.drew hr).new hn ⟨rfl,rfl,hc.1,fun s' hs=>?_,fun i hi=>(hc.2 i hi).mono (ext_new hn _ _).ext⟩
 cases hs; exact hk

theorem aAppend_keys {lo n n' : Nat} {args : Array Operand} {argTypes : Array TypeId} {H : Tr AO} {v : Value} {d : Dl} (ha : aAppend tv lo args argTypes r H n = some (v,d,n')) : ∀ e ∈ d,(n ≤ e.1 ∧ e.1 < n') ∨ ∃ x ∈ args,∃ o l c,r x = .slice (some ⟨e.1,o,none⟩) l c:=by
 have dl1 : ∀ x : AO,∀ e ∈ ([(n,some x)] : Dl),(n ≤ e.1 ∧ e.1 < n + 1) ∨ ∃ x ∈ args,∃ o l c,r x = .slice (some ⟨e.1,o,none⟩) l c:=fun x e he=>by simp at he; subst he; exact .inl ⟨by simp,by simp⟩
 have nil : ∀ m,∀ e ∈ ([] : Dl),(n ≤ e.1 ∧ e.1 < m) ∨ ∃ x ∈ args,∃ o l c,r x = .slice (some ⟨e.1,o,none⟩) l c:=fun m e he=>by simp at he
 unfold aAppend at ha
 split at ha
 case h_2=>cases ha
 rename_i a0 a1 t tx hargs _
 have ha0 : a0 ∈ args:=by rw [← Array.mem_toList_iff,hargs]; simp
 split at ha
 case h_2=>cases ha
 split at ha
 case h_2=>cases ha
 split at ha
 case h_2=>cases ha
 split at ha
 case isFalse=>cases ha
 split at ha
 case h_2=>cases ha
 split at ha
 case isTrue=>cases ha
 split at ha
 ·split at ha
  case isFalse=>cases ha
  split at ha
  ·cases ha; exact nil _
  ·split at ha
   case isFalse=>cases ha
   cases ha; exact dl1 _
 ·rename_i b o l c hr0
  split at ha
  ·split at ha
   case isFalse=>cases ha
   cases ha; exact nil _
  ·split at ha
   case h_2=>cases ha
   split at ha
   case isFalse=>cases ha
   split at ha
   ·split at ha
    ·split at ha
     case isFalse=>cases ha
     cases ha
     intro e he; simp at he; subst he; exact .inr ⟨a0,ha0,o,l,c,hr0⟩
    ·split at ha
     case isFalse=>cases ha
     cases ha; exact dl1 _
   ·split at ha
    case isFalse=>cases ha
    cases ha
    intro e he
    simp at he
    rcases he with rfl | rfl
    ·exact .inl ⟨by simp,by simp⟩
    ·exact .inr ⟨a0,ha0,o,l,c,hr0⟩
 ·cases ha

theorem aAppend_dl {lo n n' : Nat} {args : Array Operand} {argTypes : Array TypeId} {H : Tr AO} {v : Value} {d : Dl} (hlo : lo ≤ n) (ha : aAppend tv lo args argTypes r H n = some (v,d,n')) : DlOk lo H d n n':=by
 have dl1 : ∀ x : AO,DlOk lo H [(n,some x)] n (n + 1):=fun x=>⟨by omega,fun e he=>by simp at he; subst he; exact ⟨hlo, .inr ⟨by simp,by simp⟩⟩,fun i h1 h2=>⟨_,List.mem_singleton.2 rfl,by simp; omega⟩⟩
 unfold aAppend at ha
 split at ha
 case h_2=>cases ha
 split at ha
 case h_2=>cases ha
 split at ha
 case h_2=>cases ha
 split at ha
 case h_2=>cases ha
 split at ha
 case isFalse=>cases ha
 split at ha
 case h_2=>cases ha
 split at ha
 case isTrue=>cases ha
 split at ha
 ·split at ha
  case isFalse=>cases ha
  split at ha
  ·cases ha; exact .nil _ _ _
  ·split at ha
   case isFalse=>cases ha
   cases ha; exact dl1 _
 ·split at ha
  ·split at ha
   case isFalse=>cases ha
   cases ha; exact .nil _ _ _
  ·split at ha
   case h_2=>cases ha
   rename_i b _ _ _ _ _ _ _ _ hcs
   split at ha
   case isFalse=>cases ha
   split at ha
   ·split at ha
    ·split at ha
     case isFalse=>cases ha
     rename_i hcond
     cases ha
     exact ⟨Nat.le_refl _,fun e he=>by simp at he; subst he; exact ⟨hcond.1, .inl (by simp [hcs])⟩,fun i h1 h2=>by omega⟩
    ·split at ha
     case isFalse=>cases ha
     cases ha; exact dl1 _
   ·split at ha
    case isFalse=>cases ha
    rename_i hcond
    cases ha
    refine ⟨by omega,fun e he=>?_,fun i h1 h2=>⟨(n,_),List.mem_cons_self ..,by simp; omega⟩⟩
    simp at he
    rcases he with rfl | rfl
    ·exact ⟨hlo, .inr ⟨by simp,by simp⟩⟩
    ·exact ⟨hcond.2.2.1, .inl (by simp [hcs])⟩
 ·cases ha

theorem aAppend_ok (hT : TvOk P tv) {E : Env} {lo : Nat} {B : Base E lo} {w0 w : World} {h : Hp} (hr : HR B w0 p h w) {n n' : Nat} {args : Array Operand} {argTypes : Array TypeId} {type : Nat} {H : Tr AO} {v : Value} {d : Dl}
  (hn : ∀ i,n ≤ i → i < n' → p i = none) (hlo : lo ≤ n) (hS : ∀ x ∈ args,∀ b o l c,r x = .slice (some ⟨b,o,none⟩) l c → ∀ y,H.get b = some y → h b = some y) (hv : ∀ x ∈ args,VR p (r x) (r' x))
  (ha : aAppend tv lo args argTypes r H n = some (v,d,n')) :
  DlOk lo H d n n' ∧ ∃ v' w' q,(Builtin.append_ argTypes type (args.map r')).run P w = .ok v' w' ∧ VR q v v' ∧ Ext p q n n' ∧ HR B w0 q (upd h d) w':=by
 obtain ⟨argsL⟩:=args
 obtain ⟨atL⟩:=argTypes
 unfold aAppend at ha
 simp only [sizeQ_eq,allOne_eq,catQ_eq,extQ_eq] at ha
 split at ha
 case h_2=>cases ha
 rename_i a0 a1 t tx
 split at ha
 case h_2=>cases ha
 rename_i T X hTt hXt
 split at ha
 case h_2=>cases ha
 rename_i e hund
 split at ha
 case h_2=>cases ha
 rename_i E hE
 split at ha
 case isFalse=>cases ha
 rename_i hXu
 have hXi : X.und = .string ∨ ∃ q,X.und = .slice q:=by
  cases hh : X.und <;> simp [hh,appendable] at hXu
  ·exact .inl rfl
  ·exact .inr ⟨_,rfl⟩
 split at ha
 case h_2=>cases ha
 rename_i m nw hnews
 split at ha
 case isTrue=>cases ha
 rename_i hnw
 have hnw : nw.size = m * E.size:=by simpa using hnw
 have hv0:=hv a0 (by simp)
 have hv1:=hv a1 (by simp)
 obtain ⟨nw',hnw',hnar⟩:=aNews_ok (P:=P) hr (fun b o m c hx=>hS a1 (by simp) b o m c hx) hv1 hnews
 have hnws : nw'.size = m * E.size:=by rw [← hnar.1]; exact hnw
 have uT:=fun w=>run_und hT hTt w
 have uX:=fun w=>run_und hT hXt w
 have uE:=fun w=>run_sizeOf' hT hE w
 have uZ:=fun w=>run_zero' hT hE w
 obtain ⟨⟨inf,hinf,_,hby,_⟩,_⟩:=hT.ok e E hE
 have uB : ∀ w,(typeInfo e).run P w = .ok inf w:=fun w=>by simp [typeInfo,hinf]
 have hzs:=zeroSize hT hE
 have room:=fun {s : Value} {l cap : Nat} {base : Option Addr} (hs : s = .slice base l cap) (hroom : l + m ≤ cap) =>
  run_append_room (P:=P) (w:=w) (type:=type) uT hund uX hXi uE hs (hnw' w rfl).1 (hnw' w rfl).2 hroom
 have fresh:=fun {s : Value} {l cap : Nat} {base : Option Addr} {old : Array Value} (hs : s = .slice base l cap) (hfo : (Builtin.firstCells E.size l s).run P w.drew = .ok old w.drew) (hroom : ¬ l + m ≤ cap) (hbig : bigOk (l + m) E.bytes = true) =>
  run_append_new (P:=P) (w:=w) (type:=type) (E:=E) uT hund uX hXi uE uB hby uZ hs (hnw' w rfl).1 (hnw' w.drew rfl).2 hfo hroom (by simp [bigOk] at hbig; exact hbig.1) (by simp [bigOk] at hbig; omega)
 have dl1 : ∀ x : AO,DlOk lo H [(n,some x)] n (n + 1):=fun x=>⟨by omega,fun e he=>by simp at he; subst he; exact ⟨hlo, .inr ⟨by simp,by simp⟩⟩,fun i h1 h2=>⟨_,List.mem_singleton.2 rfl,by simp; omega⟩⟩
 rw [show Array.map r' ({ toList:=[a0,a1] } : Array Operand) = #[r' a0,r' a1] from by simp]
 split at ha
 ·-- nil
  rename_i l c hr0
  rw [hr0] at hv0
  have e0 : r' a0 = .slice none l c:=by generalize r' a0 = z at hv0; cases hv0; rfl
  split at ha
  case isFalse=>cases ha
  rename_i hlc
  obtain ⟨rfl,rfl⟩:=hlc
  split at ha
  ·rename_i hm
   cases ha
   refine ⟨.nil _ _ _, .slice none 0 0,w,p,?_, .nilslice _ _,Ext.refl _ _,hr⟩
   rw [room e0 (by omega)]
   subst hm
   simp
  ·rename_i hm
   split at ha
   case isFalse=>cases ha
   rename_i hbig
   cases ha
   obtain ⟨cap',hcap,hrun⟩:=fresh e0 (old:=#[]) (by rw [e0]; rfl) (by omega) (by simpa using hbig)
   have hn0:=hn n (Nat.le_refl _) (by omega)
   refine ⟨dl1 _,_,_,newp p n w.heap.size cap',hrun,?_,ext_new hn0 _ _,?_⟩
   ·rw [Nat.zero_add]
    exact .slice (by simp [newp]) (.inr ⟨rfl,by omega,fun _=>rfl⟩)
   ·refine HR.new_cells hr hn0 (PreR.of_get (by simp [hnar.1]) fun i x x' hx hx'=>?_) ?_
    ·obtain ⟨u,hu,hvr⟩:=hnar.get i x hx
     have hi : i < nw'.size:=(Array.getElem?_eq_some_iff.1 hu).1
     simp [Array.getElem?_append,hi] at hx'
     have h6 : nw'[i]? = some x':=by rw [Array.getElem?_eq_getElem hi,hx']
     rw [h6] at hu; cases hu; exact hvr
    ·simp only [Array.size_append,zeroCells_size,hzs,hnws]
     have : cap' * E.size = m * E.size + (cap' - m) * E.size:=by rw [← Nat.add_mul]; congr 1; omega
     simp; omega
 ·-- a row
  rename_i b o l c hr0
  rw [hr0] at hv0
  obtain ⟨b',c',k,e0,hb,hcap⟩:=hv0.slice_inv
  have hSb:=hS a0 (by simp) b o l c hr0
  split at ha
  ·rename_i hm
   split at ha
   case isFalse=>cases ha
   rename_i hlc
   cases ha
   subst hm
   refine ⟨.nil _ _ _, .slice (some ⟨b',o,none⟩) l c',w,p,?_, .slice hb hcap,Ext.refl _ _,hr⟩
   rw [room e0 (by rcases hcap with ⟨_,rfl⟩ | ⟨_,h1,_⟩ <;> omega)]
   have : nw' = #[]:=Array.size_eq_zero_iff.1 (by rw [hnws]; simp)
   subst this
   simp [storeCells]
  ·rename_i hm
   split at ha
   case h_2=>cases ha
   rename_i cs e' sz hcs
   obtain ⟨hBb,cs',hblk,hpre,hsz⟩:=hr.cells (hSb _ hcs) hb
   have hb1 : b' < w.heap.size:=(Array.getElem?_eq_some_iff.1 hblk).1
   split at ha
   case isFalse=>cases ha
   rename_i hext
   have old : (Builtin.firstCells E.size l (r' a0)).run P w.drew = .ok (cs'.extract o (o + l * E.size)) w.drew:=by
    rw [e0]; simp only [Builtin.firstCells]
    exact run_loadCells' (by rw [drew_heap]; exact hblk) (Nat.le_trans hext hpre.1)
   have hox:=hpre.extractC (i:=o) hext
   have hosz : (cs'.extract o (o + l * E.size)).size = l * E.size:=by have:=hpre.1; simp; omega
   have new : ¬ l + m ≤ c' → bigOk (l + m) E.bytes = true → ∃ v' w' q,(Builtin.append_ #[t,tx] type #[r' a0,r' a1]).run P w = .ok v' w' ∧ VR q (.slice (some ⟨n,0,none⟩) (l + m) unk) v' ∧
     (p n = none → Ext p q n (n + 1) ∧ HR B w0 q (upd h [(n,some (.cells (cs.extract o (o + l * E.size) ++ nw) e (some E.size)))]) w'):=fun h1 h2=>by
    obtain ⟨cap',hcap',hrun⟩:=fresh e0 old h1 h2
    refine ⟨_,_,newp p n w.heap.size cap',hrun, .slice (by simp [newp]) (.inr ⟨rfl,by omega,fun _=>rfl⟩),fun hn0=>⟨ext_new hn0 _ _,?_⟩⟩
    refine HR.new_cells hr hn0 (PreR.join hox hnar (fun i hi=>?_) ?_) ?_
    ·rw [hox.1,hnar.1] at hi
     rw [Array.getElem?_append_left (by simpa using hi)]
    ·rw [hox.1,hnar.1]; simp only [Array.size_append]; omega
    ·simp only [Array.size_append,zeroCells_size,hzs,hnws,hosz]
     have : cap' * E.size = l * E.size + m * E.size + (cap' - (l + m)) * E.size:=by rw [← Nat.add_mul,← Nat.add_mul]; congr 1; omega
     omega
   have place : l + m ≤ c' → o + (l + m) * E.size ≤ cs'.size → nw.toList.all (·.oneCell') = true →
     (Builtin.append_ #[t,tx] type #[r' a0,r' a1]).run P w = .ok (.slice (some ⟨b',o,none⟩) (l + m) c') (w.putObj b' (.cells (setAll (o + l * E.size) nw'.toList 0 cs') e' (0,0))):=fun h1 h2 h3=>by
    rw [room e0 h1]
    have hmul : (l + m) * E.size = l * E.size + m * E.size:=Nat.add_mul _ _ _
    have:=run_storeCells' (P:=P) (o:=o + l * E.size) nw'.toList 0 cs' w hblk (ones hnar h3) (by simp [hnws]; omega)
    simp only [add_eq,this,Result.andThen_ok]
   split at ha
   ·-- the capacity is known
    rename_i hlt
    have hcc : c = c':=by rcases hcap with ⟨_,h⟩ | ⟨h,_⟩ <;> omega
    subst hcc
    split at ha
    ·rename_i hle
     split at ha
     case isFalse=>cases ha
     rename_i hcond
     obtain ⟨g1,g2,g3⟩:=hcond
     rw [setAllQ_eq (by simp [hnw]; rw [Nat.add_mul] at g2; omega)] at ha
     cases ha
     refine ⟨⟨Nat.le_refl _,fun e he=>by simp at he; subst he; exact ⟨g1, .inl (by simp [hcs])⟩,fun i h1 h2=>by omega⟩,_,_,p,place hle (Nat.le_trans g2 hpre.1) g3, .slice hb (.inl ⟨hlt,rfl⟩),Ext.refl _ _,?_⟩
     refine hr.put (hSb _ hcs) hb ?_ (by simp) (fun k hk=>World.putObj_heap_other hk) (World.putObj_heap_same hb1) g1 rfl rfl rfl
     have hmul : (l + m) * E.size = l * E.size + m * E.size:=Nat.add_mul _ _ _
     have hp:=PreR.setAll (p:=p) (o:=o + l * E.size) nw.toList nw'.toList 0 cs cs' (by simpa using hnar.1) (fun j x x' hx hx'=>by
      obtain ⟨u,hu,hvr⟩:=hnar.get j x (by simpa using hx)
      have : u = x':=by simp at hx'; rw [hx'] at hu; cases hu; rfl
      subst this; exact hvr) (by simp [hnw]; omega) hpre
     exact ⟨rfl,rfl,hp.1,fun s hs=>by rw [setAll_size]; exact hsz s hs,hp.2⟩
    ·rename_i hle
     split at ha
     case isFalse=>cases ha
     rename_i hbig
     cases ha
     obtain ⟨v',w',q,h1,h2,h3⟩:=new hle hbig
     have:=h3 (hn n (Nat.le_refl _) (by omega))
     exact ⟨dl1 _,v',w',q,h1,h2,this.1,this.2⟩
   ·-- it is not
    rename_i hlt
    split at ha
    case isFalse=>cases ha
    rename_i hcond
    obtain ⟨g1,g2,g3,g4,g5,g6,g7⟩:=hcond
    subst g1 g2 g4 g5
    cases ha
    have hk : l ≤ c' ∧ c' = k:=by rcases hcap with ⟨h,_⟩ | ⟨_,h1,h2⟩; exact absurd h (Nat.lt_irrefl _); exact ⟨h1,h2 rfl⟩
    obtain ⟨hk1,rfl⟩:=hk
    have hn0:=hn n (Nat.le_refl _) (by omega)
    have hbn : b ≠ n:=fun e=>by subst e; rw [hn0] at hb; cases hb
    refine ⟨⟨by omega,fun e he=>?_,fun i h1 h2=>⟨(n,_),List.mem_cons_self ..,by simp; omega⟩⟩,?_⟩
    ·simp at he
     rcases he with rfl | rfl
     ·exact ⟨hlo, .inr ⟨by simp,by simp⟩⟩
     ·exact ⟨g3, .inl (by simp [hcs])⟩
    ·simp only [Nat.zero_add] at *
     by_cases hroom : l + m ≤ c'
     ·have hks:=hsz E.size rfl
      have h2 : (l + m) * E.size ≤ cs'.size:=Nat.le_trans (Nat.mul_le_mul_right _ hroom) hks
      refine ⟨_,_,newp p n b' c',place hroom h2 g6, .slice (by simp [newp]) (.inr ⟨rfl,by omega,fun _=>rfl⟩),ext_new hn0 _ _,?_⟩
      refine hr.move (hSb _ hcs) hb hn0 ?_ (by simp) (fun k hk=>World.putObj_heap_other hk) (World.putObj_heap_same hb1) g3 rfl rfl rfl
      have hext2:=(ext_new hn0 b' c').ext
      have hmul : (l + m) * E.size = l * E.size + m * E.size:=Nat.add_mul _ _ _
      have hj : PreR p (cs.extract 0 (l * E.size) ++ nw) (setAll (l * E.size) nw'.toList 0 cs'):=by
       refine PreR.join hox hnar (fun i hi=>?_) ?_
       ·rw [setAll_get]
        rw [hox.1,hnar.1] at hi
        by_cases h3 : i < l * E.size
        ·rw [if_neg (by omega),Array.getElem?_append_left (by rw [hosz]; exact h3),Array.getElem?_extract]
         rw [if_pos (by have:=hpre.1; omega)]; simp
        ·rw [if_pos (by simp; omega),Array.getElem?_append_right (by rw [hosz]; omega),hosz]
         simp
       ·rw [setAll_size,hox.1,hnar.1,hosz,hnws]; omega
      exact ⟨rfl,rfl,hj.1,fun s hs=>by cases hs; rw [setAll_size]; exact hks,fun i hi=>(hj.2 i hi).mono hext2⟩
     ·obtain ⟨v',w',q,h1,h2,h3⟩:=new hroom g7
      have:=h3 hn0
      refine ⟨v',w',q,h1,h2,this.1,this.2.sub fun i x hi=>?_⟩
      simp only [upd] at hi ⊢
      by_cases e1 : i = n
      ·simpa [e1] using hi
      ·rw [if_neg e1] at hi ⊢
       by_cases e2 : i = b
       ·simp [e2] at hi
       ·rw [if_neg e2] at hi; exact hi
 ·cases ha
end
end Go.Proofs.Ytkjceegmmhnajaa

namespace Go.Proofs.Ytkjceegmmhnajaa
open Go.RowKit

noncomputable def eqL (a b : List UInt8) : Bool:=List.rec (fun b=>List.rec true (fun _ _ _=>false) b) (fun x _ ih b=>List.rec false (fun y r _=>Bool.rec false (ih r) (Nat.beq x.toNat y.toNat)) b) a b
theorem eqL_eq : ∀ a b : List UInt8,eqL a b = decide (a = b)
 | [],[]=>rfl
 | [],_ :: _=>rfl
 | _ :: _,[]=>rfl
 | x :: a,y :: b=>by
  have ih:=eqL_eq a b
  show (Bool.rec false (eqL a b) (Nat.beq x.toNat y.toNat) : Bool) = _
  by_cases h : x = y
  ·subst h
   have : Nat.beq x.toNat x.toNat = true:=by simp
   rw [this,ih]
   simp
  ·have : Nat.beq x.toNat y.toNat = false:=by
    cases e : Nat.beq x.toNat y.toNat with
    | false=>rfl
    | true=>exact absurd (UInt8.toNat_inj.1 (Nat.eq_of_beq_eq_true e)) h
   rw [this]
   simp [h]
noncomputable def eqS (s t : ByteArray) : Bool:=eqL s.data.toList t.data.toList
theorem beqS (s t : ByteArray) : (s == t) = (s.data == t.data):=by cases s; cases t; rfl
theorem eqS_data (s t : ByteArray) : eqS s t = (s.data == t.data):=by
 unfold eqS
 rw [eqL_eq,Bool.eq_iff_iff,decide_eq_true_iff,beq_iff_eq,Array.toList_inj]
theorem eqS_eq (s t : ByteArray) : eqS s t = (s == t):=(eqS_data s t).trans (beqS s t).symm
theorem eqS_true {s t : ByteArray} (h : eqS s t = true) : t = s:=by
 rw [eqS_data,beq_iff_eq] at h
 cases s; cases t; cases h; rfl

noncomputable def sameK (u : TypeDesc) (a b : Value) : Option Bool:=match u with
 | .int _=>match a,b with
  | .int .i64 x, .int .i64 y=>some (eqI x y)
  | _,_=>none
 | .string=>match a,b with
  | .string s, .string t=>some (eqS s t)
  | _,_=>none
 | _=>none
theorem sameK_ok {u : TypeDesc} {a b : Value} {r : Bool} (h : sameK u a b = some r) : Instr.sameNow u a b = some r ∧ (r = true → b = a):=by
 unfold sameK at h
 split at h
 ·split at h
  ·cases h
   refine ⟨by simp [Instr.sameNow,eqI_eq],fun h=>?_⟩
   rw [eqI_eq,beq_iff_eq] at h
   rw [h]
  ·cases h
 ·split at h
  ·cases h
   refine ⟨by simp [Instr.sameNow,eqS_eq],fun h=>by rw [eqS_true h]⟩
  ·cases h
 ·cases h

noncomputable def findM (u : TypeDesc) (k : Value) (l : List ME) : Nat → Option (Option (Nat × Value)) :=
 List.rec (fun _=>some none) (fun e _ ih i=>match sameK u k e.1 with
  | some b=>Bool.rec (ih (Nat.succ i)) (some (some (i,e.2.1))) b
  | none=>none) l

theorem findM_ok {p : Nat → Option (Nat × Nat)} {u : TypeDesc} {k : Value} {l : List ME} {l' : List MapEntry} (h : MR p l l') : ∀ (i : Nat) (r : Option (Nat × Value)),findM u k l i = some r →
  ∃ r',Instr.findNow u k l' i = some r' ∧ (match r,r' with
   | none,none=>True
   | some (j,v),some (j',v')=>j' = j ∧ VR p v v' ∧ i ≤ j ∧ j < i + l.length ∧ (∃ e,l[j - i]? = some e ∧ e.1 = k ∧ e.2.1 = v)
   | _,_=>False):=by
 induction h with
 | nil=>intro i r hr; cases hr; exact ⟨none,rfl,trivial⟩
 | @cons k0 v0 v0' b0 l l' hv ht ih =>
  intro i r hr
  change (match sameK u k k0 with
   | some b=>(Bool.rec (findM u k l (Nat.succ i)) (some (some (i,v0))) b : Option (Option (Nat × Value)))
   | none=>none) = some r at hr
  cases hs : sameK u k k0 with
  | none=>rw [hs] at hr; cases hr
  | some b =>
   rw [hs] at hr
   obtain ⟨e1,e2⟩:=sameK_ok hs
   cases b with
   | true =>
    cases hr
    refine ⟨some (i,v0'),by simp [Instr.findNow,e1],rfl,hv,Nat.le_refl _,by simp,⟨_,by simp; rfl,e2 rfl,rfl⟩⟩
   | false =>
    obtain ⟨r',h1,h2⟩:=ih (i + 1) r hr
    refine ⟨r',by simp [Instr.findNow,e1,h1],?_⟩
    cases r with
    | none =>
     cases r' with
     | none=>trivial
     | some q'=>exact h2.elim
    | some q =>
     obtain ⟨j,v⟩:=q
     cases r' with
     | none=>exact h2.elim
     | some q' =>
      obtain ⟨j',v'⟩:=q'
      obtain ⟨a1,a2,a3,a4,e,a5,a6⟩:=h2
      refine ⟨a1,a2,by omega,by simp; omega,e,?_,a6⟩
      rw [show j - i = (j - (i + 1)) + 1 from by omega]
      simpa using a5

/-! ### the operations -/
noncomputable def mapT (tv : Nat → Option TV) (t : Nat) : Option (TypeDesc × Value):=match tv t with
 | some T=>match T.und with
  | .map kt et=>match tv kt,tv et with
   | some K,some Z=>some (K.und,Z.zero)
   | _,_=>none
  | _=>none
 | none=>none
noncomputable def keyOk (u : TypeDesc) (k : Value) : Bool:=match u,k with
 | .int _, .int .i64 _=>true
 | .string, .string _=>true
 | _,_=>false
noncomputable def entM (x : Value) (H : Tr AO) : Option (List ME):=match x with
 | .map none=>some []
 | .map (some b)=>match H.get b with
  | some (.map es _)=>some es
  | _=>none
 | _=>none
noncomputable def answer (ok : Bool) (z : Value) (f : Option (Nat × Value)) : Value:=match f with
 | some (_,v)=>Bool.rec v (.tuple #[v, .bool true]) ok
 | none=>Bool.rec z (.tuple #[z, .bool false]) ok
noncomputable def aLookup (tv : Nat → Option TV) (t : Nat) (x k : Value) (ok : Bool) (H : Tr AO) : Option Value :=
 match mapT tv t,entM x H with
 | some (u,z),some es=>Bool.rec none (match findM u k es 0 with
   | some f=>some (answer ok z f)
   | none=>none) (keyOk u k)
 | _,_=>none

section
variable {P : Program} {tv : Nat → Option TV} {p : Nat → Option (Nat × Nat)} {w : World}
theorem mapT_ok (hT : TvOk P tv) {t : Nat} {u : TypeDesc} {z : Value} (h : mapT tv t = some (u,z)) : ∃ kt et,P.underlying t = some (.map kt et) ∧ P.underlying kt = some u ∧ (∀ w,(zeroValue et).run P w = .ok z w) ∧ ∀ p,VR p z z:=by
 unfold mapT at h
 split at h
 ·rename_i T hTt
  split at h
  ·rename_i kt et hu
   split at h
   ·rename_i K Z hK hZ
    cases h
    refine ⟨kt,et,?_,(hT.ok _ _ hK).2.1,fun w=>run_zero' hT hZ w,fun p=>zeroVR hT hZ p⟩
    rw [← hu]; exact (hT.ok _ _ hTt).2.1
   ·cases h
  ·cases h
 ·cases h
theorem keyOk_eq {u : TypeDesc} {k k' : Value} (h : keyOk u k = true) (hv : VR p k k') : k' = k:=by
 unfold keyOk at h
 split at h
 ·exact hv.int_inv
 ·cases hv; rfl
 ·cases h
theorem run_checkKey {u : TypeDesc} {k : Value} {kt : Nat} (hu : P.underlying kt = some u) (h : keyOk u k = true) (e : Bool) : (Instr.checkKey e 10000 kt k).run P w = .ok () w:=by
 unfold keyOk at h
 have h1 : (underlying kt).run P w = .ok u w:=by simp [underlying,hu]
 have all : ∀ n,(Instr.checkKey e (n + 1) kt k).run P w = .ok () w:=fun n=>by
  split at h
  ·simp only [Instr.checkKey,Sem.run_bind,h1,Result.andThen_ok,Sem.run_pure]
  ·simp only [Instr.checkKey,Sem.run_bind,h1,Result.andThen_ok,Sem.run_pure]
  ·cases h
 exact all 9999
theorem run_findKey {u : TypeDesc} {k : Value} {kt : Nat} {es : List MapEntry} {r : Option (Nat × Value)} (hu : P.underlying kt = some u) (h : Instr.findNow u k es 0 = some r) : (Instr.findKey kt k es).run P w = .ok r w:=by
 have h1 : (underlying kt).run P w = .ok u w:=by simp [underlying,hu]
 simp only [Instr.findKey,Sem.run_bind,h1,Result.andThen_ok,h,Sem.run_pure]
theorem run_getMap {r : Nat} {es : Array MapEntry} {clock : Nat} (hb : w.heap[r]? = some (.map es clock)) : (getObj r).run P w = .ok (.map es clock) w:=by simp [getObj,Sem.run,hb]
theorem run_setMap {r : Nat} {es : Array MapEntry} {clock : Nat} (o : Obj) (hb : w.heap[r]? = some (.map es clock)) : (setObj r o).run P w = .ok () (w.putObj r o):=by simp [setObj,Sem.run,hb,World.putObj]

theorem HR.mapAt {E : Env} {lb : Nat} {B : Base E lb} {w0 w : World} {h : Hp} (hr : HR B w0 p h w) {i b k : Nat} {es : List ME} {c : Nat} (hi : h i = some (.map es c)) (hb : p i = some (b,k)) : ∃ es',w.heap[b]? = some (.map es' c) ∧ MR p es es'.toList:=by
 obtain ⟨b',k',o',h1,_,h3,h4⟩:=hr.ob i _ hi
 rw [hb] at h1; cases h1
 cases o' with
 | map es' c'=>obtain ⟨rfl,h5⟩:=h4; exact ⟨es',h3,h5⟩
 | _=>exact h4.elim

theorem VR.pair {a a' : Value} (h : VR p a a') {b b' : Value} (k : VR p b b') : VR p (.tuple #[a,b]) (.tuple #[a',b']):=.tuple rfl fun i hi=>by
 match i,hi with
 | 0,_=>exact h
 | 1,_=>exact k
def got (z : Value) (f : Option (Nat × Value)) : Value × Bool:=match f with
 | some (_,v)=>(v,true)
 | none=>(z,false)
theorem answer_ok {ok : Bool} {z : Value} {f f' : Option (Nat × Value)} (hz : VR p z z) (h : match f,f' with
   | none,none=>True
   | some (_,v),some (_,v')=>VR p v v'
   | _,_=>False) : VR p (answer ok z f) (if ok then .tuple #[(got z f').1, .bool (got z f').2] else (got z f').1):=by
 cases f with
 | none =>
  cases f' with
  | none =>
   cases ok with
   | false=>exact hz
   | true=>exact VR.pair hz (.bool _)
  | some q=>exact h.elim
 | some q =>
  obtain ⟨j,v⟩:=q
  cases f' with
  | none=>exact h.elim
  | some q' =>
   obtain ⟨j',v'⟩:=q'
   cases ok with
   | false=>exact h
   | true=>exact VR.pair h (.bool _)

theorem aLookup_ok (hT : TvOk P tv) {E : Env} {lb : Nat} {B : Base E lb} {w0 w : World} {h : Hp} (hr : HR B w0 p h w) {H : Tr AO} {t : Nat} {x x' k k' v : Value} {ok : Bool} (hS : ∀ b,x = .map (some b) → ∀ y,H.get b = some y → h b = some y) (hx : VR p x x') (hk : VR p k k') (hl : aLookup tv t x k ok H = some v) :
  ∃ v',(Instr.lookup t x' k' ok).run P w = .ok v' w ∧ VR p v v':=by
 unfold aLookup at hl
 split at hl
 case h_2=>cases hl
 rename_i u z es hm he
 cases hko : keyOk u k with
 | false=>rw [hko] at hl; cases hl
 | true =>
 rw [hko] at hl
 dsimp only at hl
 split at hl
 case h_2=>cases hl
 rename_i f hf
 cases hl
 obtain ⟨kt,et,m1,m2,m3,m4⟩:=mapT_ok hT hm
 obtain rfl:=keyOk_eq hko hk
 have hu : (underlying t).run P w = .ok (.map kt et) w:=by simp [underlying,m1]
 have fin : ∀ es' : Array MapEntry,MR p es es'.toList → (∀ f',Instr.findNow u k' es'.toList 0 = some f' → (Instr.checkKey es'.isEmpty 10000 kt k').run P w = .ok () w → (Instr.findKey kt k' es'.toList).run P w = .ok f' w →
   (Instr.lookup t x' k' ok).run P w = .ok (if ok then .tuple #[(got z f').1, .bool (got z f').2] else (got z f').1) w) →
   ∃ v',(Instr.lookup t x' k' ok).run P w = .ok v' w ∧ VR p (answer ok z f) v':=fun es' hes hrun=>by
  obtain ⟨f',h1,h2⟩:=findM_ok hes 0 f hf
  refine ⟨_,hrun f' h1 (run_checkKey m2 hko _) (run_findKey m2 h1),answer_ok (m4 p) ?_⟩
  cases f with
  | none =>
   cases f' with
   | none=>trivial
   | some q=>exact h2.elim
  | some q =>
   cases f' with
   | none=>exact h2.elim
   | some q'=>exact h2.2.1
 unfold entM at he
 split at he
 ·cases he; cases hx
  refine fin #[] .nil fun f' h1 h4 h3=>?_
  unfold Instr.lookup
  simp only [Sem.run_bind,hu,Result.andThen_ok,Sem.run_pure,h4,h3]
  cases f' with
  | none=>simp only [Sem.run_bind,m3,Result.andThen_ok,Sem.run_pure,got]
  | some q=>obtain ⟨j,v'⟩:=q; simp only [Sem.run_pure,Sem.run_bind,Result.andThen_ok,got]
 ·rename_i b
  split at he
  ·rename_i es0 c0 hg
   cases he
   cases hx with
   | map hp =>
    obtain ⟨es',e1,e2⟩:=hr.mapAt (hS b rfl _ hg) hp
    refine fin es' e2 fun f' h1 h4 h3=>?_
    unfold Instr.lookup
    simp only [Sem.run_bind,hu,Result.andThen_ok,Sem.run_pure,run_getMap e1,h4,h3]
    cases f' with
    | none=>simp only [Sem.run_bind,m3,Result.andThen_ok,Sem.run_pure,got]
    | some q=>obtain ⟨j,v'⟩:=q; simp only [Sem.run_pure,Sem.run_bind,Result.andThen_ok,got]
  ·cases he
 ·cases he

noncomputable def aLenM (x : Value) (H : Tr AO) : Option Value:=match entM x H with
 | some es=>some (.int .i64 (.ofNat (lenQ es)))
 | none=>none
theorem aLenM_ok {E : Env} {lb : Nat} {B : Base E lb} {w0 w : World} {h : Hp} (hr : HR B w0 p h w) {H : Tr AO} {t kt et : Nat} {x x' v : Value} (hu : P.underlying t = some (.map kt et)) (hS : ∀ b,x = .map (some b) → ∀ y,H.get b = some y → h b = some y) (hx : VR p x x') (hl : aLenM x H = some v) (ts : Array Nat) (ht : ts[0]? = some t) (as : Array Value) (ha : as[0]? = some x') (ty : Nat) :
  (Builtin.len_ ts ty as).run P w = .ok v w:=by
 have h1 : (underlying t).run P w = .ok (.map kt et) w:=by simp [underlying,hu]
 unfold aLenM at hl
 split at hl
 case h_2=>cases hl
 rename_i es he
 cases hl
 unfold entM at he
 split at he
 ·cases he; cases hx
  simp only [Builtin.len_,ht,ha,Sem.run_bind,h1,Result.andThen_ok,Sem.run_pure]
  rfl
 ·rename_i b
  split at he
  ·rename_i es0 c0 hg
   cases he
   cases hx with
   | map hp =>
    obtain ⟨es',e1,e2⟩:=hr.mapAt (hS b rfl _ hg) hp
    simp only [Builtin.len_,ht,ha,Sem.run_bind,h1,Result.andThen_ok,run_getMap e1,Sem.run_pure]
    have : lenQ es = es'.size:=by rw [lenQ_eq,e2.length]; simp
    rw [this]
    rfl
  ·cases he
 ·cases he

noncomputable def setM (k x : Value) (l : List ME) : Nat → List ME:=List.rec (fun _=>[]) (fun e r ih i=>Nat.rec ((k,x,e.2.2) :: r) (fun j _=>e :: ih j) i) l
theorem setM_ok {k x x' : Value} (hx : VR p x x') {l : List ME} {l' : List MapEntry} (h : MR p l l') : ∀ i,MR p (setM k x l i) (l'.modify i fun e=>{ e with key:=k,val:=x' }):=by
 induction h with
 | nil=>intro i; cases i <;> exact .nil
 | cons hv ht ih =>
  intro i
  cases i with
  | zero=>exact .cons hx ht
  | succ i=>exact .cons hv (ih i)
noncomputable def delM (l : List ME) : Nat → List ME:=List.rec (fun _=>[]) (fun e r ih i=>Nat.rec r (fun j _=>e :: ih j) i) l
theorem delM_ok {l : List ME} {l' : List MapEntry} (h : MR p l l') : ∀ i,MR p (delM l i) (l'.eraseIdx i):=by
 induction h with
 | nil=>intro i; exact .nil
 | cons hv ht ih =>
  intro i
  cases i with
  | zero=>exact ht
  | succ i=>exact .cons hv (ih i)
theorem MR.append {l m : List ME} {l' m' : List MapEntry} (h : MR p l l') (k : MR p m m') : MR p (l ++ m) (l' ++ m'):=by
 induction h with
 | nil=>exact k
 | cons hv _ ih=>exact .cons hv ih
noncomputable def putB (n : Int) (x : Value) (l : List ME) : Option (List ME):=List.rec none (fun e r ih=>Bool.rec (match ih with
  | some r=>some (e :: r)
  | none=>none) (some ((e.1,x,e.2.2) :: r)) (eqI (.ofNat e.2.2) n)) l
theorem putB_ok {n : Int} {x x' : Value} (hx : VR p x x') {l : List ME} {l' : List MapEntry} (h : MR p l l') : ∀ r,putB n x l = some r →
  ∃ i,l'.findIdx? (fun e=>(e.born : Int) == n) = some i ∧ MR p r (l'.modify i fun e=>{ e with val:=x' }):=by
 induction h with
 | nil=>intro r hr; cases hr
 | @cons k0 v0 v0' b0 l l' hv ht ih =>
  intro r hr
  change (Bool.rec (match putB n x l with
   | some r=>some ((k0,v0,b0) :: r)
   | none=>none) (some ((k0,x,b0) :: l)) (eqI (.ofNat b0) n) : Option (List ME)) = some r at hr
  have hb : eqI (.ofNat b0) n = ((b0 : Int) == n):=eqI_eq _ _
  cases hc : eqI (.ofNat b0) n with
  | true =>
   rw [hc] at hr
   cases hr
   refine ⟨0,?_, .cons hx ht⟩
   rw [List.findIdx?_cons,← hb,hc]; rfl
  | false =>
   rw [hc] at hr
   dsimp only at hr
   split at hr
   ·rename_i r0 hr0
    cases hr
    obtain ⟨i,h1,h2⟩:=ih r0 hr0
    refine ⟨i + 1,?_, .cons hv h2⟩
    rw [List.findIdx?_cons,← hb,hc,h1]; rfl
   ·cases hr

noncomputable def toM (lo : Nat) (m : Value) (H : Tr AO) : Option (Nat × List ME × Nat):=match m with
 | .map (some b)=>match H.get b with
  | some (.map es c)=>Bool.rec none (some (b,es,c)) (Nat.ble lo b)
  | _=>none
 | _=>none
noncomputable def updM (u : TypeDesc) (k x : Value) (es : List ME) (c : Nat) : Option (List ME × Nat):=match findM u k es 0 with
 | some (some (i,_))=>some (setM k x es i,c)
 | some none=>some (appQ es [(k,x,c)],Nat.succ c)
 | none=>none
noncomputable def aMapUpd (tv : Nat → Option TV) (lo t : Nat) (m k x : Value) (H : Tr AO) : Option Dl:=match mapT tv t,toM lo m H with
 | some (u,_),some (b,es,c)=>Bool.rec none (match updM u k x es c with
   | some (es',c')=>some [(b,some (.map es' c'))]
   | none=>none) (keyOk u k)
 | _,_=>none
noncomputable def aMapEnt (tv : Nat → Option TV) (lo t : Nat) (m k : Value) (H : Tr AO) : Option (Value × Dl):=match mapT tv t,toM lo m H with
 | some (u,z),some (b,es,c)=>Bool.rec none (match findM u k es 0 with
   | some (some (i,v))=>match getQ es i with
    | some e=>some (.tuple #[v, .int .i64 (.ofNat e.2.2)],[(b,some (.map (setM k v es i) c))])
    | none=>none
   | some none=>some (.tuple #[z, .int .i64 (.ofNat c)],[(b,some (.map (appQ es [(k,z,c)]) (Nat.succ c)))])
   | none=>none) (keyOk u k)
 | _,_=>none
noncomputable def aEntSt (lo : Nat) (m st x : Value) (H : Tr AO) : Option Dl:=match toM lo m H,st with
 | some (b,es,c), .int .i64 n=>match putB n x es with
  | some es'=>some [(b,some (.map es' c))]
  | none=>none
 | _,_=>none
noncomputable def aMapDel (tv : Nat → Option TV) (lo t : Nat) (m k : Value) (H : Tr AO) : Option Dl:=match mapT tv t,toM lo m H with
 | some (u,_),some (b,es,c)=>Bool.rec none (match findM u k es 0 with
   | some (some (i,_))=>some [(b,some (.map (delM es i) c))]
   | some none=>some [(b,some (.map es c))]
   | none=>none) (keyOk u k)
 | _,_=>none

theorem toM_ok {E : Env} {lo : Nat} {B : Base E lo} {w0 w : World} {h : Hp} (hr : HR B w0 p h w) {H : Tr AO} {m m' : Value} {b c : Nat} {es : List ME} (hS : ∀ b,m = .map (some b) → ∀ y,H.get b = some y → h b = some y) (hm : VR p m m') (ht : toM lo m H = some (b,es,c)) :
  m = .map (some b) ∧ lo ≤ b ∧ H.get b = some (.map es c) ∧ ∃ b' k es',m' = .map (some b') ∧ p b = some (b',k) ∧ w.heap[b']? = some (.map es' c) ∧ MR p es es'.toList:=by
 unfold toM at ht
 split at ht
 case h_2=>cases ht
 rename_i b0
 split at ht
 case h_2=>cases ht
 rename_i es0 c0 hg
 cases hb : Nat.ble lo b0 with
 | false=>rw [hb] at ht; cases ht
 | true =>
 rw [hb] at ht
 cases ht
 cases hm with
 | map hp =>
  obtain ⟨es',e1,e2⟩:=hr.mapAt (hS b rfl _ hg) hp
  exact ⟨rfl,Nat.le_of_ble_eq_true hb,hg,_,_,es',rfl,hp,e1,e2⟩

theorem HR.putMap {E : Env} {lo : Nat} {B : Base E lo} {w0 w : World} {h : Hp} (hr : HR B w0 p h w) {b b' k c c' : Nat} {es es2 : List ME} {es' : Array MapEntry} {es2' : Array MapEntry} (hi : h b = some (.map es c)) (hp : p b = some (b',k)) (hw : w.heap[b']? = some (.map es' c)) (hl : lo ≤ b) (hm : MR p es2 es2'.toList) :
  HR B w0 p (upd h [(b,some (.map es2 c'))]) (w.putObj b' (.map es2' c')):=by
 have hb1 : b' < w.heap.size:=(Array.getElem?_eq_some_iff.1 hw).1
 exact hr.put hi hp (show OR p k (.map es2 c') (.map es2' c') from ⟨rfl,hm⟩) (by simp) (fun k hk=>World.putObj_heap_other hk) (World.putObj_heap_same hb1) hl rfl rfl rfl

theorem MR.at_ {l : List ME} {l' : List MapEntry} (h : MR p l l') : ∀ {i : Nat} {e : ME},l[i]? = some e → ∃ v',l'[i]? = some ⟨e.1,v',e.2.2⟩ ∧ VR p e.2.1 v':=by
 induction h with
 | nil=>intro i e he; simp at he
 | cons hv _ ih =>
  intro i e he
  cases i with
  | zero=>simp at he; subst he; exact ⟨_,rfl,hv⟩
  | succ i=>exact ih (by simpa using he)
theorem setM_key {k v : Value} {l : List ME} {l' : List MapEntry} (h : MR p l l') : ∀ {i : Nat} {e : ME},l[i]? = some e → e.2.1 = v → MR p (setM k v l i) (l'.modify i fun e=>{ e with key:=k }):=by
 induction h with
 | nil=>intro i e he; simp at he
 | cons hv ht ih =>
  intro i e he hev
  cases i with
  | zero=>simp at he; subst he; subst hev; exact .cons hv ht
  | succ i=>exact .cons hv (ih (by simpa using he) hev)
theorem stays_ok {u : TypeDesc} {k : Value} (h : keyOk u k = true) : (Instr.keyThatStays k k).run P w = .ok k w:=by
 have hs : Instr.sameBits 10000 k k = true:=by
  unfold keyOk at h
  split at h
  ·simp [Instr.sameBits]
  ·simp [Instr.sameBits,beqS]
  ·cases h
 unfold Instr.keyThatStays
 rw [if_pos hs]
 rfl

theorem aMapUpd_ok (hT : TvOk P tv) {E : Env} {lo : Nat} {B : Base E lo} {w0 w : World} {h : Hp} (hr : HR B w0 p h w) {H : Tr AO} {t : Nat} {m m' k k' x x' : Value} {d : Dl} (hS : ∀ b,m = .map (some b) → ∀ y,H.get b = some y → h b = some y) (hm : VR p m m') (hk : VR p k k') (hx : VR p x x') (hl : aMapUpd tv lo t m k x H = some d) :
  ∃ b o c w',m = .map (some b) ∧ lo ≤ b ∧ H.get b = some c ∧ d = [(b,some o)] ∧ (Instr.mapUpdate t m' k' x').run P w = .ok () w' ∧ HR B w0 p (upd h d) w':=by
 unfold aMapUpd at hl
 split at hl
 case h_2=>cases hl
 rename_i u z b es c hmt htm
 cases hko : keyOk u k with
 | false=>rw [hko] at hl; cases hl
 | true =>
 rw [hko] at hl
 dsimp only at hl
 obtain ⟨kt,et,m1,m2,m3,m4⟩:=mapT_ok hT hmt
 obtain rfl:=keyOk_eq hko hk
 obtain ⟨rfl,hlo,hg,b',kk,es',rfl,hp,e1,e2⟩:=toM_ok hr hS hm htm
 have hh:=hS b rfl _ hg
 have hu : (underlying t).run P w = .ok (.map kt et) w:=by simp [underlying,m1]
 split at hl
 case h_2=>cases hl
 rename_i es2 c2 hup
 cases hl
 unfold updM at hup
 split at hup
 ·rename_i i v hf
  cases hup
  obtain ⟨f',h1,h2⟩:=findM_ok e2 0 _ hf
  cases f' with
  | none=>exact h2.elim
  | some q =>
   obtain ⟨j,v'⟩:=q
   obtain ⟨rfl,_,_,_,e,a5,a6,_⟩:=h2
   obtain ⟨v2,a7,_⟩:=e2.at_ a5
   have hkey : ((es'[j]?).map (·.key)).getD k' = k':=by
    have : es'[j]? = some ⟨e.1,v2,e.2.2⟩:=by simpa using a7
    rw [this]; exact a6
   refine ⟨b,_,_,w.putObj b' (.map (es'.modify j fun e=>{ e with key:=k',val:=x' }) c),rfl,hlo,hg,rfl,?_,hr.putMap hh hp e1 hlo (by rw [Array.toList_modify]; exact setM_ok hx e2 _)⟩
   unfold Instr.mapUpdate
   simp only [Sem.run_bind,hu,Result.andThen_ok,run_getMap e1,run_checkKey m2 hko,run_findKey m2 h1,hkey,stays_ok hko,run_setMap _ e1]
 ·rename_i hf
  cases hup
  obtain ⟨f',h1,h2⟩:=findM_ok e2 0 _ hf
  cases f' with
  | some q=>exact h2.elim
  | none =>
   refine ⟨b,_,_,w.putObj b' (.map (es'.push ⟨k',x',c⟩) (c + 1)),rfl,hlo,hg,rfl,?_,hr.putMap hh hp e1 hlo (by rw [Array.toList_push,appQ_eq]; exact e2.append (.cons hx .nil))⟩
   unfold Instr.mapUpdate
   simp only [Sem.run_bind,hu,Result.andThen_ok,run_getMap e1,run_checkKey m2 hko,run_findKey m2 h1,run_setMap _ e1]
 ·cases hup

theorem aMapEnt_ok (hT : TvOk P tv) {E : Env} {lo : Nat} {B : Base E lo} {w0 w : World} {h : Hp} (hr : HR B w0 p h w) {H : Tr AO} {t : Nat} {m m' k k' v : Value} {d : Dl} (hS : ∀ b,m = .map (some b) → ∀ y,H.get b = some y → h b = some y) (hm : VR p m m') (hk : VR p k k') (hl : aMapEnt tv lo t m k H = some (v,d)) :
  ∃ b o c w' v',m = .map (some b) ∧ lo ≤ b ∧ H.get b = some c ∧ d = [(b,some o)] ∧ (Instr.mapEntry t m' k').run P w = .ok v' w' ∧ VR p v v' ∧ HR B w0 p (upd h d) w':=by
 unfold aMapEnt at hl
 split at hl
 case h_2=>cases hl
 rename_i u z b es c hmt htm
 cases hko : keyOk u k with
 | false=>rw [hko] at hl; cases hl
 | true =>
 rw [hko] at hl
 dsimp only at hl
 obtain ⟨kt,et,m1,m2,m3,m4⟩:=mapT_ok hT hmt
 obtain rfl:=keyOk_eq hko hk
 obtain ⟨rfl,hlo,hg,b',kk,es',rfl,hp,e1,e2⟩:=toM_ok hr hS hm htm
 have hh:=hS b rfl _ hg
 have hu : (underlying t).run P w = .ok (.map kt et) w:=by simp [underlying,m1]
 split at hl
 ·rename_i i v0 hf
  split at hl
  ·rename_i e0 hge
   cases hl
   rw [getQ_eq] at hge
   obtain ⟨f',h1,h2⟩:=findM_ok e2 0 _ hf
   cases f' with
   | none=>exact h2.elim
   | some q =>
    obtain ⟨j,v'⟩:=q
    obtain ⟨rfl,hvr,_,_,e,a5,a6,a8⟩:=h2
    obtain ⟨v2,a7,_⟩:=e2.at_ hge
    have he : e = e0:=by
     have : es[j]? = some e:=a5
     rw [this] at hge; cases hge; rfl
    subst he
    have hent : es'[j]? = some ⟨e.1,v2,e.2.2⟩:=by simpa using a7
    have hkey : ((es'[j]?).map (·.key)).getD k' = k':=by rw [hent]; exact a6
    have hborn : ((Option.map (fun x=>(x.born : Int)) es'[j]?).getD 0) = (e.2.2 : Int):=by rw [hent]; rfl
    have hborn2 : ((es'[j]?).map (·.born)).getD 0 = e.2.2:=by rw [hent]; rfl
    refine ⟨b,_,_,w.putObj b' (.map (es'.modify j fun e=>{ e with key:=k' }) c), .tuple #[v',goInt e.2.2],rfl,hlo,hg,rfl,?_,VR.pair hvr (.int _ _),hr.putMap hh hp e1 hlo (by rw [Array.toList_modify]; exact setM_key e2 hge a8)⟩
    unfold Instr.mapEntry
    simp only [Sem.run_bind,hu,Result.andThen_ok,run_getMap e1,run_checkKey m2 hko,run_findKey m2 h1,hkey,stays_ok hko,run_setMap _ e1,hborn2,Sem.run_pure]
    try rw [hborn]
  ·cases hl
 ·rename_i hf
  cases hl
  obtain ⟨f',h1,h2⟩:=findM_ok e2 0 _ hf
  cases f' with
  | some q=>exact h2.elim
  | none =>
   refine ⟨b,_,_,w.putObj b' (.map (es'.push ⟨k',z,c⟩) (c + 1)), .tuple #[z,goInt c],rfl,hlo,hg,rfl,?_,VR.pair (m4 p) (.int _ _),hr.putMap hh hp e1 hlo (by rw [Array.toList_push,appQ_eq]; exact e2.append (.cons (m4 p) .nil))⟩
   unfold Instr.mapEntry
   simp only [Sem.run_bind,hu,Result.andThen_ok,run_getMap e1,run_checkKey m2 hko,run_findKey m2 h1,m3,run_setMap _ e1,Sem.run_pure]
 ·cases hl

theorem aEntSt_ok {E : Env} {lo : Nat} {B : Base E lo} {w0 w : World} {h : Hp} (hr : HR B w0 p h w) {H : Tr AO} {t : Nat} {m m' st st' x x' : Value} {d : Dl} (hS : ∀ b,m = .map (some b) → ∀ y,H.get b = some y → h b = some y) (hm : VR p m m') (hst : VR p st st') (hx : VR p x x') (hl : aEntSt lo m st x H = some d) :
  ∃ b o c w',m = .map (some b) ∧ lo ≤ b ∧ H.get b = some c ∧ d = [(b,some o)] ∧ (Instr.entryStore t m' st' x').run P w = .ok () w' ∧ HR B w0 p (upd h d) w':=by
 unfold aEntSt at hl
 split at hl
 case h_2=>cases hl
 rename_i b es c n htm
 split at hl
 case h_2=>cases hl
 rename_i es2 hput
 cases hl
 obtain ⟨rfl,hlo,hg,b',kk,es',rfl,hp,e1,e2⟩:=toM_ok hr hS hm htm
 have hh:=hS b rfl _ hg
 obtain rfl:=hst.int_inv
 obtain ⟨i,h1,h2⟩:=putB_ok hx e2 _ hput
 have h1' : es'.findIdx? (fun e=>(e.born : Int) == n) = some i:=by
  rw [← List.findIdx?_toArray] at h1
  simpa using h1
 refine ⟨b,_,_,w.putObj b' (.map (es'.modify i fun e=>{ e with val:=x' }) c),rfl,hlo,hg,rfl,?_,hr.putMap hh hp e1 hlo (by rw [Array.toList_modify]; exact h2)⟩
 unfold Instr.entryStore
 simp only [Sem.run_bind,run_getMap e1,Result.andThen_ok,asInt,asIntOf,Sem.run_pure,h1',run_setMap _ e1]

theorem aMapDel_ok (hT : TvOk P tv) {E : Env} {lo : Nat} {B : Base E lo} {w0 w : World} {h : Hp} (hr : HR B w0 p h w) {H : Tr AO} {t : Nat} {m m' k k' : Value} {d : Dl} (hS : ∀ b,m = .map (some b) → ∀ y,H.get b = some y → h b = some y) (hm : VR p m m') (hk : VR p k k') (hl : aMapDel tv lo t m k H = some d) (ts : Array Nat) (ht : ts[0]? = some t) (as : Array Value) (ha : as[0]? = some m') (ha2 : as[1]? = some k') (ty : Nat) :
  ∃ b o c w',m = .map (some b) ∧ lo ≤ b ∧ H.get b = some c ∧ d = [(b,some o)] ∧ (Builtin.delete_ ts ty as).run P w = .ok (.tuple #[]) w' ∧ HR B w0 p (upd h d) w':=by
 unfold aMapDel at hl
 split at hl
 case h_2=>cases hl
 rename_i u z b es c hmt htm
 cases hko : keyOk u k with
 | false=>rw [hko] at hl; cases hl
 | true =>
 rw [hko] at hl
 dsimp only at hl
 obtain ⟨kt,et,m1,m2,m3,m4⟩:=mapT_ok hT hmt
 obtain rfl:=keyOk_eq hko hk
 obtain ⟨rfl,hlo,hg,b',kk,es',rfl,hp,e1,e2⟩:=toM_ok hr hS hm htm
 have hh:=hS b rfl _ hg
 have hu : (underlying t).run P w = .ok (.map kt et) w:=by simp [underlying,m1]
 split at hl
 ·rename_i i v0 hf
  cases hl
  obtain ⟨f',h1,h2⟩:=findM_ok e2 0 _ hf
  cases f' with
  | none=>exact h2.elim
  | some q =>
   obtain ⟨j,v'⟩:=q
   obtain ⟨rfl,_⟩:=h2
   refine ⟨b,_,_,w.putObj b' (.map (es'.eraseIdxIfInBounds j) c),rfl,hlo,hg,rfl,?_,hr.putMap hh hp e1 hlo (by rw [Array.toList_eraseIdxIfInBounds]; exact delM_ok e2 _)⟩
   simp only [Builtin.delete_,ht,ha,ha2,Sem.run_bind,hu,Result.andThen_ok,run_getMap e1,run_checkKey m2 hko,run_findKey m2 h1,run_setMap _ e1,Sem.run_pure]
 ·rename_i hf
  cases hl
  obtain ⟨f',h1,h2⟩:=findM_ok e2 0 _ hf
  cases f' with
  | some q=>exact h2.elim
  | none =>
   refine ⟨b,_,_,w.putObj b' (.map es' c),rfl,hlo,hg,rfl,?_,hr.putMap hh hp e1 hlo e2⟩
   simp only [Builtin.delete_,ht,ha,ha2,Sem.run_bind,hu,Result.andThen_ok,run_getMap e1,run_checkKey m2 hko,run_findKey m2 h1,run_setMap _ e1,Sem.run_pure]
 ·cases hl

theorem toM_spec {lo : Nat} {m : Value} {H : Tr AO} {b c : Nat} {es : List ME} (ht : toM lo m H = some (b,es,c)) : m = .map (some b) ∧ lo ≤ b ∧ H.get b = some (.map es c):=by
 unfold toM at ht
 split at ht
 case h_2=>cases ht
 rename_i b0
 split at ht
 case h_2=>cases ht
 rename_i es0 c0 hg
 cases hb : Nat.ble lo b0 with
 | false=>rw [hb] at ht; cases ht
 | true=>rw [hb] at ht; cases ht; exact ⟨rfl,Nat.le_of_ble_eq_true hb,hg⟩
def OneMap (lo : Nat) (m : Value) (H : Tr AO) (d : Dl) : Prop:=∃ b o,m = .map (some b) ∧ lo ≤ b ∧ (H.get b).isSome = true ∧ d = [(b,some o)]
theorem aMapUpd_one {lo t : Nat} {m k x : Value} {H : Tr AO} {d : Dl} (hl : aMapUpd tv lo t m k x H = some d) : OneMap lo m H d:=by
 unfold aMapUpd at hl
 split at hl
 case h_2=>cases hl
 rename_i u z b es c hmt htm
 cases hko : keyOk u k with
 | false=>rw [hko] at hl; cases hl
 | true =>
 rw [hko] at hl
 dsimp only at hl
 obtain ⟨e1,e2,e3⟩:=toM_spec htm
 split at hl
 ·cases hl; exact ⟨b,_,e1,e2,by simp [e3],rfl⟩
 ·cases hl
theorem aMapEnt_one {lo t : Nat} {m k v : Value} {H : Tr AO} {d : Dl} (hl : aMapEnt tv lo t m k H = some (v,d)) : OneMap lo m H d:=by
 unfold aMapEnt at hl
 split at hl
 case h_2=>cases hl
 rename_i u z b es c hmt htm
 cases hko : keyOk u k with
 | false=>rw [hko] at hl; cases hl
 | true =>
 rw [hko] at hl
 dsimp only at hl
 obtain ⟨e1,e2,e3⟩:=toM_spec htm
 split at hl
 ·split at hl
  ·cases hl; exact ⟨b,_,e1,e2,by simp [e3],rfl⟩
  ·cases hl
 ·cases hl; exact ⟨b,_,e1,e2,by simp [e3],rfl⟩
 ·cases hl
theorem aEntSt_one {lo : Nat} {m st x : Value} {H : Tr AO} {d : Dl} (hl : aEntSt lo m st x H = some d) : OneMap lo m H d:=by
 unfold aEntSt at hl
 split at hl
 case h_2=>cases hl
 rename_i b es c n htm
 obtain ⟨e1,e2,e3⟩:=toM_spec htm
 split at hl
 ·cases hl; exact ⟨b,_,e1,e2,by simp [e3],rfl⟩
 ·cases hl
theorem aMapDel_one {lo t : Nat} {m k : Value} {H : Tr AO} {d : Dl} (hl : aMapDel tv lo t m k H = some d) : OneMap lo m H d:=by
 unfold aMapDel at hl
 split at hl
 case h_2=>cases hl
 rename_i u z b es c hmt htm
 cases hko : keyOk u k with
 | false=>rw [hko] at hl; cases hl
 | true =>
 rw [hko] at hl
 dsimp only at hl
 obtain ⟨e1,e2,e3⟩:=toM_spec htm
 split at hl
 ·cases hl; exact ⟨b,_,e1,e2,by simp [e3],rfl⟩
 ·cases hl; exact ⟨b,_,e1,e2,by simp [e3],rfl⟩
 ·cases hl
theorem OneMap.dl {lo n : Nat} {m : Value} {H : Tr AO} {d : Dl} (h : OneMap lo m H d) : DlOk lo H d n n:=by
 obtain ⟨b,o,_,h1,h2,rfl⟩:=h
 exact ⟨Nat.le_refl _,fun e he=>by simp at he; subst he; exact ⟨h1, .inl h2⟩,fun i h1 h2=>by omega⟩

noncomputable def hintOk (x : Option Value) : Bool:=match x with
 | none=>true
 | some (.int .i64 _)=>true
 | _=>false
noncomputable def aMkMap (tv : Nat → Option TV) (t : Nat) (x : Option Value) (n : Nat) : Option (Value × AO):=match mapT tv t with
 | some _=>Bool.rec none (some (.map (some n), .map [] 0)) (hintOk x)
 | none=>none
theorem aMkMap_ok (hT : TvOk P tv) {t n : Nat} {x x' : Option Value} {v : Value} {ob : AO} (hn : p n = none) (hx : ∀ u,x = some u → ∃ u',x' = some u' ∧ VR p u u') (hx0 : x = none → x' = none) (hl : aMkMap tv t x n = some (v,ob)) :
  ∃ v',(Instr.makeMap t x').run P w = .ok v' (w.alloc (.map #[] 0)) ∧ VR (newp p n w.heap.size 0) v v' ∧ OR (newp p n w.heap.size 0) 0 ob (.map #[] 0):=by
 unfold aMkMap at hl
 split at hl
 case h_2=>cases hl
 rename_i uz hm
 obtain ⟨u,z⟩:=uz
 obtain ⟨kt,et,m1,_⟩:=mapT_ok hT hm
 have hu : (underlying t).run P w = .ok (.map kt et) w:=by simp [underlying,m1]
 cases hh : hintOk x with
 | false=>rw [hh] at hl; cases hl
 | true =>
 rw [hh] at hl
 cases hl
 refine ⟨.map (some w.heap.size),?_, .map (by simp [newp]; rfl),rfl, .nil⟩
 cases x with
 | none =>
  rw [hx0 rfl]
  simp only [Instr.makeMap,Sem.run_bind,Sem.run_pure,Result.andThen_ok,run_newObj_alloc]
 | some y =>
  obtain ⟨y',e1,e2⟩:=hx y rfl
  rw [e1]
  unfold hintOk at hh
  cases y <;> try (cases hh; done)
  rename_i k i
  cases k <;> try (cases hh; done)
  obtain rfl:=e2.int_inv
  simp only [Instr.makeMap,Sem.run_bind,hu,Sem.run_pure,Result.andThen_ok,asInt,asIntOf,run_newObj_alloc]
end
end Go.Proofs.Ytkjceegmmhnajaa

namespace Go.Proofs.Ytkjceegmmhnajaa
open Go.RowKit

def idOf : Value → List Nat
 | .pointer (some a)=>[a.block]
 | .slice (some a) _ _=>[a.block]
 | .map (some b)=>[b]
 | _=>[]
def idM : Value → List Nat
 | .map (some b)=>[b]
 | _=>[]

def view (o : Oper) (r : Operand → Value) : List Nat :=
 match o.op with
 | .load _ a=>idOf (r a)
 | .store _ a _=>idOf (r a)
 | .lookup _ x _ _=>idM (r x)
 | .mapUpdate _ m _ _=>idM (r m)
 | .insert _ m _ _=>idM (r m)
 | .mapEntry _ m _=>idM (r m)
 | .entryStore _ m _ _=>idM (r m)
 | .call { callee:=.builtin .append,args, .. }=>args.toList.flatMap fun x=>idOf (r x)
 | .call { callee:=.builtin .len,args, .. }=>args.toList.flatMap fun x=>idM (r x)
 | .call { callee:=.builtin .delete,args, .. }=>args.toList.flatMap fun x=>idM (r x)
 | _=>[]

noncomputable def made (n : Nat) (x : Option (Value × AO)) : Option (Value × Dl × Nat):=match x with
 | some (v,ob)=>some (v,[(n,some ob)],Nat.succ n)
 | none=>none
noncomputable def kept (n : Nat) (x : Option Value) : Option (Value × Dl × Nat):=match x with
 | some v=>some (v,[],n)
 | none=>none
noncomputable def stored (n : Nat) (x : Option Dl) : Option (Value × Dl × Nat):=match x with
 | some d=>some (undef,d,n)
 | none=>none
noncomputable def entered (n : Nat) (x : Option (Value × Dl)) : Option (Value × Dl × Nat):=match x with
 | some (v,d)=>some (v,d,n)
 | none=>none
noncomputable def aLenA (P : Program) (tv : Nat → Option TV) (o : Oper) (r : Operand → Value) (H : Tr AO) (args : List Operand) (types : List Nat) : Option Value:=match args,types with
 | [x],[t]=>match r x with
  | .map m=>match mapT tv t with
   | some _=>aLenM (.map m) H
   | none=>none
  | _=>aSil P tv o r
 | _,_=>aSil P tv o r
noncomputable def aDelA (tv : Nat → Option TV) (lo : Nat) (r : Operand → Value) (H : Tr AO) (args : List Operand) (types : List Nat) : Option Dl:=match args,types with
 | [m,k],[t,_]=>aMapDel tv lo t (r m) (r k) H
 | _,_=>none
noncomputable def optQ (r : Operand → Value) (x : Option Operand) : Option Value:=match x with
 | some y=>some (r y)
 | none=>none
noncomputable def aMemB (P : Program) (tv : Nat → Option TV) (lo : Nat) (o : Oper) (r : Operand → Value) (H : Tr AO) (n : Nat) (c : Call) : Option (Value × Dl × Nat):=match c with
 | { callee:=.builtin .append,args,argTypes }=>aAppend tv lo args argTypes r H n
 | { callee:=.builtin .len,args,argTypes }=>kept n (aLenA P tv o r H args.toList argTypes.toList)
 | { callee:=.builtin .delete,args,argTypes }=>stored n (aDelA tv lo r H args.toList argTypes.toList)
 | _=>kept n (aSil P tv o r)

noncomputable def aMem (P : Program) (tv : Nat → Option TV) (lo : Nat) (o : Oper) (r : Operand → Value) (H : Tr AO) (n : Nat) : Option (Value × Dl × Nat) :=
 match o.op with
 | .load t a=>kept n (aLoad tv t (r a) H)
 | .alloc e=>made n (aMake tv (.alloc e) r n)
 | .box e x=>made n (aMake tv (.box e x) r n)
 | .buildSlice t len parts=>made n (aMake tv (.buildSlice t len parts) r n)
 | .makeSlice t l c=>made n (aMake tv (.makeSlice t l c) r n)
 | .store t a x=>stored n (aStore tv lo t (r a) (r x) H)
 | .lookup t x k ok=>kept n (aLookup tv t (r x) (r k) ok H)
 | .mapUpdate t m k x=>stored n (aMapUpd tv lo t (r m) (r k) (r x) H)
 | .insert t m k x=>stored n (aMapUpd tv lo t (r m) (r k) (r x) H)
 | .mapEntry t m k=>entered n (aMapEnt tv lo t (r m) (r k) H)
 | .entryStore _ m st x=>stored n (aEntSt lo (r m) (r st) (r x) H)
 | .makeMap t x=>made n (aMkMap tv t (optQ r x) n)
 | .call c=>aMemB P tv lo o r H n c
 | _=>kept n (aSil P tv o r)

def Gives (P : Program) (s : Sem Next) (w : World) (v : Value) (w' : World) : Prop:=s.run P w = .ok (.value v) w' ∨ (s.run P w = .ok .skip w' ∧ v = undef)

section
variable {P : Program} {tv : Nat → Option TV} {p : Nat → Option (Nat × Nat)} {r r' : Operand → Value}

theorem aMem_dl {lo n n' : Nat} {o : Oper} {H : Tr AO} {v : Value} {d : Dl} (hlo : lo ≤ n) (ha : aMem P tv lo o r H n = some (v,d,n')) : DlOk lo H d n n':=by
 have dl1 : ∀ x : AO,DlOk lo H [(n,some x)] n (n + 1):=fun x=>⟨by omega,fun e he=>by simp at he; subst he; exact ⟨hlo, .inr ⟨by simp,by simp⟩⟩,fun i h1 h2=>⟨_,List.mem_singleton.2 rfl,by simp; omega⟩⟩
 have hk : ∀ x,kept n x = some (v,d,n') → DlOk lo H d n n':=fun x hx=>by
  unfold kept at hx; split at hx <;> cases hx; exact .nil _ _ _
 have hm : ∀ x,made n x = some (v,d,n') → DlOk lo H d n n':=fun x hx=>by
  unfold made at hx; split at hx <;> cases hx; exact dl1 _
 have hstM : ∀ {m : Value} {x : Option Dl},(∀ d',x = some d' → OneMap lo m H d') → stored n x = some (v,d,n') → DlOk lo H d n n':=fun {m x} hx h=>by
  unfold stored at h
  split at h
  ·cases h; exact (hx _ rfl).dl
  ·cases h
 unfold aMem at ha
 split at ha
 ·exact hk _ ha
 ·exact hm _ ha
 ·exact hm _ ha
 ·exact hm _ ha
 ·exact hm _ ha
 ·unfold stored at ha
  split at ha
  ·rename_i t a x _ d' hst
   cases ha
   replace hst:=aStore_eq hst
   unfold aStore0 at hst
   split at hst
   ·split at hst
    ·rename_i hc _
     split at hst
     ·rename_i hcond
      cases hst
      exact ⟨Nat.le_refl _,fun e he=>by simp at he; subst he; exact ⟨hcond.1, .inl (by simp [hc])⟩,fun i h1 h2=>by omega⟩
     ·cases hst
    ·cases hst
   ·cases hst
  ·cases ha
 ·exact hk _ ha
 ·exact hstM (fun _ h=>aMapUpd_one h) ha
 ·exact hstM (fun _ h=>aMapUpd_one h) ha
 ·unfold entered at ha
  split at ha
  ·rename_i h; cases ha; exact (aMapEnt_one h).dl
  ·cases ha
 ·exact hstM (fun _ h=>aEntSt_one h) ha
 ·exact hm _ ha
 ·unfold aMemB at ha
  split at ha
  ·exact aAppend_dl hlo ha
  ·exact hk _ ha
  ·unfold stored at ha
   split at ha
   ·rename_i hd
    cases ha
    unfold aDelA at hd
    split at hd
    ·exact (aMapDel_one hd).dl
    ·cases hd
   ·cases ha
  ·exact hk _ ha
 ·exact hk _ ha

theorem aMem_ok (hT : TvOk P tv) {E : Env} {lo : Nat} {B : Base E lo} {w0 w : World} {h : Hp} (hr : HR B w0 p h w) {n n' : Nat} {o : Oper} {H : Tr AO} {v : Value} {d : Dl}
  (hn : ∀ i,n ≤ i → i < n' → p i = none) (hlo : lo ≤ n) (hS : ∀ b ∈ view o r,∀ y,H.get b = some y → h b = some y) (hv : ∀ x ∈ o.op.operands,VR p (r x) (r' x))
  (ha : aMem P tv lo o r H n = some (v,d,n')) :
  DlOk lo H d n n' ∧ ∃ v' w' q,Gives P (execOp r' o) w v' w' ∧ VR q v v' ∧ Ext p q n n' ∧ HR B w0 q (upd h d) w':=by
 have dl1 : ∀ x : AO,DlOk lo H [(n,some x)] n (n + 1):=fun x=>⟨by omega,fun e he=>by simp at he; subst he; exact ⟨hlo, .inr ⟨by simp,by simp⟩⟩,fun i h1 h2=>⟨_,List.mem_singleton.2 rfl,by simp; omega⟩⟩
 have make : ∀ ob,aMake tv o.op r n = some (v,ob) → d = [(n,some ob)] → n' = n + 1 →
   DlOk lo H d n n' ∧ ∃ v' w' q,Gives P (execOp r' o) w v' w' ∧ VR q v v' ∧ Ext p q n n' ∧ HR B w0 q (upd h d) w':=fun ob hm hd hn'=>by
  subst hd hn'
  have hn0:=hn n (Nat.le_refl _) (by omega)
  obtain ⟨v',o',h1,h2,h3⟩:=aMake_ok hT (w:=w) hn0 hv hm
  exact ⟨dl1 _,v',_,_, .inl h1,h2,ext_new hn0 _ _,hr.new hn0 h3⟩
 have sil : aSil P tv o r = some v → d = [] → n' = n →
   DlOk lo H d n n' ∧ ∃ v' w' q,Gives P (execOp r' o) w v' w' ∧ VR q v v' ∧ Ext p q n n' ∧ HR B w0 q (upd h d) w':=fun hs hd hn'=>by
  subst hd hn'
  obtain ⟨v',h1,h2⟩:=aSil_ok hT hv hs
  exact ⟨.nil _ _ _,v',w,p, .inl (h1 w),h2,Ext.refl _ _,hr⟩
 have silx : ∀ x : Option Value,x = aSil P tv o r → kept n x = some (v,d,n') →
   DlOk lo H d n n' ∧ ∃ v' w' q,Gives P (execOp r' o) w v' w' ∧ VR q v v' ∧ Ext p q n n' ∧ HR B w0 q (upd h d) w':=fun x hx hm=>by
  cases x with
  | none=>cases hm
  | some u=>cases hm; exact sil hx.symm rfl rfl
 obtain ⟨dst,op,type,pos,after,guard⟩:=o
 unfold aMem at ha
 cases op <;> (try (exact silx _ rfl ha)) <;> simp only at ha
 case load t a =>
  unfold kept at ha
  split at ha
  ·rename_i u hl
   cases ha
   obtain ⟨v',h1,h2⟩:=aLoad_ok hT hr (fun b o e=>hS b (by simp [view,e,idOf])) (hv a (by simp [Op.operands])) hl
   refine ⟨.nil _ _ _,v',w,p, .inl ?_,h2,Ext.refl _ _,hr⟩
   simp only [execOp,Sem.run_bind,h1,Result.andThen_ok,Sem.run_pure]
  ·cases ha
 case store t a x =>
  unfold stored at ha
  split at ha
  ·rename_i d' hl
   cases ha
   obtain ⟨b,o,c,w',e1,e2,e3,o',e4,e5,e6⟩:=aStore_ok hT hr (fun b o e=>hS b (by simp [view,e,idOf])) (hv a (by simp [Op.operands])) (hv x (by simp [Op.operands])) hl
   refine ⟨?_,undef,w',p, .inr ⟨?_,rfl⟩, .und p,Ext.refl _ _,e6⟩
   ·subst e4
    exact ⟨Nat.le_refl _,fun e he=>by simp at he; subst he; exact ⟨e2, .inl (by simp [e3])⟩,fun i h1 h2=>by omega⟩
   ·simp only [execOp,Sem.run_bind,e5,Result.andThen_ok,Sem.run_pure]
  ·cases ha
 case lookup t x k ok =>
  unfold kept at ha
  split at ha
  ·rename_i u hl
   cases ha
   obtain ⟨v',h1,h2⟩:=aLookup_ok hT hr (fun b e=>hS b (by simp [view,e,idM])) (hv x (by simp [Op.operands])) (hv k (by simp [Op.operands])) hl
   refine ⟨.nil _ _ _,v',w,p, .inl ?_,h2,Ext.refl _ _,hr⟩
   simp only [execOp,Sem.run_bind,h1,Result.andThen_ok,Sem.run_pure]
  ·cases ha
 case mapUpdate t m k x =>
  unfold stored at ha
  split at ha
  ·rename_i d' hl
   cases ha
   obtain ⟨b,o,c,w',e1,e2,e3,e4,e5,e6⟩:=aMapUpd_ok hT hr (fun b e=>hS b (by simp [view,e,idM])) (hv m (by simp [Op.operands])) (hv k (by simp [Op.operands])) (hv x (by simp [Op.operands])) hl
   refine ⟨(aMapUpd_one hl).dl,undef,w',p, .inr ⟨?_,rfl⟩, .und p,Ext.refl _ _,e6⟩
   simp only [execOp,Sem.run_bind,e5,Result.andThen_ok,Sem.run_pure]
  ·cases ha
 case insert t m k x =>
  unfold stored at ha
  split at ha
  ·rename_i d' hl
   cases ha
   obtain ⟨b,o,c,w',e1,e2,e3,e4,e5,e6⟩:=aMapUpd_ok hT hr (fun b e=>hS b (by simp [view,e,idM])) (hv m (by simp [Op.operands])) (hv k (by simp [Op.operands])) (hv x (by simp [Op.operands])) hl
   refine ⟨(aMapUpd_one hl).dl,undef,w',p, .inr ⟨?_,rfl⟩, .und p,Ext.refl _ _,e6⟩
   simp only [execOp,Sem.run_bind,e5,Result.andThen_ok,Sem.run_pure]
  ·cases ha
 case mapEntry t m k =>
  unfold entered at ha
  split at ha
  ·rename_i u d' hl
   cases ha
   obtain ⟨b,o,c,w',v',e1,e2,e3,e4,e5,e7,e6⟩:=aMapEnt_ok hT hr (fun b e=>hS b (by simp [view,e,idM])) (hv m (by simp [Op.operands])) (hv k (by simp [Op.operands])) hl
   refine ⟨(aMapEnt_one hl).dl,v',w',p, .inl ?_,e7,Ext.refl _ _,e6⟩
   simp only [execOp,Sem.run_bind,e5,Result.andThen_ok,Sem.run_pure]
  ·cases ha
 case entryStore t m st x =>
  unfold stored at ha
  split at ha
  ·rename_i d' hl
   cases ha
   obtain ⟨b,o,c,w',e1,e2,e3,e4,e5,e6⟩:=aEntSt_ok (t:=t) hr (fun b e=>hS b (by simp [view,e,idM])) (hv m (by simp [Op.operands])) (hv st (by simp [Op.operands])) (hv x (by simp [Op.operands])) hl
   refine ⟨(aEntSt_one hl).dl,undef,w',p, .inr ⟨?_,rfl⟩, .und p,Ext.refl _ _,e6⟩
   simp only [execOp,Sem.run_bind]
   erw [e5]
   rfl
  ·cases ha
 case makeMap t x =>
  unfold made at ha
  split at ha
  ·rename_i u ob hl
   cases ha
   have hn0:=hn n (Nat.le_refl _) (by omega)
   obtain ⟨v',h1,h2,h3⟩:=aMkMap_ok (w:=w) (x':=x.map r') hT hn0 (fun u e=>by
    cases x with
    | none=>cases e
    | some y=>cases e; exact ⟨_,rfl,hv y (by simp [Op.operands])⟩) (fun e=>by
    cases x with
    | none=>rfl
    | some y=>cases e) hl
   refine ⟨dl1 _,v',_,_, .inl ?_,h2,ext_new hn0 _ _,hr.new hn0 h3⟩
   simp only [execOp,Sem.run_bind,h1,Result.andThen_ok,Sem.run_pure]
  ·cases ha
 case alloc=>unfold made at ha; split at ha <;> cases ha; exact make _ (by assumption) rfl rfl
 case box=>unfold made at ha; split at ha <;> cases ha; exact make _ (by assumption) rfl rfl
 case buildSlice=>unfold made at ha; split at ha <;> cases ha; exact make _ (by assumption) rfl rfl
 case makeSlice=>unfold made at ha; split at ha <;> cases ha; exact make _ (by assumption) rfl rfl
 case call c =>
  obtain ⟨callee,args,argTypes⟩:=c
  cases callee with
  | builtin b =>
   cases b <;> (try (exact silx _ rfl ha))
   case len =>
    have ha' : kept n (aLenA P tv { dst:=dst,op:=.call { callee:=.builtin .len,args:=args,argTypes:=argTypes },type:=type,pos:=pos,after:=after,guard:=guard } r H args.toList argTypes.toList) = some (v,d,n'):=ha
    unfold kept at ha'
    split at ha'
    case h_2=>cases ha'
    rename_i hl
    cases ha'
    unfold aLenA at hl
    split at hl
    ·rename_i x t hargs htys
     split at hl
     ·rename_i m hrx
      split at hl
      ·rename_i uz hm
       obtain ⟨uu,z⟩:=uz
       obtain ⟨kt,et,m1,_⟩:=mapT_ok hT hm
       obtain ⟨argsL⟩:=args
       obtain ⟨tysL⟩:=argTypes
       dsimp only at hargs htys
       subst hargs
       subst htys
       have hvx:=hv x (by simp [Op.operands,Call.operands])
       rw [hrx] at hvx
       have hnat : ∃ k : Nat,v = .int .i64 k:=by
        unfold aLenM at hl
        split at hl
        ·cases hl; exact ⟨_,rfl⟩
        ·cases hl
       obtain ⟨k,rfl⟩:=hnat
       have h1:=aLenM_ok (P:=P) hr m1 (fun b e=>hS b (by simp [view,hrx,e,idM])) hvx hl #[t] rfl #[r' x] rfl type
       refine ⟨.nil _ _ _,_,w,p, .inl ?_, .int _ _,Ext.refl _ _,hr⟩
       simp only [execOp,resolve,invoke,builtin,Sem.run_bind,Sem.run_pure,Result.andThen_ok,List.map_toArray,List.map_cons,List.map_nil,h1]
      ·cases hl
     ·exact sil hl rfl rfl
    ·exact sil hl rfl rfl
   case delete =>
    have ha' : stored n (aDelA tv lo r H args.toList argTypes.toList) = some (v,d,n'):=ha
    unfold stored at ha'
    split at ha'
    case h_2=>cases ha'
    rename_i d' hl
    cases ha'
    unfold aDelA at hl
    split at hl
    case h_2=>cases hl
    rename_i m k t t2 hargs htys
    obtain ⟨argsL⟩:=args
    obtain ⟨tysL⟩:=argTypes
    dsimp only at hargs htys
    subst hargs
    subst htys
    obtain ⟨b,o,c,w',e1,e2,e3,e4,e5,e6⟩:=aMapDel_ok hT hr (fun b e=>hS b (by simp [view,e,idM])) (hv m (by simp [Op.operands,Call.operands])) (hv k (by simp [Op.operands,Call.operands])) hl #[t,t2] rfl #[r' m,r' k] rfl rfl type
    refine ⟨(aMapDel_one hl).dl,_,w',p, .inl ?_, .und p,Ext.refl _ _,e6⟩
    simp only [execOp,resolve,invoke,builtin,Sem.run_bind,Sem.run_pure,Result.andThen_ok,List.map_toArray,List.map_cons,List.map_nil,e5]
    rfl
   case append =>
    simp only [aMemB] at ha
    obtain ⟨h1,v',w',q,h2,h3⟩:=aAppend_ok hT (type:=type) hr hn hlo (fun x hx b o l c e=>hS b (by
     simp only [view,List.mem_flatMap]
     exact ⟨x,by simpa using hx,by simp [e,idOf]⟩)) (fun x hx=>hv x (by simp [Op.operands,Call.operands]; exact hx)) ha
    refine ⟨h1,v',w',q, .inl ?_,h3⟩
    simp only [execOp,resolve,invoke,builtin,Sem.run_bind,Sem.run_pure,Result.andThen_ok,h2]
  | value f=>exact silx _ rfl ha
  | invoke a b=>exact silx _ rfl ha
end
end Go.Proofs.Ytkjceegmmhnajaa
