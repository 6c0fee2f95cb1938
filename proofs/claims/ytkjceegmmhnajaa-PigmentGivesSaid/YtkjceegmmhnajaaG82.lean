/- A range over an iterator whose elements lie in memory: what is known of an element in the world in which it is handed over ('Pre') goes into the round. -/
import Derived.RangeFuncWrites

set_option linter.unusedVariables false
set_option linter.unusedSimpArgs false

namespace Go.Proofs.Ytkjceegmmhnajaa
open Go.RowKit

section
variable {F : Fence} {n : Nat} {P : Program} {α : Type}
def SeqP (F : Fence) (n : Nat) (P : Program) (g : Nat) (lb : Array Value) (encs : α → Array Value) (Pre : α → World → Prop) (Kp : World → World → Prop) (S Sp : List α → Prop) (N : Nat) (w : World) : Prop :=
 ∀ (l : Nat) (J Jx : List α → World → Prop) (W : World),l < W.heap.size → Below w.heap.size w W → OwnFrom W.heap.size J → OwnFrom W.heap.size Jx →
  (∀ pre x W1,J pre W1 → Pre x W1 → pre.length < N → YieldAt F (n - 1) P l (encs x) W1 fun e W'=>(e = .returned (.bool true) ∧ J (pre ++ [x]) W' ∧ Kp W1 W' ∧ KeepsFrom (l + 1) W1 W') ∨ (e = .returned (.bool false) ∧ Jx (pre ++ [x]) W' ∧ Kp W1 W' ∧ KeepsFrom (l + 1) W1 W')) →
  J [] W → CallsIn F n P g (#[.func (.yield l) #[] #[]] ++ lb) W fun e W'=>(∃ v,e = .returned v) ∧ ((∃ xs,S xs ∧ J xs W') ∨ (∃ pre,Sp pre ∧ Jx pre W'))
def roundPost (B : Nat) (Kp : World → World → Prop) (I : List α → World → Prop) (Ix : Code → List α → World → Prop) (xs : List α) (W : World) : Exit → Act → World → Prop
 | .normal,_,W'=>KeepsFrom B W W' ∧ Kp W W' ∧ I xs W'
 | .ret,_,W'=>KeepsFrom B W W' ∧ Kp W W' ∧ Ix .ret xs W'
 | .exit id,_,W'=>KeepsFrom B W W' ∧ Kp W W' ∧ Ix (.exit id) xs W'
 | .goto t,_,W'=>KeepsFrom B W W' ∧ Kp W W' ∧ Ix (.goto t) xs W'
 | _,_,_=>False
abbrev recAt (fn : FuncId) (a : Act) (ps : Array Tmp) (assign body : Code) (d : Nat) (st : LoopState) (pe : Option Code) : Loop:={ state:=st,pending:=pe,fn,tmps:=a.tmps,params:=ps,assign,body,defers:=d }
theorem rangeFunc_pre {g : Operand} {ps : Array Tmp} {assign body : Code} {Q : Exit → Act → World → Prop} {a : Act} {w w0 : World} (hro : F.round = none) (h1 : 1 ≤ n) {gf : Nat} {lb : Array Value} (hg : a.eval g = .func (.func gf) #[] lb) (hFg : F.fn gf)
  (eg : ∀ args w,(callFunc gf args).run P w = .ok (.enter gf args) w) {encs : α → Array Value} {Pre : α → World → Prop} {Kp : World → World → Prop} {S Sp : List α → Prop} {N : Nat} (hseq : SeqP F (n - 1) P gf lb encs Pre Kp S Sp N w0)
  (hKt : ∀ {A B C : World},Kp A B → Kp B C → Kp A C) (hKb : ∀ (W : World) (l : Nat) (o o' : Obj),w.heap.size ≤ l → W.heap[l]? = some o → o.isCells = false → o.isWalk = false → Kp W (W.putObj l o')) (hb0 : Below w0.heap.size w0 w) (hps : ∀ x,(encs x).size = ps.size)
  (I : List α → World → Prop) (Ix : Code → List α → World → Prop) (hI : OwnFrom w.heap.size I) (hIx : ∀ c,OwnFrom w.heap.size (Ix c)) (hPre : OwnFrom w.heap.size Pre) (h0 : I [] w) (a₁ : α → Act)
  (hassign : ∀ (l : Nat) (x : α) (W : World) (K : Act → World → Prop),K (a₁ x) W → assign.wpIn (F.inRound l) (n - 1 - 1) P (Exit.then K (fun _ _ _=>False)) { tmps:=(ps.zip (encs x)).foldl (fun t (p,v)=>t.setIfInBounds p v) a.tmps,defers:=[] } W)
  (hbody : ∀ (l : Nat) (pre : List α) (x : α) (W : World),I pre W → Pre x W → pre.length < N → body.wpIn (F.inRound l) (n - 1 - 1) P (roundPost w.heap.size Kp I Ix (pre ++ [x]) W) (a₁ x) W)
  (hdone : ∀ (D : Nat) (xs : List α) (W : World),w.heap.size ≤ D → S xs → I xs W → W.heap[D]? = some (.deferred (some [])) → Q .normal { a with defers:={ target:=.collected D,args:=#[] } :: a.defers } W)
  (hstop : ∀ (D : Nat) (c : Code) (pre : List α) (W : World),w.heap.size ≤ D → Sp pre → Ix c pre W → W.heap[D]? = some (.deferred (some [])) → c.wpIn F n P Q { a with defers:={ target:=.collected D,args:=#[] } :: a.defers } W) :
  (Code.rangeFunc g ps assign body).wpIn F n P Q a w:=by
 refine wpIn_rangeFunc fun fn hfn=>?_
 rw [hro]
 let R:=recAt fn a ps assign body w.heap.size
 let D:=w.heap.size
 let l:=w.heap.size + 1
 have hW : ∃ W1,(w.alloc (.deferred (some []))).alloc (.loop (R .ready none)) = W1:=⟨_,rfl⟩
 obtain ⟨W1,hW1⟩:=hW
 have z1 : W1.heap.size = w.heap.size + 2:=by rw [← hW1]; simp
 have q1 : W1.heap[l]? = some (.loop (R .ready none)):=by
  have:=World.alloc_heap_new (w.alloc (.deferred (some []))) (.loop (R .ready none))
  rw [World.size_alloc,hW1] at this
  exact this
 have q2 : W1.heap[D]? = some (.deferred (some [])):=by rw [← hW1]; exact (Below.heap_alloc _ _ _ (by simp [D])).trans (World.alloc_heap_new w _)
 have q3 : Below w0.heap.size w0 W1:=by rw [← hW1]; exact hb0.trans ((((Below.refl _ w).alloc (Nat.le_refl _) _).alloc (by simp) _).mono hb0.size)
 have q4 : I [] W1:=by rw [← hW1]; exact hI.alloc _ (hI.alloc _ h0)
 refine ⟨l,[{ target:=.collected D,args:=#[] }],W1,{ target:=.fn (.func gf) lb,args:=#[.func (.yield l) #[] #[]] },W1,gf,#[.func (.yield l) #[] #[]] ++ lb,W1,by rw [← hW1]; exact run_enterLoop_outer _ _ _ _ _,by simp only [resolve,hg]; simp [go_sem,l],fun f' hf'=>by simp [Target.leads] at hf'; subst hf'; exact hFg,by simp [invoke,go_sem,eg],fun _=>h1,?_⟩
 have turn : ∀ {A : World} {row : Option Nat},(∀ r,row = some r → W1.heap.size ≤ r ∧ ∃ o : Obj,A.heap[r]? = some o ∧ o.isCells = false) → ∀ r,row = some r → w.heap.size ≤ r ∧ ∃ o : Obj,A.heap[r]? = some o ∧ o.isCells = false:=fun hr r e=>⟨by have:=(hr r e).1; omega,(hr r e).2⟩
 have held : ∀ {A B : World} {row : Option Nat} {k : Nat} {o : Obj},A.grownBy B row → (∀ r,row = some r → W1.heap.size ≤ r ∧ ∃ o : Obj,A.heap[r]? = some o ∧ o.isCells = false) → k < W1.heap.size → A.heap[k]? = some o → B.heap[k]? = some o:=fun hg' hr hlt hk=>(hg'.block _ (Array.getElem?_eq_some_iff.1 hk).1 (fun e=>by have:=(hr _ e.symm).1; omega)).trans hk
 have hl1 : l < W1.heap.size:=by simp [l]; omega
 have hD1 : D < W1.heap.size:=by simp [D]; omega
 refine CallsIn.mono (hseq l (fun pre W=>I pre W ∧ W.heap[l]? = some (.loop (R .ready none)) ∧ W.heap[D]? = some (.deferred (some []))) (fun pre W=>∃ c,Ix c pre W ∧ W.heap[l]? = some (.loop (R .done (some c))) ∧ W.heap[D]? = some (.deferred (some []))) W1 hl1 q3
  (fun s A B row hs hg' hr=>⟨hI s A B row hs.1 hg' (turn hr),held hg' hr hl1 hs.2.1,held hg' hr hD1 hs.2.2⟩) (fun s A B row ⟨c,hc,hl,hk⟩ hg' hr=>⟨c,hIx c s A B row hc hg' (turn hr),held hg' hr hl1 hl,held hg' hr hD1 hk⟩) ?_ ⟨q4,q1,q2⟩) ?_
 ·rintro pre x W ⟨hi,hl,hk⟩ hpx hlen
  have hlt : l < W.heap.size:=(Array.getElem?_eq_some_iff.1 hl).1
  let Wb:=W.putObj l (.loop { R .ready none with state:=.busy })
  have b1 : Wb.heap[l]? = some (.loop { R .ready none with state:=.busy }):=World.putObj_heap_same hlt
  have b2 : Wb.heap[D]? = some (.deferred (some [])):=(World.putObj_heap_other (by simp [l,D])).trans hk
  refine ⟨fn,_,assign,body,run_yield (P:=P) (args:=encs x) hl (hps x),roundIn_of_wpIn hfn (hassign _ x W _ ⟨_,run_beginRound hl rfl,?_⟩)⟩
  have turned : ∀ (W3 : World) (o : Obj),KeepsFrom w.heap.size Wb W3 → KeepsFrom (l + 1) W (W3.putObj l o):=fun W3 o h=>⟨by have:=h.size; simp [Wb] at this ⊢; exact this,fun k x hk hx hc=>by
   rw [World.putObj_heap_other (by omega)]
   exact h.same k x (by simp [l] at hk; omega) ((World.putObj_heap_other (by omega)).trans hx) hc⟩
  have over : ∀ (jump : Option Code) (W3 : World),KeepsFrom w.heap.size Wb W3 → W3.heap[l]? = some (.loop { R .ready none with state:=.busy }) ∧ (Instr.endRound l jump).run P W3 = .ok (.bool jump.isNone) (W3.putObj l (.loop (R (if jump.isNone then .ready else .done) jump)))
    ∧ (W3.putObj l (.loop (R (if jump.isNone then .ready else .done) jump))).heap[l]? = some (.loop (R (if jump.isNone then .ready else .done) jump)) ∧ (W3.putObj l (.loop (R (if jump.isNone then .ready else .done) jump))).heap[D]? = some (.deferred (some [])):=fun jump W3 h=>by
   have c1:=h.same _ _ (by simp [l]) b1 rfl
   exact ⟨c1,run_endRound (P:=P) jump c1,World.putObj_heap_same (Array.getElem?_eq_some_iff.1 c1).1,(World.putObj_heap_other (by simp [l,D])).trans (h.same _ _ (by simp [D]) b2 rfl)⟩
  have left : ∀ (c : Code) (a3 : Act) (W3 : World),KeepsFrom w.heap.size Wb W3 → Kp Wb W3 → Ix c (pre ++ [x]) W3 → ∃ v W4,(Instr.endRound l (some c)).run P W3 = .ok v W4 ∧ ((Ending.returned v = .returned (.bool true) ∧ (I (pre ++ [x]) W4 ∧ W4.heap[l]? = some (.loop (R .ready none)) ∧ W4.heap[D]? = some (.deferred (some []))) ∧ Kp W W4 ∧ KeepsFrom (l + 1) W W4) ∨ (Ending.returned v = .returned (.bool false) ∧ (∃ c,Ix c (pre ++ [x]) W4 ∧ W4.heap[l]? = some (.loop (R .done (some c))) ∧ W4.heap[D]? = some (.deferred (some []))) ∧ Kp W W4 ∧ KeepsFrom (l + 1) W W4)):=fun c a3 W3 hk3 hkp3 hi3=>by
   obtain ⟨c1,c2,c3,c4⟩:=over (some c) W3 hk3
   exact ⟨_,_,c2, .inr ⟨rfl,⟨c,(hIx c).putObj _ hi3 (by simp [l]) c1 rfl,c3,c4⟩,hKt (hKt (hKb W l _ _ (by simp [l]) hl rfl rfl) hkp3) (hKb W3 l _ _ (by simp [l]) c1 rfl rfl),turned W3 _ hk3⟩⟩
  refine wpIn_mono (hbody _ pre x Wb (hI.putObj _ hi (by simp [l]) hl rfl) (hPre.putObj _ hpx (by simp [l]) hl rfl) hlen) ?_
  rintro e a3 W3 hp
  cases e with
  | normal =>
   obtain ⟨hk3,hkp3,hi3⟩:=hp
   obtain ⟨c1,c2,c3,c4⟩:=over none W3 hk3
   exact ⟨_,_,c2, .inl ⟨rfl,⟨hI.putObj _ hi3 (by simp [l]) c1 rfl,c3,c4⟩,hKt (hKt (hKb W l _ _ (by simp [l]) hl rfl rfl) hkp3) (hKb W3 l _ _ (by simp [l]) c1 rfl rfl),turned W3 _ hk3⟩⟩
  | ret=>exact left .ret a3 W3 hp.1 hp.2.1 hp.2.2
  | exit id=>exact left (.exit id) a3 W3 hp.1 hp.2.1 hp.2.2
  | goto t=>exact left (.goto t) a3 W3 hp.1 hp.2.1 hp.2.2
  | panic ch=>exact hp.elim
  | outgrown=>exact hp.elim
 ·rintro e W2 ⟨⟨v,rfl⟩,(⟨xs,hS,hi,hl,hk⟩ | ⟨pre,hSp,c,hi,hl,hk⟩)⟩
  ·exact ⟨none,_,run_endLoop (P:=P) hl (by simp [R,recAt]),hdone _ xs _ (Nat.le_refl _) hS (hI.putObj _ hi (by simp [l]) hl rfl) ((World.putObj_heap_other (by simp [l,D])).trans hk)⟩
  ·exact ⟨some c,_,run_endLoop (P:=P) hl (by simp [R,recAt]),hstop _ c pre _ (Nat.le_refl _) hSp ((hIx c).putObj _ hi (by simp [l]) hl rfl) ((World.putObj_heap_other (by simp [l,D])).trans hk)⟩
theorem rangeFunc_box {g : Operand} {ps : Array Tmp} {assign body : Code} {Q : Exit → Act → World → Prop} {a : Act} {w w0 : World} (hro : F.round = none) (h1 : 1 ≤ n) {gf : Nat} {lb : Array Value} (hg : a.eval g = .func (.func gf) #[] lb) (hFg : F.fn gf)
  (eg : ∀ args w,(callFunc gf args).run P w = .ok (.enter gf args) w) {encs : α → Array Value} {Pre : α → World → Prop} {Kp : World → World → Prop} {S Sp : List α → Prop} {N : Nat} (hseq : SeqP F (n - 1) P gf lb encs Pre Kp S Sp N w0)
  (hKt : ∀ {A B C : World},Kp A B → Kp B C → Kp A C) (hKb : ∀ (W : World) (l : Nat) (o o' : Obj),w.heap.size ≤ l → W.heap[l]? = some o → o.isCells = false → o.isWalk = false → Kp W (W.putObj l o')) (hb0 : Below w0.heap.size w0 w) (hps : ∀ x,(encs x).size = ps.size)
  (I : List α → World → Prop) (Ix : Code → List α → World → Prop) (hI : OwnFrom w.heap.size I) (hIx : ∀ c,OwnFrom w.heap.size (Ix c)) (hPre : OwnFrom w.heap.size Pre) (h0 : I [] w) (obj : α → Obj) (hKa : ∀ (W : World) (o : Obj),Kp W (W.alloc o)) (a₁ : α → Nat → Act)
  (hassign : ∀ (l : Nat) (x : α) (W : World) (K : Act → World → Prop),K (a₁ x W.heap.size) (W.alloc (obj x)) → assign.wpIn (F.inRound l) (n - 1 - 1) P (Exit.then K (fun _ _ _=>False)) { tmps:=(ps.zip (encs x)).foldl (fun t (p,v)=>t.setIfInBounds p v) a.tmps,defers:=[] } W)
  (hbody : ∀ (l : Nat) (pre : List α) (x : α) (W : World) (k : Nat),w.heap.size ≤ k → W.heap[k]? = some (obj x) → I pre W → Pre x W → pre.length < N → body.wpIn (F.inRound l) (n - 1 - 1) P (roundPost w.heap.size Kp I Ix (pre ++ [x]) W) (a₁ x k) W)
  (hdone : ∀ (D : Nat) (xs : List α) (W : World),w.heap.size ≤ D → S xs → I xs W → W.heap[D]? = some (.deferred (some [])) → Q .normal { a with defers:={ target:=.collected D,args:=#[] } :: a.defers } W)
  (hstop : ∀ (D : Nat) (c : Code) (pre : List α) (W : World),w.heap.size ≤ D → Sp pre → Ix c pre W → W.heap[D]? = some (.deferred (some [])) → c.wpIn F n P Q { a with defers:={ target:=.collected D,args:=#[] } :: a.defers } W) :
  (Code.rangeFunc g ps assign body).wpIn F n P Q a w:=by
 refine wpIn_rangeFunc fun fn hfn=>?_
 rw [hro]
 let R:=recAt fn a ps assign body w.heap.size
 let D:=w.heap.size
 let l:=w.heap.size + 1
 have hW : ∃ W1,(w.alloc (.deferred (some []))).alloc (.loop (R .ready none)) = W1:=⟨_,rfl⟩
 obtain ⟨W1,hW1⟩:=hW
 have z1 : W1.heap.size = w.heap.size + 2:=by rw [← hW1]; simp
 have q1 : W1.heap[l]? = some (.loop (R .ready none)):=by
  have:=World.alloc_heap_new (w.alloc (.deferred (some []))) (.loop (R .ready none))
  rw [World.size_alloc,hW1] at this
  exact this
 have q2 : W1.heap[D]? = some (.deferred (some [])):=by rw [← hW1]; exact (Below.heap_alloc _ _ _ (by simp [D])).trans (World.alloc_heap_new w _)
 have q3 : Below w0.heap.size w0 W1:=by rw [← hW1]; exact hb0.trans ((((Below.refl _ w).alloc (Nat.le_refl _) _).alloc (by simp) _).mono hb0.size)
 have q4 : I [] W1:=by rw [← hW1]; exact hI.alloc _ (hI.alloc _ h0)
 refine ⟨l,[{ target:=.collected D,args:=#[] }],W1,{ target:=.fn (.func gf) lb,args:=#[.func (.yield l) #[] #[]] },W1,gf,#[.func (.yield l) #[] #[]] ++ lb,W1,by rw [← hW1]; exact run_enterLoop_outer _ _ _ _ _,by simp only [resolve,hg]; simp [go_sem,l],fun f' hf'=>by simp [Target.leads] at hf'; subst hf'; exact hFg,by simp [invoke,go_sem,eg],fun _=>h1,?_⟩
 have turn : ∀ {A : World} {row : Option Nat},(∀ r,row = some r → W1.heap.size ≤ r ∧ ∃ o : Obj,A.heap[r]? = some o ∧ o.isCells = false) → ∀ r,row = some r → w.heap.size ≤ r ∧ ∃ o : Obj,A.heap[r]? = some o ∧ o.isCells = false:=fun hr r e=>⟨by have:=(hr r e).1; omega,(hr r e).2⟩
 have held : ∀ {A B : World} {row : Option Nat} {k : Nat} {o : Obj},A.grownBy B row → (∀ r,row = some r → W1.heap.size ≤ r ∧ ∃ o : Obj,A.heap[r]? = some o ∧ o.isCells = false) → k < W1.heap.size → A.heap[k]? = some o → B.heap[k]? = some o:=fun hg' hr hlt hk=>(hg'.block _ (Array.getElem?_eq_some_iff.1 hk).1 (fun e=>by have:=(hr _ e.symm).1; omega)).trans hk
 have hl1 : l < W1.heap.size:=by simp [l]; omega
 have hD1 : D < W1.heap.size:=by simp [D]; omega
 refine CallsIn.mono (hseq l (fun pre W=>I pre W ∧ W.heap[l]? = some (.loop (R .ready none)) ∧ W.heap[D]? = some (.deferred (some []))) (fun pre W=>∃ c,Ix c pre W ∧ W.heap[l]? = some (.loop (R .done (some c))) ∧ W.heap[D]? = some (.deferred (some []))) W1 hl1 q3
  (fun s A B row hs hg' hr=>⟨hI s A B row hs.1 hg' (turn hr),held hg' hr hl1 hs.2.1,held hg' hr hD1 hs.2.2⟩) (fun s A B row ⟨c,hc,hl,hk⟩ hg' hr=>⟨c,hIx c s A B row hc hg' (turn hr),held hg' hr hl1 hl,held hg' hr hD1 hk⟩) ?_ ⟨q4,q1,q2⟩) ?_
 ·rintro pre x W0 ⟨hi0,hl0,hk0⟩ hpx0 hlen
  have hlt0 : l < W0.heap.size:=(Array.getElem?_eq_some_iff.1 hl0).1
  have hltD : D < W0.heap.size:=(Array.getElem?_eq_some_iff.1 hk0).1
  let W:=W0.alloc (obj x)
  have hi : I pre W:=hI.alloc _ hi0
  have hl : W.heap[l]? = some (.loop (R .ready none)):=(Below.heap_alloc _ _ _ hlt0).trans hl0
  have hk : W.heap[D]? = some (.deferred (some [])):=(Below.heap_alloc _ _ _ hltD).trans hk0
  have hpx : Pre x W:=hPre.alloc _ hpx0
  have hsz : W.heap.size = W0.heap.size + 1:=by simp [W]
  have hbx : W.heap[W0.heap.size]? = some (obj x):=World.alloc_heap_new W0 (obj x)
  have hkf : KeepsFrom (l + 1) W0 W:=⟨by omega,fun k o _ h1 _=>(Below.heap_alloc _ _ _ (Array.getElem?_eq_some_iff.1 h1).1).trans h1⟩
  have hlt : l < W.heap.size:=(Array.getElem?_eq_some_iff.1 hl).1
  let Wb:=W.putObj l (.loop { R .ready none with state:=.busy })
  have b1 : Wb.heap[l]? = some (.loop { R .ready none with state:=.busy }):=World.putObj_heap_same hlt
  have b2 : Wb.heap[D]? = some (.deferred (some [])):=(World.putObj_heap_other (by simp [l,D])).trans hk
  refine ⟨fn,_,assign,body,run_yield (P:=P) (args:=encs x) hl0 (hps x),roundIn_of_wpIn hfn (hassign _ x W0 _ ⟨_,run_beginRound hl rfl,?_⟩)⟩
  have turned : ∀ (W3 : World) (o : Obj),KeepsFrom w.heap.size Wb W3 → KeepsFrom (l + 1) W (W3.putObj l o):=fun W3 o h=>⟨by have:=h.size; simp [Wb] at this ⊢; exact this,fun k x hk hx hc=>by
   rw [World.putObj_heap_other (by omega)]
   exact h.same k x (by simp [l] at hk; omega) ((World.putObj_heap_other (by omega)).trans hx) hc⟩
  have over : ∀ (jump : Option Code) (W3 : World),KeepsFrom w.heap.size Wb W3 → W3.heap[l]? = some (.loop { R .ready none with state:=.busy }) ∧ (Instr.endRound l jump).run P W3 = .ok (.bool jump.isNone) (W3.putObj l (.loop (R (if jump.isNone then .ready else .done) jump)))
    ∧ (W3.putObj l (.loop (R (if jump.isNone then .ready else .done) jump))).heap[l]? = some (.loop (R (if jump.isNone then .ready else .done) jump)) ∧ (W3.putObj l (.loop (R (if jump.isNone then .ready else .done) jump))).heap[D]? = some (.deferred (some [])):=fun jump W3 h=>by
   have c1:=h.same _ _ (by simp [l]) b1 rfl
   exact ⟨c1,run_endRound (P:=P) jump c1,World.putObj_heap_same (Array.getElem?_eq_some_iff.1 c1).1,(World.putObj_heap_other (by simp [l,D])).trans (h.same _ _ (by simp [D]) b2 rfl)⟩
  have left : ∀ (c : Code) (a3 : Act) (W3 : World),KeepsFrom w.heap.size Wb W3 → Kp Wb W3 → Ix c (pre ++ [x]) W3 → ∃ v W4,(Instr.endRound l (some c)).run P W3 = .ok v W4 ∧ ((Ending.returned v = .returned (.bool true) ∧ (I (pre ++ [x]) W4 ∧ W4.heap[l]? = some (.loop (R .ready none)) ∧ W4.heap[D]? = some (.deferred (some []))) ∧ Kp W0 W4 ∧ KeepsFrom (l + 1) W0 W4) ∨ (Ending.returned v = .returned (.bool false) ∧ (∃ c,Ix c (pre ++ [x]) W4 ∧ W4.heap[l]? = some (.loop (R .done (some c))) ∧ W4.heap[D]? = some (.deferred (some []))) ∧ Kp W0 W4 ∧ KeepsFrom (l + 1) W0 W4)):=fun c a3 W3 hk3 hkp3 hi3=>by
   obtain ⟨c1,c2,c3,c4⟩:=over (some c) W3 hk3
   exact ⟨_,_,c2, .inr ⟨rfl,⟨c,(hIx c).putObj _ hi3 (by simp [l]) c1 rfl,c3,c4⟩,hKt (hKa W0 (obj x)) (hKt (hKt (hKb W l _ _ (by simp [l]) hl rfl rfl) hkp3) (hKb W3 l _ _ (by simp [l]) c1 rfl rfl)),hkf.trans (turned W3 _ hk3)⟩⟩
  refine wpIn_mono (hbody _ pre x Wb W0.heap.size (by omega) ((World.putObj_heap_other (by omega)).trans hbx) (hI.putObj _ hi (by simp [l]) hl rfl) (hPre.putObj _ hpx (by simp [l]) hl rfl) hlen) ?_
  rintro e a3 W3 hp
  cases e with
  | normal =>
   obtain ⟨hk3,hkp3,hi3⟩:=hp
   obtain ⟨c1,c2,c3,c4⟩:=over none W3 hk3
   exact ⟨_,_,c2, .inl ⟨rfl,⟨hI.putObj _ hi3 (by simp [l]) c1 rfl,c3,c4⟩,hKt (hKa W0 (obj x)) (hKt (hKt (hKb W l _ _ (by simp [l]) hl rfl rfl) hkp3) (hKb W3 l _ _ (by simp [l]) c1 rfl rfl)),hkf.trans (turned W3 _ hk3)⟩⟩
  | ret=>exact left .ret a3 W3 hp.1 hp.2.1 hp.2.2
  | exit id=>exact left (.exit id) a3 W3 hp.1 hp.2.1 hp.2.2
  | goto t=>exact left (.goto t) a3 W3 hp.1 hp.2.1 hp.2.2
  | panic ch=>exact hp.elim
  | outgrown=>exact hp.elim
 ·rintro e W2 ⟨⟨v,rfl⟩,(⟨xs,hS,hi,hl,hk⟩ | ⟨pre,hSp,c,hi,hl,hk⟩)⟩
  ·exact ⟨none,_,run_endLoop (P:=P) hl (by simp [R,recAt]),hdone _ xs _ (Nat.le_refl _) hS (hI.putObj _ hi (by simp [l]) hl rfl) ((World.putObj_heap_other (by simp [l,D])).trans hk)⟩
  ·exact ⟨some c,_,run_endLoop (P:=P) hl (by simp [R,recAt]),hstop _ c pre _ (Nat.le_refl _) hSp ((hIx c).putObj _ hi (by simp [l]) hl rfl) ((World.putObj_heap_other (by simp [l,D])).trans hk)⟩
end
end Go.Proofs.Ytkjceegmmhnajaa

namespace Go.Proofs.Ytkjceegmmhnajaa.LPX

structure V where
 x : Int
 y : Int
 z : Int
deriving DecidableEq
def V.sub (a b : V) : V:=⟨a.x - b.x,a.y - b.y,a.z - b.z⟩
def V.dot (a b : V) : Int:=a.x * b.x + a.y * b.y + a.z * b.z
def V.crs (a b : V) : V:=⟨a.y * b.z - a.z * b.y,a.z * b.x - a.x * b.z,a.x * b.y - a.y * b.x⟩
theorem V.ext' {a b : V} (h1 : a.x = b.x) (h2 : a.y = b.y) (h3 : a.z = b.z) : a = b:=by
 cases a; cases b; simp only at h1 h2 h3; rw [h1,h2,h3]
def sm : Nat → (Nat → Int) → (Nat → Int) → Int
 | 0,_,_=>0
 | n + 1,w,g=>sm n w g + w n * g n
theorem sm_lin (a b : Int) (w c g : Nat → Int) : ∀ n,sm n (fun i=>a * w i + b * c i) g = a * sm n w g + b * sm n c g
 | 0=>by simp [sm]
 | n + 1=>by simp only [sm]; rw [sm_lin a b w c g n]; grind
theorem sm_glin (a b : Int) (w g h : Nat → Int) : ∀ n,sm n w (fun i=>a * g i + b * h i) = a * sm n w g + b * sm n w h
 | 0=>by simp [sm]
 | n + 1=>by simp only [sm]; rw [sm_glin a b w g h n]; grind
theorem sm_congr {w w' g g' : Nat → Int} : ∀ n,(∀ i,i < n → w i * g i = w' i * g' i) → sm n w g = sm n w' g'
 | 0,_=>rfl
 | n + 1,h=>by simp only [sm]; rw [sm_congr n (fun i hi=>h i (by omega)),h n (by omega)]
def one : Nat → Int:=fun _=>1
def D (n : Nat) (w : Nat → Int) : Int:=sm n w one
theorem sm_const (w : Nat → Int) (k : Int) (n : Nat) : sm n w (fun _=>k) = k * D n w:=by
 have:=sm_glin k 0 w one one n
 unfold D
 rw [show (fun _ : Nat=>k) = (fun i=>k * one i + 0 * one i) from by funext i; simp [one]]
 rw [this]; simp
theorem sm_le {w g : Nat → Int} {k : Int} : ∀ n,(∀ i,i < n → 0 ≤ w i) → (∀ i,i < n → 0 < w i → g i ≤ k) → sm n w g ≤ k * D n w
 | 0,_,_=>by simp [sm,D]
 | n + 1,h,hg=>by
  have ih:=sm_le (g:=g) (k:=k) n (fun i hi=>h i (by omega)) (fun i hi=>hg i (by omega))
  have h0:=h n (by omega)
  show sm n w g + w n * g n ≤ k * (sm n w one + w n * one n)
  change sm n w g ≤ k * sm n w one at ih
  have h2 : w n * g n ≤ k * w n:=by
   rcases Int.lt_or_eq_of_le h0 with h1 | h1
   ·rw [Int.mul_comm k]; exact Int.mul_le_mul_of_nonneg_left (hg n (by omega) h1) h0
   ·rw [← h1]; simp
  have e1 : one n = 1:=rfl
  have e2 : k * (sm n w one + w n * one n) = k * sm n w one + k * w n:=by rw [e1]; grind
  omega
theorem sm_eq {w g : Nat → Int} {k : Int} (n : Nat) (hg : ∀ i,i < n → w i ≠ 0 → g i = k) : sm n w g = k * D n w:=by
 rw [← sm_const w k n]
 refine sm_congr n fun i hi=>?_
 by_cases h : w i = 0
 ·rw [h]; simp
 ·rw [hg i hi h]
def e (k : Nat) : Nat → Int:=fun i=>if i = k then 1 else 0
theorem sm_zero {w g : Nat → Int} (n : Nat) (h : ∀ i,i < n → w i = 0) : sm n w g = 0:=by
 have:=sm_eq (w:=w) (g:=g) (k:=0) n (fun i hi hw=>absurd (h i hi) hw)
 rw [this]; simp
theorem sm_e (k : Nat) (g : Nat → Int) : ∀ n,k < n → sm n (e k) g = g k
 | 0,h=>by omega
 | n + 1,h=>by
  simp only [sm]
  by_cases hk : k = n
  ·subst hk
   rw [sm_zero k (fun i hi=>by unfold e; rw [if_neg (by omega)])]
   simp [e]
  ·rw [sm_e k g n (by omega)]
   simp only [e]
   rw [if_neg (by omega)]; simp
theorem D_lin (a b : Int) (w c : Nat → Int) (n : Nat) : D n (fun i=>a * w i + b * c i) = a * D n w + b * D n c:=sm_lin a b w c one n
theorem D_e {k n : Nat} (h : k < n) : D n (e k) = 1:=sm_e k one n h
theorem D_pos {w : Nat → Int} : ∀ n,(∀ i,i < n → 0 ≤ w i) → (∃ i,i < n ∧ 0 < w i) → 0 < D n w
 | 0,_,h=>by obtain ⟨i,hi,_⟩:=h; omega
 | n + 1,h,hp=>by
  have nn : 0 ≤ D n w:=by
   have:=sm_le (w:=w) (g:=fun _=>0) (k:=-1) n (fun i hi=>h i (by omega))
   have h2:=sm_le (w:=fun i=>w i) (g:=fun _=>-1) (k:=0) n (fun i hi=>h i (by omega)) (fun i _ _=>by omega)
   rw [sm_const] at h2
   simp at h2
   change 0 ≤ D n w
   have : D n (fun i=>w i) = D n w:=rfl
   omega
  have h0:=h n (by omega)
  show 0 < sm n w one + w n * one n
  have e1 : w n * one n = w n:=by simp [one]
  rw [e1]
  change 0 < D n w + w n
  obtain ⟨i,hi,hw⟩:=hp
  by_cases hk : i = n
  ·subst hk; omega
  ·have:=D_pos n (fun i hi=>h i (by omega)) ⟨i,by omega,hw⟩
   omega

section
variable (n : Nat) (s : Nat → V)
def M (w : Nat → Int) : V:=⟨sm n w (fun i=>(s i).x),sm n w (fun i=>(s i).y),sm n w (fun i=>(s i).z)⟩
theorem M_lin (a b : Int) (w c : Nat → Int) : M n s (fun i=>a * w i + b * c i) = ⟨a * (M n s w).x + b * (M n s c).x,a * (M n s w).y + b * (M n s c).y,a * (M n s w).z + b * (M n s c).z⟩:=by
 unfold M; simp only [sm_lin]
theorem M_e {k : Nat} (h : k < n) : M n s (e k) = s k:=by
 unfold M; rw [sm_e _ _ _ h,sm_e _ _ _ h,sm_e _ _ _ h]
theorem dot_M (m : V) (w : Nat → Int) : m.dot (M n s w) = sm n w (fun i=>m.dot (s i)):=by
 unfold M V.dot
 simp only
 have h1:=sm_glin m.x m.y w (fun i=>(s i).x) (fun i=>(s i).y) n
 have h2:=sm_glin 1 m.z w (fun i=>m.x * (s i).x + m.y * (s i).y) (fun i=>(s i).z) n
 rw [show (fun i=>m.x * (s i).x + m.y * (s i).y + m.z * (s i).z) = (fun i=>1 * (m.x * (s i).x + m.y * (s i).y) + m.z * (s i).z) from by funext i; simp]
 rw [h2,h1]
 grind
variable (x : V)
def nv (w : Nat → Int) : V:=⟨D n w * x.x - (M n s w).x,D n w * x.y - (M n s w).y,D n w * x.z - (M n s w).z⟩
theorem nv_lin (a b : Int) (w c : Nat → Int) : nv n s x (fun i=>a * w i + b * c i) = ⟨a * (nv n s x w).x + b * (nv n s x c).x,a * (nv n s x w).y + b * (nv n s x c).y,a * (nv n s x w).z + b * (nv n s x c).z⟩:=by
 unfold nv; rw [D_lin,M_lin]; simp only; refine V.ext' ?_ ?_ ?_ <;> simp only <;> grind
theorem nv_e {k : Nat} (h : k < n) : nv n s x (e k) = x.sub (s k):=by
 unfold nv; rw [D_e h,M_e n s h]; unfold V.sub; simp
theorem dot_nv (m : V) (w : Nat → Int) : m.dot (nv n s x w) = D n w * m.dot x - m.dot (M n s w):=by
 unfold nv V.dot; grind
end
def NN (n : Nat) (w : Nat → Int) : Prop:=(∀ i,i < n → 0 ≤ w i) ∧ 0 < D n w
def Orth (n : Nat) (s : Nat → V) (x : V) (w : Nat → Int) : Prop:=∃ h,∀ i,i < n → 0 < w i → (nv n s x w).dot (s i) = h
def le (n : Nat) (s : Nat → V) (x : V) (w w' : Nat → Int) : Prop:=(nv n s x w).dot (nv n s x w) * (D n w' * D n w') ≤ (nv n s x w').dot (nv n s x w') * (D n w * D n w)
theorem dot_self (a : V) : 0 ≤ a.dot a:=by
 unfold V.dot
 have h1 : ∀ t : Int,0 ≤ t * t:=fun t=>by
  rcases Int.le_total 0 t with h | h
  ·exact Int.mul_nonneg h h
  ·exact Int.mul_nonneg_of_nonpos_of_nonpos h h
 have:=h1 a.x; have:=h1 a.y; have:=h1 a.z; omega
theorem dot_zero {a : V} (h : a.dot a = 0) : a = ⟨0,0,0⟩:=by
 have h1 : ∀ t : Int,0 ≤ t * t:=fun t=>by
  rcases Int.le_total 0 t with h | h
  ·exact Int.mul_nonneg h h
  ·exact Int.mul_nonneg_of_nonpos_of_nonpos h h
 unfold V.dot at h
 have i1:=h1 a.x; have i2:=h1 a.y; have i3:=h1 a.z
 have hz : ∀ t : Int,t * t = 0 → t = 0:=fun t ht=>by
  rcases Int.mul_eq_zero.1 ht with h | h <;> exact h
 exact V.ext' (hz _ (by omega)) (hz _ (by omega)) (hz _ (by omega))
section
variable {n : Nat} {s : Nat → V} {x : V}
theorem same {w w' : Nat → Int} (hw : NN n w) (hw' : NN n w') (ho : Orth n s x w) (ho' : Orth n s x w') (hs : ∀ i,i < n → (0 < w i ↔ 0 < w' i)) : le n s x w w':=by
 obtain ⟨h,ho⟩:=ho
 obtain ⟨h',ho'⟩:=ho'
 have hz : ∀ {w : Nat → Int},NN n w → ∀ i,i < n → w i ≠ 0 → 0 < w i:=fun hw i hi h0=>by have:=hw.1 i hi; omega
 have a1 : (nv n s x w).dot (M n s w) = h * D n w:=by rw [dot_M]; exact sm_eq n fun i hi h0=>ho i hi (hz hw i hi h0)
 have a2 : (nv n s x w).dot (M n s w') = h * D n w':=by rw [dot_M]; exact sm_eq n fun i hi h0=>ho i hi ((hs i hi).2 (hz hw' i hi h0))
 have b1 : (nv n s x w').dot (M n s w) = h' * D n w:=by rw [dot_M]; exact sm_eq n fun i hi h0=>ho' i hi ((hs i hi).1 (hz hw i hi h0))
 have b2 : (nv n s x w').dot (M n s w') = h' * D n w':=by rw [dot_M]; exact sm_eq n fun i hi h0=>ho' i hi (hz hw' i hi h0)
 have c1:=dot_nv n s x (nv n s x w) w
 have c2:=dot_nv n s x (nv n s x w) w'
 have c3:=dot_nv n s x (nv n s x w') w
 have c4:=dot_nv n s x (nv n s x w') w'
 have c5 : (nv n s x w').dot (nv n s x w) = (nv n s x w).dot (nv n s x w'):=by unfold V.dot; grind
 unfold le
 refine Int.le_of_eq ?_
 rw [a1] at c1; rw [a2] at c2; rw [b1,c5] at c3; rw [b2] at c4
 generalize (nv n s x w).dot (nv n s x w) = p at *
 generalize (nv n s x w).dot (nv n s x w') = q at *
 generalize (nv n s x w').dot (nv n s x w') = r at *
 generalize (nv n s x w).dot x = u at *
 generalize (nv n s x w').dot x = v at *
 grind
theorem nearer {w : Nat → Int} {h : Int} {k : Nat} (hk : k < n) (hw : NN n w) (ho : ∀ i,i < n → 0 < w i → (nv n s x w).dot (s i) = h) (hb : h < (nv n s x w).dot (s k)) : ∃ w',NN n w' ∧ ¬ le n s x w w':=by
 have a1 : (nv n s x w).dot (M n s w) = h * D n w:=by rw [dot_M]; exact sm_eq n fun i hi h0=>ho i hi (by have:=hw.1 i hi; omega)
 have c1:=dot_nv n s x (nv n s x w) w
 rw [a1] at c1
 have hD:=hw.2
 have he:=nv_e n s x hk
 have ge : (nv n s x w).dot (x.sub (s k)) = (nv n s x w).dot x - (nv n s x w).dot (s k):=by unfold V.dot V.sub; grind
 have hG : 0 < (nv n s x w).dot (nv n s x w) - D n w * (nv n s x w).dot (x.sub (s k)):=by
  rw [ge,c1]
  have : D n w * (nv n s x w).dot x - h * D n w - D n w * ((nv n s x w).dot x - (nv n s x w).dot (s k)) = D n w * ((nv n s x w).dot (s k) - h):=by grind
  rw [this]
  exact Int.mul_pos hD (by omega)
 have hH : 0 ≤ D n w * D n w * (x.sub (s k)).dot (x.sub (s k)) - 2 * D n w * (nv n s x w).dot (x.sub (s k)) + (nv n s x w).dot (nv n s x w):=by
  have:=dot_self (⟨D n w * (x.sub (s k)).x - (nv n s x w).x,D n w * (x.sub (s k)).y - (nv n s x w).y,D n w * (x.sub (s k)).z - (nv n s x w).z⟩ : V)
  have e1 : (⟨D n w * (x.sub (s k)).x - (nv n s x w).x,D n w * (x.sub (s k)).y - (nv n s x w).y,D n w * (x.sub (s k)).z - (nv n s x w).z⟩ : V).dot ⟨D n w * (x.sub (s k)).x - (nv n s x w).x,D n w * (x.sub (s k)).y - (nv n s x w).y,D n w * (x.sub (s k)).z - (nv n s x w).z⟩ = D n w * D n w * (x.sub (s k)).dot (x.sub (s k)) - 2 * D n w * (nv n s x w).dot (x.sub (s k)) + (nv n s x w).dot (nv n s x w):=by
   unfold V.dot; grind
  omega
 generalize hGG : (nv n s x w).dot (nv n s x w) - D n w * (nv n s x w).dot (x.sub (s k)) = G at hG
 generalize hHH : D n w * D n w * (x.sub (s k)).dot (x.sub (s k)) - 2 * D n w * (nv n s x w).dot (x.sub (s k)) + (nv n s x w).dot (nv n s x w) = H at hH
 have hnne : ∀ i,i < n → 0 ≤ e k i:=fun i _=>by unfold e; split <;> omega
 by_cases hc : H ≤ G
 ·refine ⟨e k,⟨hnne,by rw [D_e hk]; omega⟩,?_⟩
  unfold le
  rw [he,D_e hk]
  intro hle
  have : (x.sub (s k)).dot (x.sub (s k)) * (D n w * D n w) = (nv n s x w).dot (nv n s x w) - 2 * G + H:=by rw [← hGG,← hHH]; grind
  rw [this] at hle
  omega
 ·have hHp : 0 < H:=by omega
  have hD2 : D n (fun i=>(H - G) * w i + (D n w * G) * e k i) = D n w * H:=by rw [D_lin,D_e hk]; grind
  refine ⟨fun i=>(H - G) * w i + (D n w * G) * e k i,⟨fun i hi=>?_,by rw [hD2]; exact Int.mul_pos hD hHp⟩,?_⟩
  ·have h1 : 0 ≤ (H - G) * w i:=Int.mul_nonneg (by omega) (hw.1 i hi)
   have h2 : 0 ≤ (D n w * G) * e k i:=Int.mul_nonneg (Int.mul_nonneg (by omega) (by omega)) (hnne i hi)
   show 0 ≤ (H - G) * w i + (D n w * G) * e k i
   omega
  ·unfold le
   rw [hD2,nv_lin,he]
   intro hle
   have e1 : ∀ (a c : V) (α β : Int),(⟨α * a.x + β * c.x,α * a.y + β * c.y,α * a.z + β * c.z⟩ : V).dot ⟨α * a.x + β * c.x,α * a.y + β * c.y,α * a.z + β * c.z⟩ = α * α * a.dot a + 2 * α * β * a.dot c + β * β * c.dot c:=fun a c α β=>by unfold V.dot; grind
   rw [e1] at hle
   generalize (nv n s x w).dot (nv n s x w) = p at *
   generalize (nv n s x w).dot (x.sub (s k)) = q at *
   generalize (x.sub (s k)).dot (x.sub (s k)) = r at *
   generalize D n w = d at *
   have e2 : (H - G) * (H - G) * p + 2 * (H - G) * (d * G) * q + d * G * (d * G) * r = H * H * p - H * (G * G):=by rw [← hHH,← hGG]; grind
   rw [e2] at hle
   have e3 : (H * H * p - H * (G * G)) * (d * d) = p * (d * H * (d * H)) - H * (G * G) * (d * d):=by grind
   have e4 : 0 < H * (G * G) * (d * d):=Int.mul_pos (Int.mul_pos hHp (Int.mul_pos hG hG)) (Int.mul_pos hD hD)
   omega
end
end Go.Proofs.Ytkjceegmmhnajaa.LPX

namespace Go.Proofs.Ytkjceegmmhnajaa.LPX

def FreeP : List V → Prop
 | [_]=>True
 | [a,b]=>(b.sub a).dot (b.sub a) ≠ 0
 | [a,b,c]=>((b.sub a).crs (c.sub a)).dot ((b.sub a).crs (c.sub a)) ≠ 0
 | [a,b,c,g]=>((b.sub a).crs (c.sub a)).dot (g.sub a) ≠ 0
 | _=>False
def InAff : List V → V → Prop
 | [a],v=>v = a
 | [a,b],v=>(b.sub a).crs (v.sub a) = ⟨0,0,0⟩
 | [a,b,c],v=>((b.sub a).crs (c.sub a)).dot (v.sub a) = 0
 | [_,_,_,_],_=>True
 | _,_=>False
theorem dot_ne {a : V} (h : a ≠ ⟨0,0,0⟩) : a.dot a ≠ 0:=fun e=>h (dot_zero e)
theorem sub_ne {a b : V} (h : b ≠ a) : b.sub a ≠ ⟨0,0,0⟩:=fun e=>h (by
 unfold V.sub at e
 injection e with e1 e2 e3
 exact V.ext' (by omega) (by omega) (by omega))
theorem free_snoc : ∀ {ps : List V} {v : V},FreeP ps → ¬ InAff ps v → FreeP (ps ++ [v])
 | [],_,h,_=>h.elim
 | [_],_,_,h=>dot_ne (sub_ne h)
 | [_,_],_,_,h=>dot_ne h
 | [_,_,_],_,_,h=>h
 | [_,_,_,_],_,_,h=>absurd trivial h
 | _ :: _ :: _ :: _ :: _ :: _,_,h,_=>h.elim
theorem aff_snoc : ∀ {ps : List V} {u v : V},¬ InAff ps v → InAff ps u → InAff (ps ++ [v]) u
 | [],_,_,_,h=>h.elim
 | [a],u,v,_,h=>by
  have h : u = a:=h
  subst h
  show (v.sub u).crs (u.sub u) = _
  unfold V.sub V.crs; simp
 | [a,b],u,v,_,h=>by
  have h : (b.sub a).crs (u.sub a) = ⟨0,0,0⟩:=h
  show ((b.sub a).crs (v.sub a)).dot (u.sub a) = 0
  have e1 : ((b.sub a).crs (v.sub a)).dot (u.sub a) = - ((b.sub a).crs (u.sub a)).dot (v.sub a):=by
   generalize b.sub a = d; generalize v.sub a = f; generalize u.sub a = g
   unfold V.crs V.dot; grind
  rw [e1,h]; simp [V.dot]
 | [_,_,_],_,_,_,_=>trivial
 | [_,_,_,_],_,_,h,_=>absurd trivial h
 | _ :: _ :: _ :: _ :: _ :: _,_,_,_,h=>h.elim
theorem aff_last : ∀ {ps : List V} {v : V},FreeP ps → ¬ InAff ps v → InAff (ps ++ [v]) v
 | [],_,h,_=>h.elim
 | [a],v,_,_=>by
  show (v.sub a).crs (v.sub a) = _
  unfold V.crs; refine V.ext' ?_ ?_ ?_ <;> simp only <;> grind
 | [a,b],v,_,_=>by
  show ((b.sub a).crs (v.sub a)).dot (v.sub a) = 0
  generalize b.sub a = d; generalize v.sub a = f
  unfold V.crs V.dot; grind
 | [_,_,_],_,_,_=>trivial
 | [_,_,_,_],_,_,h=>absurd trivial h
 | _ :: _ :: _ :: _ :: _ :: _,_,h,_=>h.elim
theorem free_len : ∀ {ps : List V},FreeP ps → 1 ≤ ps.length ∧ ps.length ≤ 4
 | [],h=>h.elim
 | [_],_=>by simp
 | [_,_],_=>by simp
 | [_,_,_],_=>by simp
 | [_,_,_,_],_=>by simp
 | _ :: _ :: _ :: _ :: _ :: _,h=>h.elim
theorem basis (s : Nat → V) (T : List Nat) : ∀ k,0 < k → k ≤ T.length → ∃ L : List Nat,L.Sublist (T.take k) ∧ FreeP (L.map s) ∧ ∀ t ∈ T.take k,InAff (L.map s) (s t)
 | 0,h,_=>by omega
 | k + 1,_,hk=>by
  have hT : T.take (k + 1) = T.take k ++ [T[k]'(by omega)]:=List.take_succ_eq_append_getElem (by omega)
  rw [hT]
  by_cases h0 : k = 0
  ·subst h0
   refine ⟨[T[0]'(by omega)],by simp,trivial,fun t ht=>?_⟩
   simp at ht
   rw [ht]; rfl
  ·obtain ⟨L,h1,h2,h3⟩:=basis s T k (by omega) (by omega)
   by_cases h4 : InAff (L.map s) (s (T[k]'(by omega)))
   ·exact ⟨L,h1.trans (List.sublist_append_left _ _),h2,fun t ht=>by
     rcases List.mem_append.1 ht with h | h
     ·exact h3 t h
     ·rw [List.mem_singleton.1 h]; exact h4⟩
   ·refine ⟨L ++ [T[k]'(by omega)],h1.append (List.Sublist.refl _),?_,fun t ht=>?_⟩
    ·rw [List.map_append]; exact free_snoc h2 h4
    ·rw [List.map_append]
     rcases List.mem_append.1 ht with h | h
     ·exact aff_snoc h4 (h3 t h)
     ·rw [List.mem_singleton.1 h]; exact aff_last h2 h4
theorem basis_of (s : Nat → V) (T : List Nat) (h : T ≠ []) : ∃ L : List Nat,L.Sublist T ∧ FreeP (L.map s) ∧ ∀ t ∈ T,InAff (L.map s) (s t):=by
 have:=basis s T T.length (List.length_pos_iff.2 h) (Nat.le_refl _)
 rw [List.take_length] at this
 exact this
section
variable (n : Nat) (s : Nat → V)
def c2 (a b : Int) (i j : Nat) : Nat → Int:=fun t=>a * e i t + b * e j t
def c3 (a b c : Int) (i j k : Nat) : Nat → Int:=fun t=>1 * c2 a b i j t + c * e k t
def c4 (a b c g : Int) (i j k l : Nat) : Nat → Int:=fun t=>1 * c3 a b c i j k t + g * e l t
theorem e_ne {i t : Nat} (h : e i t ≠ 0) : t = i:=by unfold e at h; by_cases x : t = i; exact x; rw [if_neg x] at h; exact absurd rfl h
theorem c2_ne {a b : Int} {i j t : Nat} (h : c2 a b i j t ≠ 0) : t = i ∨ t = j:=by
 by_cases h1 : e i t = 0
 ·by_cases h2 : e j t = 0
  ·exact absurd (by unfold c2; rw [h1,h2]; simp) h
  ·exact .inr (e_ne h2)
 ·exact .inl (e_ne h1)
theorem c3_ne {a b c : Int} {i j k t : Nat} (h : c3 a b c i j k t ≠ 0) : t = i ∨ t = j ∨ t = k:=by
 by_cases h1 : c2 a b i j t = 0
 ·by_cases h2 : e k t = 0
  ·exact absurd (by unfold c3; rw [h1,h2]; simp) h
  ·exact .inr (.inr (e_ne h2))
 ·rcases c2_ne h1 with h | h
  ·exact .inl h
  ·exact .inr (.inl h)
theorem c4_ne {a b c g : Int} {i j k l t : Nat} (h : c4 a b c g i j k l t ≠ 0) : t = i ∨ t = j ∨ t = k ∨ t = l:=by
 by_cases h1 : c3 a b c i j k t = 0
 ·by_cases h2 : e l t = 0
  ·exact absurd (by unfold c4; rw [h1,h2]; simp) h
  ·exact .inr (.inr (.inr (e_ne h2)))
 ·rcases c3_ne h1 with h | h | h
  ·exact .inl h
  ·exact .inr (.inl h)
  ·exact .inr (.inr (.inl h))
variable {n s}
theorem nv_c2 {v : V} {a b : Int} {i j : Nat} (hi : i < n) (hj : j < n) : D n (c2 a b i j) = a + b ∧ nv n s v (c2 a b i j) = ⟨a * (v.sub (s i)).x + b * (v.sub (s j)).x,a * (v.sub (s i)).y + b * (v.sub (s j)).y,a * (v.sub (s i)).z + b * (v.sub (s j)).z⟩:=by
 unfold c2
 rw [D_lin,nv_lin,D_e hi,D_e hj,nv_e n s v hi,nv_e n s v hj]
 exact ⟨by grind,rfl⟩
theorem nv_c3 {v : V} {a b c : Int} {i j k : Nat} (hi : i < n) (hj : j < n) (hk : k < n) : D n (c3 a b c i j k) = a + b + c ∧ nv n s v (c3 a b c i j k) = ⟨a * (v.sub (s i)).x + b * (v.sub (s j)).x + c * (v.sub (s k)).x,a * (v.sub (s i)).y + b * (v.sub (s j)).y + c * (v.sub (s k)).y,a * (v.sub (s i)).z + b * (v.sub (s j)).z + c * (v.sub (s k)).z⟩:=by
 unfold c3
 rw [D_lin,nv_lin,D_e hk,nv_e n s v hk,(nv_c2 (s:=s) (v:=v) hi hj).1,(nv_c2 (s:=s) (v:=v) hi hj).2]
 refine ⟨by grind,V.ext' ?_ ?_ ?_⟩ <;> simp only <;> grind
theorem nv_c4 {v : V} {a b c g : Int} {i j k l : Nat} (hi : i < n) (hj : j < n) (hk : k < n) (hl : l < n) : D n (c4 a b c g i j k l) = a + b + c + g ∧ nv n s v (c4 a b c g i j k l) = ⟨a * (v.sub (s i)).x + b * (v.sub (s j)).x + c * (v.sub (s k)).x + g * (v.sub (s l)).x,a * (v.sub (s i)).y + b * (v.sub (s j)).y + c * (v.sub (s k)).y + g * (v.sub (s l)).y,a * (v.sub (s i)).z + b * (v.sub (s j)).z + c * (v.sub (s k)).z + g * (v.sub (s l)).z⟩:=by
 unfold c4
 rw [D_lin,nv_lin,D_e hl,nv_e n s v hl,(nv_c3 (s:=s) (v:=v) hi hj hk).1,(nv_c3 (s:=s) (v:=v) hi hj hk).2]
 refine ⟨by grind,V.ext' ?_ ?_ ?_⟩ <;> simp only <;> grind
theorem bary (v : V) : ∀ {L : List Nat},(∀ i ∈ L,i < n) → FreeP (L.map s) → ∃ c : Nat → Int,0 < D n c ∧ (∀ t,c t ≠ 0 → t ∈ L) ∧ (∃ h,∀ i ∈ L,(nv n s v c).dot (s i) = h) ∧ (InAff (L.map s) v → nv n s v c = ⟨0,0,0⟩)
 | [],_,h=>h.elim
 | [i],hL,_=>by
  have hi:=hL i (by simp)
  refine ⟨e i,by rw [D_e hi]; omega,fun t ht=>by rw [e_ne ht]; simp,⟨_,fun k hk=>by rw [List.mem_singleton.1 hk]⟩,fun h=>?_⟩
  have h : v = s i:=h
  rw [nv_e n s v hi,h]; unfold V.sub; simp
 | [i,j],hL,h=>by
  have hi:=hL i (by simp)
  have hj:=hL j (by simp)
  have h : ((s j).sub (s i)).dot ((s j).sub (s i)) ≠ 0:=h
  have hy:=dot_self ((s j).sub (s i))
  let d:=(s j).sub (s i)
  let u:=v.sub (s i)
  have hc:=nv_c2 (n:=n) (s:=s) (v:=v) (a:=d.dot d - u.dot d) (b:=u.dot d) hi hj
  have hr : nv n s v (c2 (d.dot d - u.dot d) (u.dot d) i j) = ⟨d.dot d * u.x - u.dot d * d.x,d.dot d * u.y - u.dot d * d.y,d.dot d * u.z - u.dot d * d.z⟩:=by
   rw [hc.2]
   refine V.ext' ?_ ?_ ?_ <;> simp only [d,u,V.sub,V.dot] <;> grind
  refine ⟨c2 (d.dot d - u.dot d) (u.dot d) i j,by rw [hc.1]; show 0 < d.dot d - u.dot d + u.dot d; have : d.dot d ≠ 0:=h; have : 0 ≤ d.dot d:=hy; omega,fun t ht=>by rcases c2_ne ht with h | h <;> (rw [h]; simp),⟨(nv n s v (c2 (d.dot d - u.dot d) (u.dot d) i j)).dot (s i),fun k hk=>?_⟩,fun ha=>?_⟩
  ·have hd : (nv n s v (c2 (d.dot d - u.dot d) (u.dot d) i j)).dot d = 0:=by rw [hr]; simp only [V.dot]; grind
   have e1 : (nv n s v (c2 (d.dot d - u.dot d) (u.dot d) i j)).dot d = (nv n s v (c2 (d.dot d - u.dot d) (u.dot d) i j)).dot (s j) - (nv n s v (c2 (d.dot d - u.dot d) (u.dot d) i j)).dot (s i):=by
    generalize nv n s v (c2 (d.dot d - u.dot d) (u.dot d) i j) = q
    simp only [d,V.dot,V.sub]; grind
   have hk' : k = i ∨ k = j:=by simpa using hk
   rcases hk' with rfl | rfl
   ·rfl
   ·omega
  ·have ha : d.crs u = ⟨0,0,0⟩:=ha
   have h1 : (d.crs u).x = 0:=by rw [ha]
   have h2 : (d.crs u).y = 0:=by rw [ha]
   have h3 : (d.crs u).z = 0:=by rw [ha]
   have g1 : d.dot d * u.x - u.dot d * d.x = d.z * (d.crs u).y - d.y * (d.crs u).z:=by simp only [V.dot,V.crs]; grind
   have g2 : d.dot d * u.y - u.dot d * d.y = d.x * (d.crs u).z - d.z * (d.crs u).x:=by simp only [V.dot,V.crs]; grind
   have g3 : d.dot d * u.z - u.dot d * d.z = d.y * (d.crs u).x - d.x * (d.crs u).y:=by simp only [V.dot,V.crs]; grind
   rw [hr,g1,g2,g3,h1,h2,h3]; simp
 | [i,j,k],hL,h=>by
  have hi:=hL i (by simp)
  have hj:=hL j (by simp)
  have hk:=hL k (by simp)
  let d:=(s j).sub (s i)
  let f:=(s k).sub (s i)
  let u:=v.sub (s i)
  let m:=d.crs f
  have h : m.dot m ≠ 0:=h
  have hy : 0 ≤ m.dot m:=dot_self _
  let p:=(u.crs f).dot m
  let q:=(d.crs u).dot m
  have hc:=nv_c3 (n:=n) (s:=s) (v:=v) (a:=m.dot m - p - q) (b:=p) (c:=q) hi hj hk
  have hr : nv n s v (c3 (m.dot m - p - q) p q i j k) = ⟨u.dot m * m.x,u.dot m * m.y,u.dot m * m.z⟩:=by
   rw [hc.2]
   have e1 : v.sub (s j) = u.sub d:=by simp only [u,d,V.sub]; refine V.ext' ?_ ?_ ?_ <;> simp only <;> omega
   have e2 : v.sub (s k) = u.sub f:=by simp only [u,f,V.sub]; refine V.ext' ?_ ?_ ?_ <;> simp only <;> omega
   rw [e1,e2]
   show (⟨(m.dot m - p - q) * u.x + p * (u.sub d).x + q * (u.sub f).x,(m.dot m - p - q) * u.y + p * (u.sub d).y + q * (u.sub f).y,(m.dot m - p - q) * u.z + p * (u.sub d).z + q * (u.sub f).z⟩ : V) = _
   have i1 : m.dot m * u.x = p * d.x + q * f.x + u.dot m * m.x:=by simp only [m,p,q,V.dot,V.crs]; grind
   have i2 : m.dot m * u.y = p * d.y + q * f.y + u.dot m * m.y:=by simp only [m,p,q,V.dot,V.crs]; grind
   have i3 : m.dot m * u.z = p * d.z + q * f.z + u.dot m * m.z:=by simp only [m,p,q,V.dot,V.crs]; grind
   generalize m.dot m = y at *
   generalize u.dot m = g at *
   clear_value p q
   refine V.ext' ?_ ?_ ?_ <;> simp only [V.sub] <;> grind
  refine ⟨c3 (m.dot m - p - q) p q i j k,by rw [hc.1]; omega,fun t ht=>by rcases c3_ne ht with h | h | h <;> (rw [h]; simp),⟨(nv n s v (c3 (m.dot m - p - q) p q i j k)).dot (s i),fun t ht=>?_⟩,fun ha=>?_⟩
  ·rw [hr]
   generalize u.dot m = g
   have e1 : m.dot d = 0:=by simp only [m,V.dot,V.crs]; grind
   have e2 : m.dot f = 0:=by simp only [m,V.dot,V.crs]; grind
   have e3 : m.dot d = m.dot (s j) - m.dot (s i):=by simp only [d,V.dot,V.sub]; grind
   have e4 : m.dot f = m.dot (s k) - m.dot (s i):=by simp only [f,V.dot,V.sub]; grind
   have e5 : ∀ a : V,(⟨g * m.x,g * m.y,g * m.z⟩ : V).dot a = g * m.dot a:=fun a=>by simp only [V.dot]; grind
   rw [e5,e5]
   have ht' : t = i ∨ t = j ∨ t = k:=by simpa using ht
   rcases ht' with rfl | rfl | rfl
   ·rfl
   ·rw [show m.dot (s t) = m.dot (s i) by omega]
   ·rw [show m.dot (s t) = m.dot (s i) by omega]
  ·have ha : m.dot u = 0:=ha
   have : u.dot m = 0:=by rw [← ha]; simp only [V.dot]; grind
   rw [hr,this]; simp
 | [i,j,k,l],hL,h=>by
  have hi:=hL i (by simp)
  have hj:=hL j (by simp)
  have hk:=hL k (by simp)
  have hl:=hL l (by simp)
  let d:=(s j).sub (s i)
  let f:=(s k).sub (s i)
  let g:=(s l).sub (s i)
  let u:=v.sub (s i)
  let y:=(d.crs f).dot g
  have h : y ≠ 0:=h
  let p:=(u.crs f).dot g
  let q:=(d.crs u).dot g
  let r:=(d.crs f).dot u
  have key : ∀ σ : Int,σ = 1 ∨ σ = -1 → 0 < σ * y → ∃ c : Nat → Int,0 < D n c ∧ (∀ t,c t ≠ 0 → t ∈ [i,j,k,l]) ∧ (∃ h,∀ t ∈ [i,j,k,l],(nv n s v c).dot (s t) = h) ∧ (InAff ([i,j,k,l].map s) v → nv n s v c = ⟨0,0,0⟩):=fun σ _ hσ=>by
   have hc:=nv_c4 (n:=n) (s:=s) (v:=v) (a:=σ * (y - p - q - r)) (b:=σ * p) (c:=σ * q) (g:=σ * r) hi hj hk hl
   have hr : nv n s v (c4 (σ * (y - p - q - r)) (σ * p) (σ * q) (σ * r) i j k l) = ⟨0,0,0⟩:=by
    rw [hc.2]
    have e1 : v.sub (s j) = u.sub d:=by simp only [u,d,V.sub]; refine V.ext' ?_ ?_ ?_ <;> simp only <;> omega
    have e2 : v.sub (s k) = u.sub f:=by simp only [u,f,V.sub]; refine V.ext' ?_ ?_ ?_ <;> simp only <;> omega
    have e3 : v.sub (s l) = u.sub g:=by simp only [u,g,V.sub]; refine V.ext' ?_ ?_ ?_ <;> simp only <;> omega
    rw [e1,e2,e3]
    have i1 : y * u.x = p * d.x + q * f.x + r * g.x:=by simp only [y,p,q,r,V.dot,V.crs]; grind
    have i2 : y * u.y = p * d.y + q * f.y + r * g.y:=by simp only [y,p,q,r,V.dot,V.crs]; grind
    have i3 : y * u.z = p * d.z + q * f.z + r * g.z:=by simp only [y,p,q,r,V.dot,V.crs]; grind
    show (⟨σ * (y - p - q - r) * u.x + σ * p * (u.sub d).x + σ * q * (u.sub f).x + σ * r * (u.sub g).x,σ * (y - p - q - r) * u.y + σ * p * (u.sub d).y + σ * q * (u.sub f).y + σ * r * (u.sub g).y,σ * (y - p - q - r) * u.z + σ * p * (u.sub d).z + σ * q * (u.sub f).z + σ * r * (u.sub g).z⟩ : V) = _
    clear_value y p q r
    refine V.ext' ?_ ?_ ?_ <;> simp only [V.sub] <;> grind
   refine ⟨_,by rw [hc.1]; have e : σ * (y - p - q - r) + σ * p + σ * q + σ * r = σ * y:=(by grind); rw [e]; exact hσ,fun t ht=>by rcases c4_ne ht with h | h | h | h <;> (rw [h]; simp),⟨0,fun t _=>by rw [hr]; simp [V.dot]⟩,fun _=>hr⟩
  by_cases hy : 0 < y
  ·exact key 1 (.inl rfl) (by omega)
  ·exact key (-1) (.inr rfl) (by omega)
 | _ :: _ :: _ :: _ :: _ :: _,_,h=>h.elim
end
end Go.Proofs.Ytkjceegmmhnajaa.LPX

namespace Go.Proofs.Ytkjceegmmhnajaa.LPX

def cnt : Nat → (Nat → Int) → Nat
 | 0,_=>0
 | n + 1,w=>cnt n w + if 0 < w n then 1 else 0
theorem cnt_le {w w' : Nat → Int} : ∀ n,(∀ i,i < n → 0 < w' i → 0 < w i) → cnt n w' ≤ cnt n w
 | 0,_=>Nat.le_refl _
 | n + 1,h=>by
  have ih:=cnt_le n (fun i hi=>h i (by omega))
  have h0:=h n (by omega)
  simp only [cnt]
  by_cases h1 : 0 < w' n
  ·rw [if_pos h1,if_pos (h0 h1)]; omega
  ·rw [if_neg h1]; omega
theorem cnt_lt {w w' : Nat → Int} : ∀ n,(∀ i,i < n → 0 < w' i → 0 < w i) → (∃ i,i < n ∧ 0 < w i ∧ ¬ 0 < w' i) → cnt n w' < cnt n w
 | 0,_,h=>by obtain ⟨i,hi,_⟩:=h; omega
 | n + 1,h,hx=>by
  obtain ⟨i,hi,h1,h2⟩:=hx
  have h0:=h n (by omega)
  have il:=cnt_le n (fun i hi=>h i (by omega))
  simp only [cnt]
  by_cases hk : i = n
  ·subst hk
   rw [if_pos h1,if_neg h2]; omega
  ·have:=cnt_lt n (fun i hi=>h i (by omega)) ⟨i,by omega,h1,h2⟩
   by_cases h3 : 0 < w' n
   ·rw [if_pos h3,if_pos (h0 h3)]; omega
   ·rw [if_neg h3]; omega
theorem min_ratio (P : Nat → Prop) (a d : Nat → Int) : ∀ n,(∀ i,i < n → P i → 0 < d i) → (∃ i,i < n ∧ P i) → ∃ i,i < n ∧ P i ∧ ∀ j,j < n → P j → a i * d j ≤ a j * d i
 | 0,_,h=>by obtain ⟨i,hi,_⟩:=h; omega
 | n + 1,hd,hx=>by
  by_cases h1 : ∃ i,i < n ∧ P i
  ·obtain ⟨i,hi,hp,hm⟩:=min_ratio P a d n (fun i hi=>hd i (by omega)) h1
   by_cases h2 : P n ∧ a n * d i < a i * d n
   ·refine ⟨n,by omega,h2.1,fun j hj hpj=>?_⟩
    by_cases hk : j = n
    ·subst hk; exact Int.le_refl _
    ·have e1:=hm j (by omega) hpj
     have d1:=hd i (by omega) hp
     have d2:=hd j (by omega) hpj
     have d3:=hd n (by omega) h2.1
     have e2 : a n * d i * d j ≤ a i * d n * d j:=Int.mul_le_mul_of_nonneg_right (by have:=h2.2; omega) (by omega)
     have e3 : a i * d j * d n ≤ a j * d i * d n:=Int.mul_le_mul_of_nonneg_right e1 (by omega)
     have e4 : (a n * d j) * d i ≤ (a j * d n) * d i:=by
      have q1 : a n * d i * d j = (a n * d j) * d i:=by grind
      have q2 : a i * d n * d j = a i * d j * d n:=by grind
      have q3 : a j * d i * d n = (a j * d n) * d i:=by grind
      omega
     exact Int.le_of_mul_le_mul_right e4 d1
   ·refine ⟨i,by omega,hp,fun j hj hpj=>?_⟩
    by_cases hk : j = n
    ·subst hk
     exact Int.not_lt.1 (fun h=>h2 ⟨hpj,h⟩)
    ·exact hm j (by omega) hpj
  ·obtain ⟨i,hi,hp⟩:=hx
   have hin : i = n:=Classical.byContradiction fun h=>h1 ⟨i,by omega,hp⟩
   subst hin
   refine ⟨i,by omega,hp,fun j hj hpj=>?_⟩
   have : j = i:=Classical.byContradiction fun h=>h1 ⟨j,by omega,hpj⟩
   subst this
   exact Int.le_refl _
section
variable {n : Nat} {s : Nat → V} {x : V}
theorem drop {w c : Nat → Int} (hw : NN n w) (hD : D n c = 0) (hM : M n s c = ⟨0,0,0⟩) (hs : ∀ i,i < n → c i ≠ 0 → 0 < w i) (hc : ∃ i,i < n ∧ c i ≠ 0) :
  ∃ w' a,NN n w' ∧ 0 < a ∧ cnt n w' < cnt n w ∧ (∀ i,i < n → 0 < w' i → 0 < w i) ∧ D n w' = a * D n w ∧ ∀ v,nv n s v w' = ⟨a * (nv n s v w).x,a * (nv n s v w).y,a * (nv n s v w).z⟩:=by
 have hpos : ∃ i,i < n ∧ 0 < c i:=Classical.byContradiction fun hno=>by
  obtain ⟨i,hi,h0⟩:=hc
  have h1 : ∀ i,i < n → 0 ≤ (-1) * c i + 0 * c i:=fun i hi=>by
   have : ¬ 0 < c i:=fun h=>hno ⟨i,hi,h⟩
   omega
  have:=D_pos n h1 ⟨i,hi,by have:=h1 i hi; omega⟩
  rw [D_lin,hD] at this
  omega
 obtain ⟨i0,hi0,hp0,hmin⟩:=min_ratio (fun i=>0 < c i) w c n (fun i _ h=>h) hpos
 have hw0:=hs i0 hi0 (by omega)
 have hD2 : D n (fun i=>c i0 * w i + (- w i0) * c i) = c i0 * D n w:=by rw [D_lin,hD]; simp
 have hnn : ∀ i,i < n → 0 ≤ c i0 * w i + (- w i0) * c i:=fun i hi=>by
  by_cases h : 0 < c i
  ·have:=hmin i hi h
   have e1 : c i0 * w i + (- w i0) * c i = w i * c i0 - w i0 * c i:=by grind
   omega
  ·have h1 : 0 ≤ c i0 * w i:=Int.mul_nonneg (by omega) (hw.1 i hi)
   have h2 : 0 ≤ w i0 * (- c i):=Int.mul_nonneg (by omega) (by omega)
   have e1 : (- w i0) * c i = w i0 * (- c i):=by grind
   omega
 have hsup : ∀ i,i < n → 0 < c i0 * w i + (- w i0) * c i → 0 < w i:=fun i hi h=>by
  by_cases h1 : c i = 0
  ·rw [h1] at h
   have:=hw.1 i hi
   by_cases h2 : w i = 0
   ·rw [h2] at h; simp at h
   ·omega
  ·exact hs i hi h1
 refine ⟨_,c i0,⟨hnn,by rw [hD2]; exact Int.mul_pos hp0 hw.2⟩,hp0,cnt_lt n hsup ⟨i0,hi0,hw0,?_⟩,hsup,hD2,fun v=>?_⟩
 ·have : c i0 * w i0 + (- w i0) * c i0 = 0:=by grind
  show ¬ 0 < c i0 * w i0 + (- w i0) * c i0
  omega
 ·rw [nv_lin]
  have h0 : nv n s v c = ⟨0,0,0⟩:=by unfold nv; rw [hD,hM]; simp
  rw [h0]
  refine V.ext' ?_ ?_ ?_ <;> simp
def suppL (n : Nat) (w : Nat → Int) : List Nat:=(List.range n).filter (fun i=>decide (0 < w i))
theorem mem_supp {w : Nat → Int} {i : Nat} : i ∈ suppL n w ↔ i < n ∧ 0 < w i:=by unfold suppL; rw [List.mem_filter,List.mem_range]; simp
theorem supp_ne {w : Nat → Int} (hw : NN n w) : suppL n w ≠ []:=fun h=>by
 have hz : ∀ i,i < n → w i = 0:=fun i hi=>by
  by_cases h0 : 0 < w i
  ·have:=mem_supp.2 ⟨hi,h0⟩; rw [h] at this; cases this
  ·have:=hw.1 i hi; omega
 have:=hw.2
 unfold D at this
 rw [sm_zero n hz] at this
 omega
theorem M_of_nv {c : Nat → Int} (h : nv n s x c = ⟨0,0,0⟩) : (M n s c).x = D n c * x.x ∧ (M n s c).y = D n c * x.y ∧ (M n s c).z = D n c * x.z:=by
 unfold nv at h
 injection h with h1 h2 h3
 exact ⟨by omega,by omega,by omega⟩
theorem carath : ∀ (m : Nat) (w : Nat → Int),cnt n w ≤ m → NN n w → ∃ w' a,NN n w' ∧ 0 < a ∧ (∀ i,i < n → 0 < w' i → 0 < w i) ∧ D n w' = a * D n w ∧ (∀ v,nv n s v w' = ⟨a * (nv n s v w).x,a * (nv n s v w).y,a * (nv n s v w).z⟩) ∧ FreeP ((suppL n w').map s)
 | m,w,hm,hw=>by
  obtain ⟨L,hL,hF,hA⟩:=basis_of s (suppL n w) (supp_ne hw)
  by_cases hall : ∀ t ∈ suppL n w,t ∈ L
  ·have hLe : L = suppL n w:=by
    have hnd : (suppL n w).Nodup:=by unfold suppL; exact List.Nodup.sublist List.filter_sublist List.nodup_range
    refine hL.eq_of_length (Nat.le_antisymm hL.length_le ?_)
    exact hnd.length_le_of_subset hall
   rw [hLe] at hF
   exact ⟨w,1,hw,by omega,fun _ _ h=>h,by simp,fun v=>by simp,hF⟩
  ·obtain ⟨t,ht⟩ : ∃ t,¬ (t ∈ suppL n w → t ∈ L):=Classical.byContradiction fun h=>hall fun t=>Classical.byContradiction fun h2=>h ⟨t,h2⟩
   have ht1 : t ∈ suppL n w:=Classical.byContradiction fun h=>ht fun h2=>absurd h2 h
   have ht2 : t ∉ L:=fun h=>ht fun _=>h
   have hLn : ∀ i ∈ L,i < n:=fun i hi=>(mem_supp.1 (hL.subset hi)).1
   obtain ⟨c,hc1,hc2,_,hc3⟩:=bary (n:=n) (s:=s) (s t) hLn hF
   have hc4:=M_of_nv (hc3 (hA t ht1))
   have htn:=(mem_supp.1 ht1).1
   have hct : c t = 0:=Classical.byContradiction fun h=>ht2 (hc2 t h)
   obtain ⟨w1,a1,h1,h2,h3,h4,h5,h6⟩:=drop (n:=n) (s:=s) (w:=w) (c:=fun i=>D n c * e t i + (-1) * c i) hw (by rw [D_lin,D_e htn]; grind) (by
     rw [M_lin,M_e n s htn,hc4.1,hc4.2.1,hc4.2.2]
     refine V.ext' ?_ ?_ ?_ <;> simp only <;> grind) (fun i hi h=>by
     by_cases hi2 : c i = 0
     ·rw [hi2] at h
      have : e t i ≠ 0:=fun h0=>h (by rw [h0]; simp)
      rw [e_ne this]
      exact (mem_supp.1 ht1).2
     ·exact (mem_supp.1 (hL.subset (hc2 i hi2))).2) ⟨t,htn,by
     rw [hct]
     have : e t t = 1:=by unfold e; rw [if_pos rfl]
     rw [this]; omega⟩
   obtain ⟨w2,a2,g1,g2,g3,g4,g5,g6⟩:=carath (cnt n w1) w1 (Nat.le_refl _) h1
   refine ⟨w2,a2 * a1,g1,Int.mul_pos g2 h2,fun i hi h=>h4 i hi (g3 i hi h),by rw [g4,h5]; grind,fun v=>?_,g6⟩
   rw [g5,h6]
   refine V.ext' ?_ ?_ ?_ <;> simp only <;> grind
termination_by _ w=>cnt n w
end
end Go.Proofs.Ytkjceegmmhnajaa.LPX
