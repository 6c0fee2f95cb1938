/- The second machine. -/
import Derived.Test.YtkjceegmmhnajaaG56

set_option linter.unusedVariables false
set_option linter.unusedSimpArgs false

namespace Go.Proofs.Ytkjceegmmhnajaa
open Go.RowKit

structure EnvOk (E : Env) : Prop where
 tv : TvOk E.P E.tv
 mixed : E.P.follows .mixedOrders = true
 fns : ∀ f fi, E.fns f = some fi → ∃ fn, E.P.funcs[f]? = some fn ∧ fn.body = some fi.body ∧ fn.ntmps = fi.ntmps ∧ fn.results.toList = fi.results ∧ ck fi.body = true ∧ (fn.name == "runtime.NumGoroutine") = false
 ext : ∀ f args H v, E.extf f args H = some v → ∃ fn c, E.P.funcs[f]? = some fn ∧ fn.body = some c ∧ (fn.name == "runtime.NumGoroutine") = false
 extn : ∀ f args H n r, E.extn f args H n = some r → ∃ fn c, E.P.funcs[f]? = some fn ∧ fn.body = some c ∧ (fn.name == "runtime.NumGoroutine") = false

structure St where
 T : Tr Value
 sz : Nat
 D : List Nat
 H : Tr AO
 n : Nat

inductive Ex where
 | normal
 | exit (id : Nat)
 | ret
 deriving DecidableEq

def Ex.conc : Ex → Exit
 | .normal=>.normal
 | .exit i=>.exit i
 | .ret=>.ret

abbrev Exe:=Nat → Option Nat → Code → St → Option (Ex × St)

noncomputable def tget (T : Tr Value) (i : Nat) : Value:=match T.get i with | some v=>v | none=>undef

noncomputable def evA (T : Tr Value) (x : Operand) : Value:=match x with
 | .tmp t=>tget T t
 | .const v=>v
 | .global _=>undef
 | .func f=>.func (.func f) #[] #[]

noncomputable def aYield (ops : Array Oper) (T : Tr Value) (j : Nat) : Option Bool :=
 match getQ ops.toList j with
 | some o=>match o.dst with
  | some t=>match tget T t with
   | .bool b=>some b
   | _=>none
  | none=>none
 | none=>none

noncomputable def aWanted (ops : Array Oper) (T : Tr Value) (o : Oper) : Bool :=
 match o.guard with
 | none=>true
 | some (j,want)=>match aYield ops T j with
  | some b=>Bool.rec (Bool.rec true false want) want b
  | none=>false

noncomputable def aPut (T : Tr Value) (sz : Nat) (dst : Option Nat) (v : Value) : Option (Tr Value) :=
 match dst with
 | none=>some T
 | some d=>Bool.rec none (some (T.set d v)) (Nat.blt d sz)

noncomputable def aResult (tv : Nat → Option TV) (T : Tr Value) (H : Tr AO) (x : ResultVar) : Option Value:=match x with
 | .tmp t=>some (tget T t)
 | .cell a t=>aLoad tv t (tget T a) H

noncomputable def aResults (tv : Nat → Option TV) (T : Tr Value) (H : Tr AO) (l : List ResultVar) : Option (List Value) :=
 List.rec (some []) (fun x _ ih=>match aResult tv T H x,ih with
  | some v,some r=>some (v :: r)
  | _,_=>none) l

noncomputable def tupled (l : List Value) : Value:=match l with
 | [v]=>v
 | l=>.tuple ⟨l⟩

noncomputable def undefer (lo : Nat) (D : List Nat) : Tr AO → Option (Tr AO) :=
 List.rec (fun H=>some H) (fun i _ ih H=>match H.get i with
  | some .deferred=>Bool.rec none (ih (H.del i)) (Nat.ble lo i)
  | _=>none) D

def idsV : Nat → Value → List Nat → List Nat
 | _, .pointer (some a),l=>a.block :: l
 | _, .slice (some a) _ _,l=>a.block :: l
 | _, .map (some b),l=>b :: l
 | _, .func (.yield b) _ _,l=>b :: l
 | f + 1, .func _ a c,l=>a.toList.foldr (idsV f) (c.toList.foldr (idsV f) l)
 | f + 1, .agg a,l=>a.toList.foldr (idsV f) l
 | f + 1, .tuple a,l=>a.toList.foldr (idsV f) l
 | _,_,l=>l

noncomputable def gc (n : Nat) (H' : Tr AO) (f : Nat) : List Nat → Tr AO → Tr AO :=
 Nat.rec (fun _ H=>H) (fun _ ih l H=>match l with
  | []=>H
  | i :: l=>Bool.rec (match H.get i with
    | some _=>ih l H
    | none=>match H'.get i with
     | some (.cells c e sz)=>ih (c.toList.foldr (idsV 3) l) (H.set i (.cells c e sz))
     | some (.map es c)=>ih (es.foldr (fun e l=>idsV 3 e.2.1 l) l) (H.set i (.map es c))
     | _=>ih l H) (ih l H) (Nat.blt i n)) f

noncomputable def leave (tv : Nat → Option TV) (lo : Nat) (wr : Bool) (results : List ResultVar) (H : Tr AO) (n : Nat) (s : St) : Option (Value × Tr AO × Nat) :=
 match s with
 | ⟨T,_,D,H1,n1⟩=>match undefer lo D H1 with
  | some H'=>match aResults tv T H' results with
   | some l=>some (tupled l,Bool.rec (Bool.rec (gc n H' 100000 (idsV 4 (tupled l) []) H) H (isGround (tupled l))) H' wr,n1)
   | none=>none
  | none=>none

noncomputable def callB (E : Env) (ex : Exe) (lo g : Nat) (args : Array Value) (H : Tr AO) (n : Nat) : Option (Value × Tr AO × Nat) :=
 match E.fns g with
 | none=>none
 | some ⟨body,ntmps,results,wr⟩=>Bool.rec none
   (match ex (Bool.rec n lo wr) none body ⟨Tr.ofList args.toList 0 .e,ntmps,[],H,n⟩ with
   | some (.normal,s)=>leave E.tv (Bool.rec n lo wr) wr results H n s
   | some (.ret,s)=>leave E.tv (Bool.rec n lo wr) wr results H n s
   | _=>none) (Nat.ble (sizeQ args) ntmps)

noncomputable def callF (E : Env) (ex : Exe) (lo g : Nat) (args : Array Value) (H : Tr AO) (n : Nat) : Option (Value × Tr AO × Nat) :=
 match E.extf g args H with
 | some v=>some (v,H,n)
 | none=>match E.extn g args H n with
  | some (v,l)=>some (v,setL H n l,n + lenQ l)
  | none=>callB E ex lo g args H n

def setParams : List Nat → List Value → Array Value → Array Value
 | t :: ts,a :: as,T=>setParams ts as (T.setIfInBounds t a)
 | _,_,T=>T

def jumpOf : Ex → Option Code
 | .normal=>none
 | .exit i=>some (.exit i)
 | .ret=>some .ret

noncomputable def roundF (ex : Exe) (lo l : Nat) (args : Array Value) (H : Tr AO) (n : Nat) : Option (Value × Tr AO × Nat) :=
 if lo ≤ l then
  match H.get l with
  | some (.loop r)=>if args.size = r.params.size then
    match ex lo (some l) r.assign ⟨Tr.ofList (setParams r.params.toList args.toList r.tmps).toList 0 .e,r.tmps.size,[],H,n⟩ with
    | some (.normal,s1)=>match s1.H.get l with
     | some (.loop r1)=>if r1.state = .ready then
       match ex lo (some l) r.body { s1 with H:=s1.H.set l (.loop { r1 with state:=.busy }) } with
       | some (e,s2)=>match s2.H.get l with
        | some (.loop r2)=>some (.bool (jumpOf e).isNone,s2.H.set l (.loop { r2 with state:=if (jumpOf e).isNone then .ready else .done,pending:=jumpOf e }),s2.n)
        | _=>none
       | none=>none
      else none
     | _=>none
    | _=>none
   else none
  | _=>none
 else none

noncomputable def callV (E : Env) (ex : Exe) (lo : Nat) (f : Value) (args : Array Value) (H : Tr AO) (n : Nat) : Option (Value × Tr AO × Nat) :=
 match f with
 | .func (.func g) a c=>callF E ex lo g (catQ (catQ a args) c) H n
 | .func (.yield l) _ _=>match H.get l with
  | none=>match E.exty l args H with
   | some v=>some (v,H,n)
   | none=>none
  | some _=>roundF ex lo l args H n
 | _=>none

noncomputable def opMem (E : Env) (lo : Nat) (o : Oper) (T : Tr Value) (H : Tr AO) (n : Nat) : Option (Value × Tr AO × Nat) :=
 match aMem E.P E.tv lo o (evA T) H n with
 | some (v,d,n')=>some (v,updT H d,n')
 | none=>none

noncomputable def opCall (E : Env) (ex : Exe) (lo : Nat) (o : Oper) (c : Call) (T : Tr Value) (H : Tr AO) (n : Nat) : Option (Value × Tr AO × Nat) :=
 match c with
 | { callee:=.value f,args, .. }=>callV E ex lo (evA T f) ⟨mapQ (evA T) args.toList⟩ H n
 | _=>opMem E lo o T H n

noncomputable def opRun (E : Env) (ex : Exe) (lo : Nat) (o : Oper) (T : Tr Value) (H : Tr AO) (n : Nat) : Option (Value × Tr AO × Nat) :=
 match o.op with
 | .call c=>opCall E ex lo o c T H n
 | _=>opMem E lo o T H n

noncomputable def runOps (E : Env) (ex : Exe) (lo : Nat) (ops : Array Oper) (l : List Oper) : Tr Value → Nat → List Nat → Tr AO → Nat → Option St :=
 List.rec (fun T sz D H n=>some ⟨T,sz,D,H,n⟩) (fun o _ ih T sz D H n =>
  Bool.rec (match aPut T sz o.dst undef with
   | some T=>ih T sz D H n
   | none=>none)
  (match opRun E ex lo o T H n with
   | some (v,H,n)=>match aPut T sz o.dst v with
    | some T=>ih T sz D H n
    | none=>none
   | none=>none) (aWanted ops T o)) l

/-! ### a region that draws its order -/
noncomputable def hidden (bs : Array Nat) (i : Nat) (R : List (Nat × Nat × Nat)) : List Nat :=
 List.rec [] (fun q _ ih=>Bool.rec (appQ (mapQ (q.2.1 + ·) (List.range (q.2.2 - q.2.1))) ih) ih (isBefore bs q.1 i)) R

noncomputable def delAll (l : List Nat) (H : Tr AO) : Tr AO:=List.rec H (fun i _ ih=>Tr.del ih i) l
noncomputable def addAll (H0 : Tr AO) (l : List Nat) (H : Tr AO) : Tr AO:=List.rec H (fun i _ ih=>Tr.put (i + 1) ih i (H0.get i)) l

def isWriter (o : Op) : Bool:=match kindOf o with | .store=>true | .append=>true | _=>false

def footOk (bs : Array Nat) (i : Nat) (wr : Bool) (F : List (Nat × Nat × Bool)) (b : Nat) : Bool :=
 F.all fun q=>q.2.1 != b || !(q.2.2 || wr) || isBefore bs q.1 i

def guarded (ops : Array Oper) (bs : Array Nat) (i : Nat) : Bool :=
 (List.range ops.size).any fun j=>j != i && !isBefore bs j i && !isBefore bs i j && (match ops[j]? with | some o=>kindOf o.op != .silent | none=>false)

def isCall (o : Op) : Bool:=match o with
 | .call { callee:=.builtin _, .. }=>false
 | .call _=>true
 | _=>false

noncomputable def runDraw (E : Env) (ex : Exe) (lo : Nat) (ops : Array Oper) (bs : Array Nat) (l : List Oper) : Nat → Tr Value → Nat → List Nat → Tr AO → Nat → List (Nat × Nat × Nat) → List (Nat × Nat × Bool) → Option St :=
 List.rec (fun _ T sz D H n _ _=>some ⟨T,sz,D,H,n⟩) (fun o _ ih i T sz D H n R F =>
  Bool.rec (match aPut T sz o.dst undef with
   | some T=>ih (Nat.succ i) T sz D H n R F
   | none=>none)
  (Bool.rec
   (Bool.rec none
    (match aMem E.P E.tv lo o (evA T) H n with
     | some (v,d,n')=>match aPut T sz o.dst v with
      | some T'=>ih (Nat.succ i) T' sz D (updT H d) n' (Bool.rec R ((i,n,n') :: R) (Nat.blt n n')) (appQ (mapQ (fun b=>(i,b,isWriter o.op)) (view o (evA T))) F)
      | none=>none
     | none=>none)
    (allQ (fun b=>!(hidden bs i R).contains b && footOk bs i (isWriter o.op) F b) (view o (evA T))))
   (match opRun E ex (Bool.rec lo n (guarded ops bs i)) o T (delAll (hidden bs i R) H) n with
    | some (v,H',n')=>match aPut T sz o.dst v with
     | some T=>ih (Nat.succ i) T sz D (addAll H (hidden bs i R) H') n' (Bool.rec R ((i,n,n') :: R) (Nat.blt n n')) F
     | none=>none
    | none=>none)
   (isCall o.op))
  (aWanted ops T o)) l

noncomputable def slotsOf (T : Tr Value) (sz : Nat) : Array Value:=⟨mapQ (tget T) (List.range sz)⟩

def exOf : Option Code → Option Ex
 | none=>some .normal
 | some .ret=>some .ret
 | some (.exit i)=>some (.exit i)
 | _=>none

noncomputable def rangeF (E : Env) (ex : Exe) (lo : Nat) (ro : Option Nat) (f : Operand) (ps : Array Tmp) (assign body : Code) (s : St) : Option (Ex × St) :=
 match evA s.T f with
 | .func (.func g) a c =>
  match (match ro with
   | none=>some (s.n :: s.D,s.n + 1,s.H.set s.n .deferred)
   | some l0=>match s.H.get l0 with | some (.loop _)=>some (s.D,s.n,s.H) | _=>none) with
  | some (D,l,H) =>
   match callF E ex lo g (a ++ #[.func (.yield l) #[] #[]] ++ c) (H.set l (.loop { state:=.ready,pending:=none,fn:=0,tmps:=slotsOf s.T s.sz,params:=ps,assign:=assign,body:=body,defers:=0 })) (l + 1) with
   | some (_,H',n')=>match H'.get l with
    | some (.loop r)=>if r.state = .busy then none else match exOf r.pending with
     | some e=>some (e,⟨s.T,s.sz,D,H'.set l (.loop { r with state:=.exhausted }),n'⟩)
     | none=>none
    | _=>none
   | none=>none
  | none=>none
 | _=>none

noncomputable def seqX (ex : Exe) (lo : Nat) (ro : Option Nat) (b : Code) (x : Option (Ex × St)) : Option (Ex × St):=match x with
 | some (.normal,s1)=>ex lo ro b s1
 | r=>r
noncomputable def blockX (id : Nat) (x : Option (Ex × St)) : Option (Ex × St):=match x with
 | some (.exit j,s1)=>some (Bool.rec (.exit j) .normal (Nat.beq j id),s1)
 | r=>r
noncomputable def condX (ex : Exe) (lo : Nat) (ro : Option Nat) (a b : Code) (v : Value) (s : St) : Option (Ex × St):=match v with
 | .bool t=>ex lo ro (Bool.rec b a t) s
 | _=>none
noncomputable def doneX (x : Option St) : Option (Ex × St):=match x with
 | some s=>some (.normal,s)
 | none=>none
noncomputable def regX (E : Env) (ex : Exe) (lo : Nat) (ops : Array Oper) (draw : Bool) (s : St) : Option (Ex × St):=match s with
 | ⟨T,sz,D,H,n⟩=>doneX (Bool.rec (runOps E ex lo ops ops.toList T sz D H n) (runDraw E ex lo ops (Region.before ops) ops.toList 0 T sz D H n [] []) draw)

noncomputable def stepX (E : Env) (ex : Exe) (lo : Nat) (ro : Option Nat) (c : Code) (s : St) : Option (Ex × St) :=
 match c with
 | .skip=>some (.normal,s)
 | .label _=>some (.normal,s)
 | .region _ ops draw=>regX E ex lo ops draw s
 | .seq a b=>seqX ex lo ro b (ex lo ro a s)
 | .cond c a b=>condX ex lo ro a b (evA s.T c) s
 | .block id c=>blockX id (ex lo ro c s)
 | .loop c=>seqX ex lo ro (.loop c) (ex lo ro c s)
 | .exit id=>some (.exit id,s)
 | .ret=>some (.ret,s)
 | .rangeFunc f ps assign body=>rangeF E ex lo ro f ps assign body s
 | _=>none

noncomputable def exec (E : Env) (k : Nat) : Exe:=Nat.rec (fun _ _ _ _=>none) (fun _ ih=>stepX E ih) k
end Go.Proofs.Ytkjceegmmhnajaa

namespace Go.Proofs.Ytkjceegmmhnajaa
open Go.RowKit

def Fw (ro : Option Nat) : Fence:={ fn:=fun _=>True,depth:=none,alive:=false,round:=ro }

section loops
variable {F : Fence} {P : Program} {c : Code} {Q : Exit → Act → World → Prop} {a : Act} {w : World}

def LoopOK (F : Fence) (P : Program) (c : Code) (Q : Exit → Act → World → Prop) (a : Act) (w : World) : Prop :=
 ∀ (b : Frame) (k : List Item) (cs : List Frame),b.roundOf = F.round → F.fn b.fn → F.room (cs.length + 1 + 0) →
  ∃ e a' w',Q e a' w' ∧ ArrivesIn (Machine.fenced P F) P (lone (b.atR a (.code c :: .inLoop c :: k)) cs w) b k cs e a' w'

theorem loopOK_wp (h : LoopOK F P c Q a w) : (Code.loop c).wpIn F 0 P Q a w:=fun b k cs hro hb hr=>by
 obtain ⟨e,a',w',hq,harr⟩:=h b k cs hro hb hr
 exact ⟨e,a',w',hq, .of_steps (.one (fenced_calm hb hr rfl) stepR_loop) harr⟩

theorem loopOK_step (h : c.wpIn F 0 P (Exit.then (LoopOK F P c Q) Q) a w) : LoopOK F P c Q a w:=fun b k cs hro hb hr=>by
 obtain ⟨e,a₁,w₁,hq,harr⟩:=h b (.inLoop c :: k) cs hro hb hr
 cases e with
 | normal =>
  obtain ⟨e₂,a₂,w₂,hq₂,harr₂⟩:=hq b k cs hro hb hr
  exact ⟨e₂,a₂,w₂,hq₂, .of_steps (StepsIn.trans harr (.one (fenced_calm hb hr rfl) stepR_inLoop)) harr₂⟩
 | exit id=>exact ⟨_,a₁,w₁,hq, .pass (x:=.inLoop c) rfl (fun _ _=>.inl (by simp)) harr⟩
 | goto l=>exact ⟨_,a₁,w₁,hq, .pass (x:=.inLoop c) rfl (fun _ _=>.inl (by simp)) harr⟩
 | ret=>exact ⟨_,a₁,w₁,hq, .pass (x:=.inLoop c) rfl (fun _ _=>.inl (by simp)) harr⟩
 | panic ch=>exact ⟨_,a₁,w₁,hq, .pass (x:=.inLoop c) rfl (fun _ _=>.inl (by simp)) harr⟩
 | outgrown=>exact ⟨_,a₁,w₁,hq, .pass (x:=.inLoop c) rfl (fun _ _=>.inl (by simp)) harr⟩
end loops

def wpX (P : Program) (ro : Option Nat) (c : Code) (Q : Exit → Act → World → Prop) (a : Act) (w : World) : Prop :=
 match c with
 | .loop c'=>LoopOK (Fw ro) P c' Q a w
 | c=>c.wpIn (Fw ro) 0 P Q a w

theorem wpX_wp {P : Program} {ro : Option Nat} {c : Code} {Q : Exit → Act → World → Prop} {a : Act} {w : World} (h : wpX P ro c Q a w) : c.wpIn (Fw ro) 0 P Q a w:=by
 cases c with
 | loop c'=>exact loopOK_wp h
 | _=>exact h

section
variable {p q : Nat → Option (Nat × Nat)}
def DR (p : Nat → Option (Nat × Nat)) : List Nat → List Deferred → Prop
 | [],[]=>True
 | i :: D,d :: ds=>(∃ b k,p i = some (b,k) ∧ d = { target:=.collected b,args:=#[] }) ∧ DR p D ds
 | _,_=>False
theorem DR.mono (hq : ∀ i b,p i = some b → q i = some b) : ∀ (D : List Nat) (ds : List Deferred),DR p D ds → DR q D ds
 | [],[],_=>trivial
 | [],_ :: _,h=>h.elim
 | _ :: _,[],h=>h.elim
 | i :: D,d :: ds,⟨⟨b,k,h1,h2⟩,h3⟩=>⟨⟨b,k,hq _ _ h1,h2⟩,DR.mono hq D ds h3⟩

structure TR (p : Nat → Option (Nat × Nat)) (T : Tr Value) (sz : Nat) (tm : Array Value) : Prop where
 size : tm.size = sz
 get : ∀ i,VR p (tget T i) (tm.getD i undef)
theorem TR.mono (hq : ∀ i b,p i = some b → q i = some b) {T : Tr Value} {sz : Nat} {tm : Array Value} (h : TR p T sz tm) : TR q T sz tm:=⟨h.size,fun i=>(h.get i).mono hq⟩

structure SR (p : Nat → Option (Nat × Nat)) (s : St) (a : Act) : Prop where
 t : TR p s.T s.sz a.tmps
 d : DR p s.D a.defers
theorem SR.mono (hq : ∀ i b,p i = some b → q i = some b) {s : St} {a : Act} (h : SR p s a) : SR q s a:=⟨h.t.mono hq,h.d.mono hq⟩

def ROR (p : Nat → Option (Nat × Nat)) : Option Nat → Option Nat → Prop
 | none,none=>True
 | some l,some lc=>∃ k,p l = some (lc,k)
 | _,_=>False
theorem ROR.mono (hq : ∀ i b,p i = some b → q i = some b) : ∀ {r rc : Option Nat},ROR p r rc → ROR q r rc
 | none,none,_=>trivial
 | some _,some _,⟨k,h⟩=>⟨k,hq _ _ h⟩
 | none,some _,h=>h.elim
 | some _,none,h=>h.elim

theorem evA_ok {T : Tr Value} {sz : Nat} {a : Act} (h : TR p T sz a.tmps) (x : Operand) (hx : operandOk x = true) : VR p (evA T x) (a.eval x):=by
 cases x with
 | tmp t=>exact h.get t
 | const v=>exact VR.of_ground p 2 v hx
 | global g=>simp [operandOk] at hx
 | func f=>exact .func f rfl rfl (fun i=>by simpa using VR.und p) (fun i=>by simpa using VR.und p)

theorem tget_set (T : Tr Value) (d : Nat) (v : Value) (i : Nat) : tget (T.set d v) i = if i = d then v else tget T i:=by
 unfold tget
 rw [Tr.get_set]
 by_cases h : i = d
 ·simp [h]
 ·simp [h]

theorem aPut_ok {T T' : Tr Value} {sz : Nat} {a : Act} (h : TR p T sz a.tmps) {dst : Option Nat} {v v' : Value} (hp : aPut T sz dst v = some T') (hv : VR p v v') : TR p T' sz (a.put dst v').tmps:=by
 cases dst with
 | none=>cases hp; exact h
 | some d =>
  unfold aPut at hp
  dsimp only at hp
  cases hlt : Nat.blt d sz with
  | false=>rw [hlt] at hp; cases hp
  | true =>
   rw [hlt] at hp
   cases hp
   have hd : d < a.tmps.size:=by rw [h.size]; simp [Nat.blt] at hlt; omega
   refine ⟨by simp [Act.put,h.size],fun i=>?_⟩
   rw [tget_set]
   simp only [Act.put]
   by_cases hi : i = d
   ·subst hi
    simp only [if_true]
    rw [Array.getD_eq_getD_getElem?,Array.getElem?_setIfInBounds_self_of_lt hd]
    exact hv
   ·rw [if_neg hi,Array.getD_eq_getD_getElem?,Array.getElem?_setIfInBounds_ne (Ne.symm hi),← Array.getD_eq_getD_getElem?]
    exact h.get i

theorem aYield_ok {ops : Array Oper} {T : Tr Value} {sz : Nat} {a : Act} (h : TR p T sz a.tmps) (j : Nat) : yielded ops a.tmps j = aYield ops T j:=by
 unfold yielded aYield
 rw [getQ_eq]
 have : ops.toList[j]? = ops[j]?:=by simp
 rw [this]
 cases ops[j]? with
 | none=>rfl
 | some o =>
  simp only [Option.bind_some]
  cases o.dst with
  | none=>rfl
  | some t =>
   simp only [Option.bind_some]
   have hv:=h.get t
   by_cases ht : t < a.tmps.size
   ·have e1 : a.tmps.getD t undef = a.tmps[t]:=by simp [Array.getD,ht]
    rw [e1] at hv
    have e2 : a.tmps[t]? = some a.tmps[t]:=Array.getElem?_eq_getElem ht
    rw [e2]
    generalize a.tmps[t] = u at hv
    generalize tget T t = x at hv
    cases hv <;> rfl
   ·have e1 : a.tmps.getD t undef = undef:=by simp [Array.getD,ht]
    rw [e1] at hv
    rw [Array.getElem?_eq_none (Nat.le_of_not_lt ht)]
    generalize hx : tget T t = x at hv
    generalize hu : undef = u at hv
    cases hv <;> first | rfl | (simp [undef] at hu; done)

theorem aWanted_ok {ops : Array Oper} {T : Tr Value} {sz : Nat} {a : Act} (h : TR p T sz a.tmps) (o : Oper) : Region.wanted o (yielded ops a.tmps) = aWanted ops T o:=by
 unfold Region.wanted aWanted
 cases o.guard with
 | none=>rfl
 | some g =>
  obtain ⟨j,want⟩:=g
  simp only
  rw [aYield_ok h]
  cases aYield ops T j with
  | none=>rfl
  | some b=>cases b <;> cases want <;> rfl
end

def Wf (H : Tr AO) (n : Nat) : Prop:=∀ i,n ≤ i → H.get i = none
theorem Wf.up {lo : Nat} {H H' : Tr AO} {n n' : Nat} (h : Wf H n) (m : Mo lo H H' n n') : Wf H' n':=fun i hi=>m.gone i (by omega) (h i (by have:=m.le; omega))

/-! ### a function's end -/
section
variable {P : Program} {tv : Nat → Option TV} {p : Nat → Option (Nat × Nat)} {E : Env} {lb : Nat} {B : Base E lb} {w0 w : World} {h : Hp}

theorem HR.kill (hr : HR B w0 p h w) {w' : World} {i b k : Nat} {x : AO} (hi : h i = some x) (hb : p i = some (b,k)) (hli : lb ≤ i)
  (hs : w'.heap.size = w.heap.size) (hsame : ∀ k,k ≠ b → w'.heap[k]? = w.heap[k]?) (h1 : w'.os = w.os) (h2 : w'.tape = w.tape) (h3 : w'.output = w.output) :
  HR B w0 p (fun j=>if j = i then none else h j) w':=by
 obtain ⟨b',kk,x',k1,k2,_,_⟩:=hr.ob i x hi
 rw [hb] at k1; cases k1
 have k2' : B.n ≤ b:=by have:=B.le; omega
 refine ⟨hr.hB,hr.low.trans ⟨h1,h2,h3,by omega,fun k hk=>hsame k (by omega)⟩,hr.pin,fun j y hj=>?_,fun j l c m m' hj hk e1 e2=>?_⟩
 ·by_cases e : j = i
  ·simp [e] at hj
  ·rw [if_neg e] at hj
   obtain ⟨c,m,y',g1,g2,g3,g4⟩:=hr.ob j y hj
   refine ⟨c,m,y',g1,g2,?_,g4⟩
   rw [hsame c]; exact g3
   intro ec; subst ec
   exact e (hr.inj j i c m k (by simp [hj]) (by simp [hi]) g1 hb)
 ·have up : ∀ j,((fun j=>if j = i then none else h j) j).isSome = true → (h j).isSome = true:=fun j hj=>by
   by_cases e : j = i
   ·simp [e] at hj
   ·simpa [e] using hj
  exact hr.inj j l c m m' (up j hj) (up l hk) e1 e2

def resSem (tm : Array Value) (x : ResultVar) : Sem Value:=match x with | .tmp t=>pure (tm.getD t undef) | .cell a t=>do loadVar t (← asAddr (tm.getD a undef))
theorem results_eq (fn : Func) (tm : Array Value) : results fn tm = (do let vs ← fn.results.mapM (resSem tm); pure (if h : vs.size = 1 then vs[0] else .tuple vs)):=by
 unfold results
 congr 1

theorem aResult_ok (hT : TvOk P tv) (hr : HR B w0 p h w) {T : Tr Value} {sz : Nat} {tm : Array Value} (ht : TR p T sz tm) {H : Tr AO} (hs : Sub H h) {x : ResultVar} {v : Value} (hx : aResult tv T H x = some v) :
  ∃ v',(resSem tm x).run P w = .ok v' w ∧ VR p v v':=by
 cases x with
 | tmp t=>cases hx; exact ⟨_,rfl,ht.get t⟩
 | cell a t =>
  have hl : aLoad tv t (tget T a) H = some v:=hx
  have hva:=ht.get a
  obtain ⟨v',h1,h2⟩:=aLoad_ok hT hr (H:=H) (fun b o e y hb=>hs b y hb) hva hl
  refine ⟨v',?_,h2⟩
  unfold aLoad at hl
  split at hl
  ·rename_i b o hb
   rw [hb] at hva
   obtain ⟨b',k,e,_⟩:=hva.ptr_inv
   rw [e] at h1
   unfold resSem
   dsimp only
   rw [e]
   simpa [Instr.loadAt,Instr.sureAddr,asAddr] using h1
  ·cases hl

theorem aResults_ok (hT : TvOk P tv) (hr : HR B w0 p h w) {T : Tr Value} {sz : Nat} {tm : Array Value} (ht : TR p T sz tm) {H : Tr AO} (hs : Sub H h) : ∀ (l : List ResultVar) (vs : List Value),aResults tv T H l = some vs →
  ∃ vs' : List Value,(l.mapM (resSem tm)).run P w = .ok vs' w ∧ vs.length = vs'.length ∧ ∀ (i : Nat) (v v' : Value),vs[i]? = some v → vs'[i]? = some v' → VR p v v'
 | [],vs,hl=>by cases hl; exact ⟨[],by simp,rfl,fun i v v' hv=>by simp at hv⟩
 | x :: l,vs,hl=>by
  change (match aResult tv T H x,aResults tv T H l with
   | some v,some r=>some (v :: r)
   | _,_=>none) = some vs at hl
  split at hl
  ·rename_i v r h1 h2
   cases hl
   obtain ⟨v',hv',hvr⟩:=aResult_ok hT hr ht hs h1
   obtain ⟨vs',hvs',hlen,hall⟩:=aResults_ok hT hr ht hs l r h2
   refine ⟨v' :: vs',?_,by simp [hlen],fun i u u' hu hu'=>?_⟩
   ·rw [List.mapM_cons,Sem.run_bind,hv']
    simp only [Result.andThen_ok,Sem.run_bind,hvs',Sem.run_pure]
   ·cases i with
    | zero=>simp at hu hu'; subst hu; subst hu'; exact hvr
    | succ i=>exact hall i u u' (by simpa using hu) (by simpa using hu')
  ·cases hl

theorem results_ok (hT : TvOk P tv) (hr : HR B w0 p h w) {T : Tr Value} {sz : Nat} {tm : Array Value} (ht : TR p T sz tm) {H : Tr AO} (hs : Sub H h) {fn : Func} {l : List ResultVar} (hl : fn.results.toList = l) {vs : List Value} (hv : aResults tv T H l = some vs) :
  ∃ v',(results fn tm).run P w = .ok v' w ∧ VR p (tupled vs) v':=by
 obtain ⟨vs',h1,h2,h3⟩:=aResults_ok hT hr ht hs l vs hv
 have hrun : (results fn tm).run P w = .ok (if h : vs'.toArray.size = 1 then vs'.toArray[0] else .tuple vs'.toArray) w:=by
  rw [results_eq,Array.mapM_eq_mapM_toList,hl]
  simp only [Sem.run_bind,Sem.run_map]
  have h1':=h1
  rw [h1']
  simp only [Result.andThen_ok,Sem.run_pure]
 refine ⟨_,hrun,?_⟩
 match vs,vs',h2,h3 with
 | [v],[v'],_,h3=>simpa [tupled] using h3 0 v v' rfl rfl
 | [],[],_,h3=>exact .tuple rfl (fun i hi=>by simp at hi)
 | v :: u :: r,v' :: u' :: r',h2,h3 =>
  simp only [tupled]
  rw [dif_neg (by simp)]
  have : AR p ⟨v :: u :: r⟩ ⟨v' :: u' :: r'⟩:=AR.of_get (by simpa using h2) fun i x x' hx hx'=>h3 i x x' (by simpa using hx) (by simpa using hx')
  exact .tuple this.1 (fun i _=>this.2 i)

theorem undefer_get {lo : Nat} : ∀ (D : List Nat) (H H1 : Tr AO),undefer lo D H = some H1 → (∀ j ∈ D,lo ≤ j ∧ H.get j = some .deferred) ∧ ∀ j,H1.get j = if j ∈ D then none else H.get j
 | [],H,H1,hd=>by cases hd; exact ⟨fun j hj=>by simp at hj,fun j=>by simp⟩
 | i :: D,H,H1,hd=>by
  change (match H.get i with
   | some .deferred=>Bool.rec none (undefer lo D (H.del i)) (Nat.ble lo i)
   | _=>none) = some H1 at hd
  split at hd
  ·rename_i hi
   cases e : Nat.ble lo i with
   | false=>rw [e] at hd; cases hd
   | true =>
    rw [e] at hd
    obtain ⟨g1,g2⟩:=undefer_get D _ H1 hd
    refine ⟨fun j hj=>?_,fun j=>?_⟩
    ·rcases List.mem_cons.1 hj with rfl | hj
     ·exact ⟨Nat.le_of_ble_eq_true e,hi⟩
     ·obtain ⟨k1,k2⟩:=g1 j hj
      rw [Tr.get_del] at k2
      split at k2
      ·cases k2
      ·exact ⟨k1,k2⟩
    ·rw [g2,Tr.get_del]
     by_cases e1 : j ∈ D
     ·simp [e1]
     ·by_cases e2 : j = i
      ·simp [e2]
      ·simp [e1,e2]
  ·cases hd

theorem leaves_ok (hT : TvOk P tv) {fn : Func} {l : List ResultVar} (hl : fn.results.toList = l) {R : Ending → World → Prop} {ro : Option Nat} {T : Tr Value} {sz : Nat} {tm : Array Value} (ht : TR p T sz tm) {vs : List Value} :
  ∀ (D : List Nat) (ds : List Deferred) (H H1 : Tr AO) (h : Hp) (w : World),DR p D ds → undefer lb D H = some H1 → aResults tv T H1 l = some vs → Sub H h → HR B w0 p h w →
   (∀ v' w',VR p (tupled vs) v' → HR B w0 p (fun j=>if j ∈ D then none else h j) w' → R (.returned v') w') → LeavesInM (Fw ro) 0 P fn tm R ds .returning w
 | [],[],H,H1,h,w,_,hu,hv,hs,hr,hR=>by
  cases hu
  obtain ⟨v',h1,h2⟩:=results_ok hT hr ht hs hl hv
  exact ⟨v',h1,hR v' w h2 (by simpa using hr)⟩
 | [],_ :: _,_,_,_,_,hd,_,_,_,_,_=>hd.elim
 | _ :: _,[],_,_,_,_,hd,_,_,_,_,_=>hd.elim
 | i :: D,d :: ds,H,H1,h,w,hd,hu,hv,hs,hr,hR=>by
  obtain ⟨⟨b,k,hb,rfl⟩,hd⟩:=hd
  change (match H.get i with
   | some .deferred=>Bool.rec none (undefer lb D (H.del i)) (Nat.ble lb i)
   | _=>none) = some H1 at hu
  split at hu
  ·rename_i hi
   cases e : Nat.ble lb i with
   | false=>rw [e] at hu; cases hu
   | true =>
    rw [e] at hu
    have hhi:=hs i _ hi
    obtain ⟨b',k',o',g1,_,g3,g4⟩:=hr.ob i _ hhi
    rw [hb] at g1; cases g1
    cases o' with
    | deferred x =>
     have hx : x = some []:=g4
     subst hx
     have hlt : b < w.heap.size:=(Array.getElem?_eq_some_iff.1 g3).1
     refine ⟨by simp, .inl ⟨b,_,rfl,run_takeDeferred g3,?_⟩⟩
     have hr':=hr.kill (w':=w.putObj b (.deferred none)) hhi hb (Nat.le_of_ble_eq_true e) (by simp) (fun k hk=>World.putObj_heap_other hk) rfl rfl rfl
     refine leaves_ok hT hl ht D ds _ H1 _ _ hd hu hv (fun j x hj=>?_) hr' (fun v' w' h1 h2=>hR v' w' h1 (h2.sub fun j x hj=>?_))
     ·rw [Tr.get_del] at hj
      by_cases e2 : j = i
      ·simp [e2] at hj
      ·rw [if_neg e2] at hj ⊢; exact hs j x hj
     ·by_cases e2 : j = i
      ·simp [e2] at hj
      ·by_cases e3 : j ∈ D
       ·simp [e3] at hj
       ·simpa [e2,e3] using hj
    | _=>exact g4.elim
  ·cases hu
end
end Go.Proofs.Ytkjceegmmhnajaa

namespace Go.Proofs.Ytkjceegmmhnajaa
open Go.RowKit

structure Sound (E : Env) (ex : Exe) : Prop where
 mo : ∀ {lo : Nat} {ro : Option Nat} {c : Code} {s s' : St} {e : Ex},ex lo ro c s = some (e,s') → lo ≤ s.n → Wf s.H s.n → Mo lo s.H s'.H s.n s'.n ∧ s'.sz = s.sz
 ok : ∀ {lo : Nat} {ro : Option Nat} {c : Code} {s s' : St} {e : Ex},ex lo ro c s = some (e,s') → ck c = true → lo ≤ s.n → Wf s.H s.n →
  ∀ {B : Base E lo} {w0 : World} {p : Nat → Option (Nat × Nat)} {h : Hp} {w : World} {a : Act} {roc : Option Nat} {Q : Exit → Act → World → Prop},Sub s.H h → Fresh p s.n s'.n → HR B w0 p h w → SR p s a → ROR p ro roc →
   (∀ a' w' q,Ext p q s.n s'.n → HR B w0 q (upH h s.H s'.H s.n s'.n) w' → SR q s' a' → Q e.conc a' w') → wpX E.P roc c Q a w

theorem TR_init {p : Nat → Option (Nat × Nat)} {args args' : Array Value} (h : AR p args args') {nt : Nat} (hn : args.size ≤ nt) : TR p (Tr.ofList args.toList 0 .e) nt (args' ++ Array.replicate (nt - args'.size) undef):=by
 have hs:=h.1
 refine ⟨by simp; omega,fun i=>?_⟩
 have hg : tget (Tr.ofList args.toList 0 .e) i = args.getD i undef:=by
  unfold tget
  rw [Tr.get_ofList]
  by_cases hi : i < args.size
  ·rw [if_pos (by simpa using hi)]
   simp [Array.getD,hi]
  ·rw [if_neg (by simpa using hi)]
   simp [Array.getD,hi,Tr.get_e]
 rw [hg]
 by_cases hi : i < args'.size
 ·have : (args' ++ Array.replicate (nt - args'.size) undef).getD i undef = args'.getD i undef:=by
   rw [Array.getD_eq_getD_getElem?,Array.getD_eq_getD_getElem?,Array.getElem?_append_left hi]
  rw [this]; exact h.2 i
 ·have e1 : (args' ++ Array.replicate (nt - args'.size) undef).getD i undef = undef:=by
   rw [Array.getD_eq_getD_getElem?,Array.getElem?_append_right (by omega),Array.getElem?_replicate]
   split <;> rfl
  have e2 : args.getD i undef = undef:=by simp [Array.getD,show ¬ i < args.size by omega]
  rw [e1,e2]; exact .und p

theorem gc_get (n : Nat) (H' : Tr AO) : ∀ (f : Nat) (l : List Nat) (H : Tr AO) (i : Nat),(gc n H' f l H).get i = H.get i ∨ (n ≤ i ∧ (gc n H' f l H).get i = H'.get i)
 | 0,l,H,i=>.inl rfl
 | f + 1,[],H,i=>.inl rfl
 | f + 1,j :: l,H,i=>by
  change (Bool.rec (match H.get j with
    | some _=>gc n H' f l H
    | none=>match H'.get j with
     | some (.cells c e sz)=>gc n H' f (c.toList.foldr (idsV 3) l) (H.set j (.cells c e sz))
     | some (.map es c)=>gc n H' f (es.foldr (fun e l=>idsV 3 e.2.1 l) l) (H.set j (.map es c))
     | _=>gc n H' f l H) (gc n H' f l H) (Nat.blt j n) : Tr AO).get i = H.get i ∨ (n ≤ i ∧ (Bool.rec (match H.get j with
    | some _=>gc n H' f l H
    | none=>match H'.get j with
     | some (.cells c e sz)=>gc n H' f (c.toList.foldr (idsV 3) l) (H.set j (.cells c e sz))
     | some (.map es c)=>gc n H' f (es.foldr (fun e l=>idsV 3 e.2.1 l) l) (H.set j (.map es c))
     | _=>gc n H' f l H) (gc n H' f l H) (Nat.blt j n) : Tr AO).get i = H'.get i)
  cases hb : Nat.blt j n with
  | true=>exact gc_get n H' f l H i
  | false =>
   dsimp only
   have hj : n ≤ j:=Nat.not_lt.1 fun hlt=>by rw [show Nat.blt j n = true from Nat.blt_eq.symm ▸ hlt] at hb; cases hb
   split
   ·exact gc_get n H' f l H i
   ·split
    ·rename_i c e sz hc
     rcases gc_get n H' f (c.toList.foldr (idsV 3) l) (H.set j (.cells c e sz)) i with h1 | h1
     ·rw [Tr.get_set] at h1
      by_cases e1 : i = j
      ·subst e1
       rw [if_pos rfl] at h1
       exact .inr ⟨hj,by rw [h1,hc]⟩
      ·rw [if_neg e1] at h1; exact .inl h1
     ·exact .inr h1
    ·rename_i es c hc
     rcases gc_get n H' f (es.foldr (fun e l=>idsV 3 e.2.1 l) l) (H.set j (.map es c)) i with h1 | h1
     ·rw [Tr.get_set] at h1
      by_cases e1 : i = j
      ·subst e1
       rw [if_pos rfl] at h1
       exact .inr ⟨hj,by rw [h1,hc]⟩
      ·rw [if_neg e1] at h1; exact .inl h1
     ·exact .inr h1
    ·exact gc_get n H' f l H i

noncomputable def loOf (wr : Bool) (lo n : Nat) : Nat:=Bool.rec n lo wr

theorem callB_ok {E : Env} {ex : Exe} (hE : EnvOk E) (hs : Sound E ex) {lo g : Nat} {args : Array Value} {H H' : Tr AO} {n n' : Nat} {v : Value} (hc : callB E ex lo g args H n = some (v,H',n')) (hlo : lo ≤ n) (hwf : Wf H n) :
  Mo lo H H' n n' ∧ ∀ {B : Base E lo} {w0 : World} {p : Nat → Option (Nat × Nat)} {h : Hp} {w : World} {args' : Array Value} {R : Ending → World → Prop} {ro : Option Nat},Sub H h → Fresh p n n' → HR B w0 p h w → AR p args args' →
   (∀ v' w' q,VR q v v' → Ext p q n n' → HR B w0 q (upH h H H' n n') w' → R (.returned v') w') → CallsIn (Fw ro) 0 E.P g args' w R:=by
 unfold callB at hc
 split at hc
 ·cases hc
 rename_i body ntmps results wr hg
 cases hsz : Nat.ble (sizeQ args) ntmps with
 | false=>rw [hsz] at hc; cases hc
 | true =>
 rw [hsz] at hc
 dsimp only at hc
 have hsz : args.size ≤ ntmps:=by rw [← sizeQ_eq]; exact Nat.le_of_ble_eq_true hsz
 obtain ⟨e,s,hex,he,hl⟩ : ∃ e s,ex (loOf wr lo n) none body ⟨Tr.ofList args.toList 0 .e,ntmps,[],H,n⟩ = some (e,s) ∧ (e = .normal ∨ e = .ret) ∧ leave E.tv (loOf wr lo n) wr results H n s = some (v,H',n'):=by
  split at hc
  ·exact ⟨_,_,by assumption, .inl rfl,hc⟩
  ·exact ⟨_,_,by assumption, .inr rfl,hc⟩
  ·cases hc
 have hlo1 : loOf wr lo n ≤ n:=by cases wr; exact Nat.le_refl _; exact hlo
 have hlo2 : lo ≤ loOf wr lo n:=by cases wr; exact hlo; exact Nat.le_refl _
 obtain ⟨hmo,hszs⟩:=hs.mo hex hlo1 hwf
 dsimp only at hmo hszs
 obtain ⟨T,sz,D,H1,n1⟩:=s
 unfold leave at hl
 dsimp only at hl hmo hszs
 split at hl
 case h_2=>cases hl
 rename_i H2 hud
 split at hl
 case h_2=>cases hl
 rename_i vs hres
 obtain ⟨u1,u2⟩:=undefer_get D H1 H2 hud
 have hmo2 : Mo (loOf wr lo n) H H2 n n1:=⟨hmo.le,fun i hi h0=>by rw [u2]; split; rfl; exact hmo.gone i hi h0,fun i hi=>by
  rw [u2,if_neg]
  ·exact hmo.keep i hi
  ·intro hd; have:=(u1 i hd).1; omega⟩
 have key : ∃ Hr,(v,H',n') = (tupled vs,Hr,n1) ∧ Mo lo H Hr n n1 ∧ (∀ i x,Hr.get i = some x → H2.get i = some x ∨ (i < loOf wr lo n ∧ H.get i = some x)):=by
  cases wr with
  | true=>cases hl; exact ⟨_,rfl,hmo2,fun i x hx=>.inl hx⟩
  | false =>
   cases hgr : isGround (tupled vs) with
   | true =>
    rw [hgr] at hl; cases hl
    refine ⟨_,rfl,⟨hmo.le,fun i _ h0=>h0,fun i _=>rfl⟩,fun i x hx=>.inr ⟨?_,hx⟩⟩
    show i < n
    rcases Nat.lt_or_ge i n with h | h
    ·exact h
    ·rw [hwf i h] at hx; cases hx
   | false =>
    rw [hgr] at hl; cases hl
    refine ⟨_,rfl,⟨hmo.le,fun i hi h0=>?_,fun i hi=>?_⟩,fun i x hx=>?_⟩
    ·rcases gc_get n H2 100000 (idsV 4 (tupled vs) []) H i with h1 | ⟨_,h1⟩
     ·rw [h1]; exact h0
     ·rw [h1]; exact hmo2.gone i hi h0
    ·rcases gc_get n H2 100000 (idsV 4 (tupled vs) []) H i with h1 | ⟨h2,h1⟩
     ·exact h1
     ·omega
    ·rcases gc_get n H2 100000 (idsV 4 (tupled vs) []) H i with h1 | ⟨h2,h1⟩
     ·rw [h1] at hx
      refine .inr ⟨?_,hx⟩
      show i < n
      rcases Nat.lt_or_ge i n with h | h
      ·exact h
      ·rw [hwf i h] at hx; cases hx
     ·rw [h1] at hx; exact .inl hx
 obtain ⟨Hr,heq,hmor,hsubr⟩:=key
 cases heq
 refine ⟨hmor,?_⟩
 intro B w0 p h w args' R ro hsub hfr hr har hR
 obtain ⟨fn,f1,f2,f3,f4,f5,f6⟩:=hE.fns g _ hg
 dsimp only at f2 f3 f4 f5
 have hwp : body.wpIn (Fw none) 0 E.P (bodyPostM (Fw none) 0 E.P fn R) { tmps:=args' ++ Array.replicate (fn.ntmps - args'.size) undef,defers:=[] } w:=by
  refine wpX_wp (hs.ok hex f5 hlo1 hwf (p:=p) (h:=h) (B:=B.up hlo2) (w0:=w0) hsub hfr (hr.up hlo2) ⟨by rw [f3]; exact TR_init har hsz,trivial⟩ (by exact trivial) ?_)
  intro a' w' q hx hr' hsr
  have hfin : LeavesInM (Fw none) 0 E.P fn a'.tmps R a'.defers .returning w':=by
   refine leaves_ok hE.tv f4 hsr.t D a'.defers H1 H2 _ w' hsr.d hud hres (Sub.up hsub hmo) hr' (fun v' w'' hv hr''=>hR v' w'' q hv hx (hr''.down.sub fun i x hi=>?_))
   unfold upH at hi
   split at hi
   ·rename_i hcond
    have : i ∉ D ∧ H1.get i = some x:=by
     rcases hsubr i x hi with h1 | ⟨h1,h2⟩
     ·rw [u2] at h1
      split at h1
      ·cases h1
      ·exact ⟨by assumption,h1⟩
     ·refine ⟨fun hd=>?_,?_⟩
      ·have:=(u1 i hd).1; omega
      ·rw [hmo.keep i h1]; exact h2
    rw [if_neg this.1]
    unfold upH
    rw [if_pos hcond]; exact this.2
   ·rename_i hcond
    simp only [Bool.or_eq_true,Bool.and_eq_true,decide_eq_true_eq,not_or] at hcond
    have h0 : H.get i = none:=by cases e : H.get i with | none=>rfl | some o=>simp [e] at hcond
    have hnd : i ∉ D:=fun hd=>by
     have:=(u1 i hd).2
     rw [hmo.gone i hcond.2 h0] at this; cases this
    rw [if_neg hnd]
    unfold upH
    rw [if_neg (by simp only [Bool.or_eq_true,Bool.and_eq_true,decide_eq_true_eq,not_or]; exact hcond)]; exact hi
  rcases he with rfl | rfl
  ·exact hfin
  ·exact hfin
 exact callsIn_of_wp_marks (F:=Fw none) f1 f2 trivial hwp

theorem callF_ok {E : Env} {ex : Exe} (hE : EnvOk E) (hs : Sound E ex) {lo g : Nat} {args : Array Value} {H H' : Tr AO} {n n' : Nat} {v : Value} (hc : callF E ex lo g args H n = some (v,H',n')) (hlo : lo ≤ n) (hwf : Wf H n) :
  Mo lo H H' n n' ∧ ∀ {B : Base E lo} {w0 : World} {p : Nat → Option (Nat × Nat)} {h : Hp} {w : World} {args' : Array Value} {R : Ending → World → Prop} {ro : Option Nat},Sub H h → Fresh p n n' → HR B w0 p h w → AR p args args' →
   (∀ v' w' q,VR q v v' → Ext p q n n' → HR B w0 q (upH h H H' n n') w' → R (.returned v') w') → CallsIn (Fw ro) 0 E.P g args' w R:=by
 unfold callF at hc
 cases he : E.extf g args H with
 | none =>
  rw [he] at hc
  dsimp only at hc
  cases hn0 : E.extn g args H n with
  | none =>
   rw [hn0] at hc
   exact callB_ok hE hs hc hlo hwf
  | some vo =>
  obtain ⟨v0,l⟩:=vo
  rw [hn0] at hc
  cases hc
  rw [lenQ_eq]
  refine ⟨Mo.newL _ _ _ _ hlo,?_⟩
  intro B w0 p h w args' R ro hsub hfr hr har hR
  have hpn : ∀ i,n ≤ i → i < n + l.length → p i = none:=hfr
  have hcall:=(hr.pin p (fun _ _ h=>h) g args args' H v w hr.low (fun i o hi=>by obtain ⟨b,k,o',h1,_,h2⟩:=hr.ob i o (hsub i o hi); exact ⟨b,k,o',h1,h2⟩) har).2.2 n l hpn hn0
  refine CallsIn.mono (F:=Fence.wide) hcall fun e w' hv=>?_
  obtain ⟨v',q,rfl,hv,hm⟩:=hv
  refine hR v' w' q hv ⟨hm.ext,hm.out⟩ ?_
  rw [upH_setL hsub]
  exact hr.newL hpn hm
 | some v0 =>
  rw [he] at hc
  cases hc
  refine ⟨Mo.refl _ _ _,?_⟩
  intro B w0 p h w args' R ro hsub hfr hr har hR
  have hcall:=(hr.pin p (fun _ _ h=>h) g args args' H v w hr.low (fun i o hi=>by obtain ⟨b,k,o',h1,_,h2⟩:=hr.ob i o (hsub i o hi); exact ⟨b,k,o',h1,h2⟩) har).2.1 he
  refine CallsIn.mono (F:=Fence.wide) hcall fun e w' hv=>?_
  obtain ⟨v',rfl,hv,hb⟩:=hv
  refine hR v' w' p hv (.refl _ _) ?_
  rw [upH_refl hsub]
  exact hr.later hb
theorem callF_fn {E : Env} {ex : Exe} (hE : EnvOk E) {lo g : Nat} {args : Array Value} {H : Tr AO} {n : Nat} {r : Value × Tr AO × Nat} (hc : callF E ex lo g args H n = some r) :
  ∃ fn c, E.P.funcs[g]? = some fn ∧ fn.body = some c ∧ (fn.name == "runtime.NumGoroutine") = false := by
 unfold callF at hc
 cases he : E.extf g args H with
 | some v0=>exact hE.ext g args H v0 he
 | none =>
  rw [he] at hc
  dsimp only at hc
  cases hn0 : E.extn g args H n with
  | some r0=>exact hE.extn g args H n r0 hn0
  | none =>
  rw [hn0] at hc
  dsimp only at hc
  unfold callB at hc
  cases e : E.fns g with
  | none=>rw [e] at hc; cases hc
  | some fi=>obtain ⟨fn,f1,f2,_,_,_,f6⟩:=hE.fns g fi e; exact ⟨fn,fi.body,f1,f2,f6⟩

theorem setParams_ar {p : Nat → Option (Nat × Nat)} : ∀ (ts : List Nat) (as as' : List Value) (T T' : Array Value),as.length = as'.length → (∀ (i : Nat) (v v' : Value),as[i]? = some v → as'[i]? = some v' → VR p v v') → AR p T T' → AR p (setParams ts as T) (setParams ts as' T')
 | [],as,as',T,T',_,_,h=>by cases as <;> cases as' <;> exact h
 | t :: ts,[],[],T,T',_,_,h=>h
 | t :: ts,[],_ :: _,T,T',hl,_,h=>by simp at hl
 | t :: ts,_ :: _,[],T,T',hl,_,h=>by simp at hl
 | t :: ts,a :: as,a' :: as',T,T',hl,hv,h =>
  setParams_ar ts as as' _ _ (by simpa using hl) (fun i v v' h1 h2=>hv (i + 1) v v' (by simpa using h1) (by simpa using h2)) (h.set (hv 0 a a' rfl rfl) t)
theorem setParams_eq : ∀ (ts : List Nat) (as : List Value) (T : Array Value),setParams ts as T = (ts.zip as).foldl (fun tmps (t,a)=>tmps.setIfInBounds t a) T
 | [],_,_=>by simp [setParams]
 | _ :: _,[],_=>by simp [setParams]
 | t :: ts,a :: as,T=>by rw [setParams,setParams_eq ts as]; simp
theorem setParams_size : ∀ (ts : List Nat) (as : List Value) (T : Array Value),(setParams ts as T).size = T.size
 | [],_,_=>by simp [setParams]
 | _ :: _,[],_=>by simp [setParams]
 | t :: ts,a :: as,T=>by rw [setParams,setParams_size ts as]; simp

theorem TR_of_ar {p : Nat → Option (Nat × Nat)} {a a' : Array Value} (h : AR p a a') : TR p (Tr.ofList a.toList 0 .e) a'.size a':=by
 have:=TR_init h (nt:=a'.size) (by rw [h.1]; exact Nat.le_refl _)
 simpa using this

theorem HR.loop {E : Env} {lb : Nat} {B : Base E lb} {w0 w : World} {p : Nat → Option (Nat × Nat)} {h : Hp} (hr : HR B w0 p h w) {i b k : Nat} {l : Loop} (hi : h i = some (.loop l)) (hb : p i = some (b,k)) :
  ∃ l',w.heap[b]? = some (.loop l') ∧ b < w.heap.size ∧ l'.state = l.state ∧ l'.pending = l.pending ∧ l'.params = l.params ∧ l'.assign = l.assign ∧ l'.body = l.body ∧ AR p l.tmps l'.tmps ∧ ck l.assign = true ∧ ck l.body = true:=by
 obtain ⟨b',k',o',h1,_,h3,h4⟩:=hr.ob i _ hi
 rw [hb] at h1; cases h1
 cases o' with
 | loop l'=>exact ⟨l',h3,(Array.getElem?_eq_some_iff.1 h3).1,h4⟩
 | _=>exact h4.elim

theorem HR.setLoop {E : Env} {lb : Nat} {B : Base E lb} {w0 w : World} {p : Nat → Option (Nat × Nat)} {h : Hp} (hr : HR B w0 p h w) {i b k : Nat} {l : Loop} {l' : Loop} {st : LoopState} {pe : Option Code} (hi : h i = some (.loop l)) (hb : p i = some (b,k)) (hli : lb ≤ i) (hl : w.heap[b]? = some (.loop l')) :
  HR B w0 p (fun j=>if j = i then some (.loop { l with state:=st,pending:=pe }) else h j) (w.putObj b (.loop { l' with state:=st,pending:=pe })):=by
 obtain ⟨l'',g1,g2,g3⟩:=hr.loop hi hb
 rw [hl] at g1; cases g1
 exact hr.put (o':=.loop { l' with state:=st,pending:=pe }) hi hb (by exact ⟨rfl,rfl,g3.2.2⟩) (by simp) (fun k hk=>World.putObj_heap_other hk) (World.putObj_heap_same g2) hli rfl rfl rfl
end Go.Proofs.Ytkjceegmmhnajaa

namespace Go.Proofs.Ytkjceegmmhnajaa
open Go.RowKit

theorem upH_one {h : Hp} {H : Tr AO} (hs : Sub H h) (n i : Nat) (o x : AO) (hi : H.get i = some x) : (fun j=>if j = i then some o else h j) = upH h H (H.set i o) n n:=(upH_set hs n i o x hi).symm

theorem roundF_ok {E : Env} {ex : Exe} (hE : EnvOk E) (hs : Sound E ex) {lo l : Nat} {args : Array Value} {H H' : Tr AO} {n n' : Nat} {v : Value} (hc : roundF ex lo l args H n = some (v,H',n')) (hlo : lo ≤ n) (hwf : Wf H n) :
  Mo lo H H' n n' ∧ ∀ {B : Base E lo} {w0 : World} {p : Nat → Option (Nat × Nat)} {h : Hp} {w : World} {args' : Array Value} {R : Ending → World → Prop} {ro : Option Nat} {lc k : Nat},Sub H h → Fresh p n n' → HR B w0 p h w → AR p args args' → p l = some (lc,k) →
   (∀ v' w' q,VR q v v' → Ext p q n n' → HR B w0 q (upH h H H' n n') w' → R (.returned v') w') →
   ∃ r',w.heap[lc]? = some (.loop r') ∧ args'.size = r'.params.size ∧ RoundIn (Fw ro) 0 E.P lc r'.fn ((r'.params.zip args').foldl (fun tmps (t,a)=>tmps.setIfInBounds t a) r'.tmps) r'.assign r'.body w R:=by
 unfold roundF at hc
 split at hc
 case isFalse=>cases hc
 rename_i hll
 split at hc
 case h_2=>cases hc
 rename_i r hHl
 split at hc
 case isFalse=>cases hc
 rename_i hsz
 split at hc
 case h_2=>cases hc
 rename_i s1 hex1
 split at hc
 case h_2=>cases hc
 rename_i r1 hHl1
 split at hc
 case isFalse=>cases hc
 rename_i hready
 split at hc
 case h_2=>cases hc
 rename_i e s2 hex2
 split at hc
 case h_2=>cases hc
 rename_i r2 hHl2
 cases hc
 obtain ⟨m1,z1⟩:=hs.mo hex1 hlo hwf
 dsimp only at m1 z1
 have hwf1:=hwf.up m1
 have hlo1 : lo ≤ s1.n:=Nat.le_trans hlo m1.le
 have m2 : Mo lo s1.H (s1.H.set l (.loop { r1 with state:=.busy })) s1.n s1.n:=Mo.set lo s1.H s1.n l _ _ hHl1 hll
 have hwf2:=hwf1.up m2
 obtain ⟨m3,z3⟩:=hs.mo hex2 hlo1 hwf2
 dsimp only at m3 z3
 have m4 : Mo lo s2.H (s2.H.set l (.loop { r2 with state:=if (jumpOf e).isNone then .ready else .done,pending:=jumpOf e })) s2.n s2.n:=Mo.set lo s2.H s2.n l _ _ hHl2 hll
 have mall:=((m1.trans m2).trans m3).trans m4
 refine ⟨mall,?_⟩
 intro B w0 p h w args' R ro lc k hsub hfr hr har hpl hR
 obtain ⟨r',g1,g2,g3,g4,g5,g6,g7,g8,g9,g10⟩:=hr.loop (hsub l _ hHl) hpl
 have hszs : args'.size = r'.params.size:=by rw [g5,← har.1]; exact hsz
 refine ⟨r',g1,hszs,?_⟩
 have htm : AR p (setParams r.params.toList args.toList r.tmps) ((r'.params.zip args').foldl (fun tmps (t,a)=>tmps.setIfInBounds t a) r'.tmps):=by
  have e1 : (r'.params.zip args').foldl (fun tmps (t,a)=>tmps.setIfInBounds t a) r'.tmps = setParams r.params.toList args'.toList r'.tmps:=by
   rw [setParams_eq,← Array.foldl_toList,Array.toList_zip,g5]
  rw [e1]
  exact setParams_ar _ _ _ _ _ (by simpa using har.1) (fun i x x' hx hx'=>by
   obtain ⟨u,hu,hvr⟩:=har.get i x (by simpa using hx)
   have : u = x':=by simp at hx'; rw [hx'] at hu; cases hu; rfl
   subst this; exact hvr) g8
 have hTR : TR p (Tr.ofList (setParams r.params.toList args.toList r.tmps).toList 0 .e) r.tmps.size ((r'.params.zip args').foldl (fun tmps (t,a)=>tmps.setIfInBounds t a) r'.tmps):=by
  have:=TR_of_ar htm
  rw [← htm.1,setParams_size] at this
  exact this
 rw [g6,g7]
 show RoundIn (Fw none) 0 E.P lc r'.fn _ r.assign r.body w R
 refine roundIn_of_wpIn (F:=Fw none) trivial ?_
 show r.assign.wpIn (Fw (some lc)) 0 E.P _ _ _
 have hfr1 : Fresh p n s1.n:=hfr.left (Nat.le_trans m3.le (Nat.le_refl _))
 refine wpX_wp (hs.ok hex1 g9 hlo hwf (p:=p) (h:=h) (B:=B) (w0:=w0) hsub hfr1 hr ⟨hTR,trivial⟩ (show ROR p (some l) (some lc) from ⟨k,hpl⟩) ?_)
 intro a1 w1 q1 hx1 hr1 hs1
 dsimp only at hx1 hr1
 have hsub1 : Sub s1.H (upH h H s1.H n s1.n):=Sub.up hsub m1
 have hpl1:=hx1.ext l _ hpl
 obtain ⟨b1,c1,c2,c3,c4,c5,c6,c7,c8,c9,c10⟩:=hr1.loop (hsub1 l _ hHl1) hpl1
 have hr2:=hr1.setLoop (st:=.busy) (pe:=r1.pending) (hsub1 l _ hHl1) hpl1 hll c1
 have hpend : b1.pending = r1.pending:=c4
 refine ⟨w1.putObj lc (.loop { b1 with state:=.busy }),run_beginRound c1 (by rw [c3]; exact hready),?_⟩
 have e2 : ({ b1 with state:=.busy,pending:=r1.pending } : Loop) = { b1 with state:=.busy }:=by rw [← hpend]
 rw [e2] at hr2
 rw [upH_one hsub1 s1.n l _ _ hHl1] at hr2
 have hsub2 : Sub (s1.H.set l (.loop { r1 with state:=.busy })) (upH (upH h H s1.H n s1.n) s1.H (s1.H.set l (.loop { r1 with state:=.busy })) s1.n s1.n):=Sub.up hsub1 m2
 have hfr2 : Fresh q1 s1.n s2.n:=hfr.right m1.le hx1
 show r.body.wpIn (Fw (some lc)) 0 E.P _ _ _
 refine wpX_wp (hs.ok hex2 g10 hlo1 hwf2 (p:=q1) (B:=B) (w0:=w0) hsub2 hfr2 hr2 ⟨hs1.t,hs1.d⟩ (show ROR q1 (some l) (some lc) from ⟨k,hpl1⟩) ?_)
 intro a2 w2 q2 hx2 hr3 hs2
 dsimp only at hx2 hr3
 have hsub3:=Sub.up hsub2 m3
 have hpl2:=hx2.ext l _ hpl1
 obtain ⟨b2,d1,d2,d3⟩:=hr3.loop (hsub3 l _ hHl2) hpl2
 have hr4:=hr3.setLoop (st:=if (jumpOf e).isNone then .ready else .done) (pe:=jumpOf e) (hsub3 l _ hHl2) hpl2 hll d1
 rw [upH_one hsub3 s2.n l _ _ hHl2,upH_trans m1 m2,upH_trans (m1.trans m2) m3,upH_trans ((m1.trans m2).trans m3) m4] at hr4
 have hx:=hx1.trans hx2 m1.le m3.le
 have hfin:=hR (.bool (jumpOf e).isNone) (w2.putObj lc (.loop { b2 with state:=if (jumpOf e).isNone then .ready else .done,pending:=jumpOf e })) q2 (.bool _) hx hr4
 have hend:=run_endRound (P:=E.P) (jumpOf e) d1
 cases e with
 | normal=>exact ⟨_,_,hend,hfin⟩
 | exit id=>exact ⟨_,_,hend,hfin⟩
 | ret=>exact ⟨_,_,hend,hfin⟩

theorem callV_ok {E : Env} {ex : Exe} (hE : EnvOk E) (hs : Sound E ex) {lo : Nat} {f : Value} {args : Array Value} {H H' : Tr AO} {n n' : Nat} {v : Value} (hc : callV E ex lo f args H n = some (v,H',n')) (hlo : lo ≤ n) (hwf : Wf H n) :
  Mo lo H H' n n' ∧ ∀ {B : Base E lo} {w0 : World} {p : Nat → Option (Nat × Nat)} {h : Hp} {w : World} {f' : Value} {args' : Array Value} {ro : Option Nat} {o : Oper} {a : Act} {K : Act → World → Prop} {Q : Exit → Act → World → Prop},Sub H h → Fresh p n n' → HR B w0 p h w → VR p f f' → AR p args args' →
   (∀ v' w' q,VR q v v' → Ext p q n n' → HR B w0 q (upH h H H' n n') w' → K (a.put o.dst v') w') →
   o.uponIn (Fw ro) 0 E.P a K Q ((do let d ← Deferred.ofValue f' args'; invoke d.target d.args : Sem Next).run E.P w):=by
 unfold callV at hc
 split at hc
 ·rename_i g a c
  obtain ⟨m,hcall⟩:=callF_ok hE hs hc hlo hwf
  refine ⟨m,?_⟩
  intro B w0 p h w f' args' ro o act K Q hsub hfr hr hf har hR
  obtain ⟨a',c',rfl,ha,hcc⟩ : ∃ a' c',f' = .func (.func g) a' c' ∧ AR p a a' ∧ AR p c c':=by
   cases hf with
   | func _ h1 h2 h3 h4=>exact ⟨_,_,rfl,⟨h1,h3⟩,⟨h2,h4⟩⟩
  obtain ⟨fn,_,f1,f2,f6⟩:=callF_fn hE hc
  have hrun : (do let d ← Deferred.ofValue (.func (.func g) a' c') args'; invoke d.target d.args : Sem Next).run E.P w = .ok (.enter g (a' ++ args' ++ c')) w:=by
   simp [Deferred.ofValue, invoke, callFunc, f1, f2, show ¬ fn.name = "runtime.NumGoroutine" from by simpa using f6]
  rw [hrun,catQ_eq,catQ_eq] at *
  refine ⟨by simp [Fw],?_⟩
  refine hcall hsub hfr hr ((ha.append har).append hcc) fun v' w' q hv hx hr'=>?_
  exact hR v' w' q hv hx hr'
 ·rename_i l a c
  cases hl0 : H.get l with
  | none =>
   rw [hl0] at hc
   dsimp only at hc
   cases hv0 : E.exty l args H with
   | none=>rw [hv0] at hc; cases hc
   | some v0 =>
   rw [hv0] at hc
   cases hc
   refine ⟨Mo.refl _ _ _,?_⟩
   intro B w0 p h w f' args' ro o act K Q hsub hfr hr hf har hR
   obtain ⟨l',k,rfl,hl⟩ : ∃ l' k,f' = .func (.yield l') #[] #[] ∧ p l = some (l',k):=by
    cases hf with
    | yield h1=>exact ⟨_,_,rfl,h1⟩
   obtain ⟨fn,tmps,assign,body,hy,hround⟩:=(hr.pin p (fun _ _ h=>h) l args args' H v w hr.low (fun i o hi=>by obtain ⟨b,k,o',h1,_,h2⟩:=hr.ob i o (hsub i o hi); exact ⟨b,k,o',h1,h2⟩) har).1 hv0 l' k hl
   have hrun : (do let d ← Deferred.ofValue (.func (.yield l') #[] #[]) args'; invoke d.target d.args : Sem Next).run E.P w = .ok (.round l' fn tmps assign body) w:=by
    simp only [Deferred.ofValue,invoke,Sem.run_bind,Sem.run_pure,Result.andThen_ok,Array.empty_append,hy]
   rw [hrun]
   refine ⟨by simp [Fw],?_⟩
   refine RoundIn.mono (F:=Fence.wide) hround fun e w' he=>?_
   obtain ⟨v',rfl,hv,hb⟩:=he
   refine hR v' w' p hv (.refl _ _) ?_
   rw [upH_refl hsub]
   exact hr.later hb
  | some y =>
  rw [hl0] at hc
  dsimp only at hc
  obtain ⟨m,hround⟩:=roundF_ok hE hs hc hlo hwf
  refine ⟨m,?_⟩
  intro B w0 p h w f' args' ro o act K Q hsub hfr hr hf har hR
  obtain ⟨l',k,rfl,hl⟩ : ∃ l' k,f' = .func (.yield l') #[] #[] ∧ p l = some (l',k):=by
   cases hf with
   | yield h1=>exact ⟨_,_,rfl,h1⟩
  obtain ⟨r',h1,h2,h3⟩:=hround (R:=fun
   | .returned v,w''=>K (act.put o.dst v) w''
   | .panicked chain,w''=>Q (.panic chain) act w''
   | .outgrown,_=>LetsOut Q) (ro:=ro) hsub hfr hr har hl (fun v' w' q hv hx hr'=>hR v' w' q hv hx hr')
  have hrun : (do let d ← Deferred.ofValue (.func (.yield l') #[] #[]) args'; invoke d.target d.args : Sem Next).run E.P w = .ok (.round l' r'.fn ((r'.params.zip args').foldl (fun tmps (t,a)=>tmps.setIfInBounds t a) r'.tmps) r'.assign r'.body) w:=by
   have:=run_yield (P:=E.P) h1 h2
   simp only [Deferred.ofValue,invoke,Sem.run_bind,Sem.run_pure,Result.andThen_ok,Array.empty_append,this]
  rw [hrun]
  exact ⟨by simp [Fw],h3⟩
 ·cases hc

theorem about_ok {ro : Option Nat} {P : Program} {o : Oper} {a : Act} {w : World} : ∀ f,o.about P w a.eval = some f → (Fw ro).fn f:=fun _ _=>trivial

theorem opRun_ok {E : Env} {ex : Exe} (hE : EnvOk E) (hs : Sound E ex) {lo : Nat} {o : Oper} {T : Tr Value} {H H' : Tr AO} {n n' : Nat} {v : Value} (hc : opRun E ex lo o T H n = some (v,H',n')) (hlo : lo ≤ n) (hwf : Wf H n) :
  Mo lo H H' n n' ∧ ∀ {B : Base E lo} {w0 : World} {p : Nat → Option (Nat × Nat)} {h : Hp} {w : World} {ro : Option Nat} {a : Act} {K : Act → World → Prop} {Q : Exit → Act → World → Prop},Sub H h → Fresh p n n' → HR B w0 p h w → (∀ x ∈ o.op.operands,VR p (evA T x) (a.eval x)) →
   (∀ v' w' q,VR q v v' → Ext p q n n' → HR B w0 q (upH h H H' n n') w' → K (a.put o.dst v') w') → o.wpIn (Fw ro) 0 E.P a w K Q:=by
 have mem : opMem E lo o T H n = some (v,H',n') → Mo lo H H' n n' ∧ ∀ {B : Base E lo} {w0 : World} {p : Nat → Option (Nat × Nat)} {h : Hp} {w : World} {ro : Option Nat} {a : Act} {K : Act → World → Prop} {Q : Exit → Act → World → Prop},Sub H h → Fresh p n n' → HR B w0 p h w → (∀ x ∈ o.op.operands,VR p (evA T x) (a.eval x)) →
   (∀ v' w' q,VR q v v' → Ext p q n n' → HR B w0 q (upH h H H' n n') w' → K (a.put o.dst v') w') → o.wpIn (Fw ro) 0 E.P a w K Q:=fun hm=>by
  unfold opMem at hm
  split at hm
  case h_2=>cases hm
  rename_i v0 d n0 ham
  cases hm
  have hnd : ∀ c,o.op ≠ .defer c:=fun c e=>by
   unfold aMem at ham; rw [e] at ham; simp [aSil,e,kept] at ham
  have hdl : DlOk lo H d n n':=aMem_dl hlo ham
  refine ⟨Mo.updT hdl,?_⟩
  intro B w0 p h w ro a K Q hsub hfr hr hops hR
  obtain ⟨_,v',w',q,hg,hv,hx,hr'⟩:=aMem_ok hE.tv hr hfr hlo (fun b hb y hy=>hsub b y hy) hops ham
  rw [← upH_updT hsub hdl] at hr'
  refine ⟨about_ok,?_⟩
  rw [Oper.semAt_eq _ _ _ hnd]
  rcases hg with hg | ⟨hg,rfl⟩
  ·rw [hg]; exact hR v' w' q hv hx hr'
  ·rw [hg]; exact hR _ w' q hv hx hr'
 unfold opRun at hc
 split at hc
 ·rename_i c hop
  unfold opCall at hc
  split at hc
  ·rename_i f args types
   obtain ⟨m,hcall⟩:=callV_ok hE hs hc hlo hwf
   refine ⟨m,?_⟩
   intro B w0 p h w ro a K Q hsub hfr hr hops hR
   rw [hop] at hops
   refine ⟨about_ok,?_⟩
   rw [Oper.semAt_eq _ _ _ (fun c e=>by rw [e] at hop; cases hop)]
   have hexec : execOp a.eval o = (do let d ← Deferred.ofValue (a.eval f) (args.map a.eval); invoke d.target d.args : Sem Next):=by
    unfold execOp; rw [hop]; rfl
   rw [hexec]
   refine hcall hsub hfr hr (hops f (by simp [Op.operands,Call.operands])) ?_ hR
   rw [arr_map]
   exact AR.map_op args fun x hx=>hops x (by simp [Op.operands,Call.operands,hx])
  ·exact mem hc
 ·exact mem hc

section
variable {E : Env} {ex : Exe}
theorem runOps_nil (lo : Nat) (ops : Array Oper) (T : Tr Value) (sz : Nat) (D : List Nat) (H : Tr AO) (n : Nat) : runOps E ex lo ops [] T sz D H n = some ⟨T,sz,D,H,n⟩:=rfl
theorem runOps_cons (lo : Nat) (ops : Array Oper) (o : Oper) (l : List Oper) (T : Tr Value) (sz : Nat) (D : List Nat) (H : Tr AO) (n : Nat) : runOps E ex lo ops (o :: l) T sz D H n =
  Bool.rec (match aPut T sz o.dst undef with
   | some T=>runOps E ex lo ops l T sz D H n
   | none=>none)
  (match opRun E ex lo o T H n with
   | some (v,H,n)=>match aPut T sz o.dst v with
    | some T=>runOps E ex lo ops l T sz D H n
    | none=>none
   | none=>none) (aWanted ops T o):=rfl

theorem operands_ok {p : Nat → Option (Nat × Nat)} {T : Tr Value} {sz : Nat} {a : Act} (ht : TR p T sz a.tmps) {o : Oper} (hok : opOk o = true) : ∀ x ∈ o.op.operands,VR p (evA T x) (a.eval x):=fun x hx =>
 evA_ok ht x (Array.all_eq_true_iff_forall_mem.1 hok x hx)

theorem runOps_ok (hE : EnvOk E) (hs : Sound E ex) {lo : Nat} {ops : Array Oper} (hok : ∀ o ∈ ops.toList,opOk o = true) : ∀ (l : List Oper) (i : Nat) (T : Tr Value) (sz : Nat) (D : List Nat) (H : Tr AO) (n : Nat) (s' : St),ops.toList.drop i = l → runOps E ex lo ops l T sz D H n = some s' → lo ≤ n → Wf H n →
  (Mo lo H s'.H n s'.n ∧ s'.sz = sz) ∧ ∀ {B : Base E lo} {w0 : World} {p : Nat → Option (Nat × Nat)} {h : Hp} {w : World} {ro : Option Nat} {a : Act} {Q : Exit → Act → World → Prop},Sub H h → Fresh p n s'.n → HR B w0 p h w → SR p ⟨T,sz,D,H,n⟩ a →
   (∀ a' w' q,Ext p q n s'.n → HR B w0 q (upH h H s'.H n s'.n) w' → SR q s' a' → Q .normal a' w') → wpOpsIn (Fw ro) 0 E.P ops Q (List.range' i l.length) a w
 | [],i,T,sz,D,H,n,s',_,hr,hlo,hwf=>by
  rw [runOps_nil] at hr
  cases hr
  refine ⟨⟨.refl _ _ _,rfl⟩,?_⟩
  intro B w0 p h w ro a Q hsub hfr hhr hsr hQ
  exact hQ a w p (.refl _ _) (by rw [upH_refl hsub]; exact hhr) hsr
 | o :: l,i,T,sz,D,H,n,s',hd,hr,hlo,hwf=>by
  have hoi : ops[i]? = some o:=by
   have : ops.toList[i]? = some o:=by rw [← List.head?_drop,hd]; rfl
   simpa using this
  have hom : o ∈ ops.toList:=List.mem_of_getElem? (by simpa using hoi : ops.toList[i]? = some o)
  have hd' : ops.toList.drop (i + 1) = l:=by rw [← List.drop_drop,hd]; rfl
  have hrange : List.range' i (o :: l).length = i :: List.range' (i + 1) l.length:=by rw [List.length_cons,List.range'_succ]
  rw [runOps_cons] at hr
  cases hw : aWanted ops T o with
  | false =>
   rw [hw] at hr
   dsimp only at hr
   split at hr
   case h_2=>cases hr
   rename_i T' hput
   obtain ⟨h1,h2⟩:=runOps_ok hE hs hok l (i + 1) T' sz D H n s' hd' hr hlo hwf
   refine ⟨h1,?_⟩
   intro B w0 p h w ro a Q hsub hfr hhr hsr hQ
   rw [hrange]
   unfold wpOpsIn
   simp only [hoi,aWanted_ok hsr.t,hw,Bool.false_eq_true,if_false]
   exact ⟨about_ok,h2 hsub hfr hhr ⟨aPut_ok hsr.t hput (.und p),by cases o.dst <;> exact hsr.d⟩ hQ⟩
  | true =>
   rw [hw] at hr
   dsimp only at hr
   split at hr
   case h_2=>cases hr
   rename_i v H1 n1 hrun
   split at hr
   case h_2=>cases hr
   rename_i T' hput
   obtain ⟨m1,hop⟩:=opRun_ok hE hs hrun hlo hwf
   obtain ⟨h1,h2⟩:=runOps_ok hE hs hok l (i + 1) T' sz D H1 n1 s' hd' hr (Nat.le_trans hlo m1.le) (hwf.up m1)
   refine ⟨⟨m1.trans h1.1,h1.2⟩,?_⟩
   intro B w0 p h w ro a Q hsub hfr hhr hsr hQ
   rw [hrange]
   unfold wpOpsIn
   simp only [hoi,aWanted_ok hsr.t,hw,if_true]
   refine hop hsub (hfr.left h1.1.le) hhr (operands_ok hsr.t (hok o hom)) fun v' w' q hv hx hr'=>?_
   refine h2 (Sub.up hsub m1) (hfr.right m1.le hx) hr' ⟨aPut_ok (hsr.t.mono hx.ext) hput hv,by cases o.dst <;> exact hsr.d.mono hx.ext⟩ fun a' w'' q' hx' hr'' hsr'=>?_
   rw [upH_trans m1 h1.1] at hr''
   exact hQ a' w'' q' (hx.trans hx' m1.le h1.1.le) hr'' hsr'
end
end Go.Proofs.Ytkjceegmmhnajaa
