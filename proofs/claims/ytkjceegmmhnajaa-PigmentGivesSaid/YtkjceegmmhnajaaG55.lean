/- A second machine for the same program,without orders,addresses and capacities: its values,its memory,and how they stand to the model's. -/
import Derived.CallsIn
import Derived.RangeFuncRecord
import Derived.Orders
import Derived.Below
import Derived.RangeFuncSeq

set_option linter.unusedVariables false
set_option linter.unusedSimpArgs false

namespace Go.Proofs.Ytkjceegmmhnajaa
open Go.RowKit

/-! ### Lists,for the kernel's reckoning (by recursors) -/
section
variable {α : Type}
noncomputable def lenQ (l : List α) : Nat:=List.rec 0 (fun _ _ k=>Nat.succ k) l
noncomputable def getQ (l : List α) : Nat → Option α:=List.rec (fun _=>none) (fun x _ g i=>Nat.rec (some x) (fun k _=>g k) i) l
noncomputable def dropQ (l : List α) : Nat → List α:=List.rec (fun _=>[]) (fun x r d i=>Nat.rec (x :: r) (fun k _=>d k) i) l
noncomputable def takeQ (l : List α) : Nat → List α:=List.rec (fun _=>[]) (fun x _ t i=>Nat.rec [] (fun k _=>x :: t k) i) l
noncomputable def appQ (l m : List α) : List α:=List.rec m (fun x _ a=>x :: a) l
noncomputable def mapQ {β : Type} (f : α → β) (l : List α) : List β:=List.rec [] (fun x _ m=>f x :: m) l
noncomputable def allQ (f : α → Bool) (l : List α) : Bool:=List.rec true (fun x _ b=>Bool.rec false b (f x)) l
theorem lenQ_eq : ∀ l : List α,lenQ l = l.length
 | []=>rfl
 | _ :: l=>congrArg Nat.succ (lenQ_eq l)
theorem getQ_eq : ∀ (l : List α) (i : Nat),getQ l i = l[i]?
 | [],_=>rfl
 | x :: l,0=>rfl
 | x :: l,i + 1=>(getQ_eq l i).trans (by simp)
theorem dropQ_eq : ∀ (l : List α) (i : Nat),dropQ l i = l.drop i
 | [],i=>by simp [dropQ]
 | x :: l,0=>rfl
 | x :: l,i + 1=>(dropQ_eq l i).trans (by simp)
theorem takeQ_eq : ∀ (l : List α) (i : Nat),takeQ l i = l.take i
 | [],i=>by simp [takeQ]
 | x :: l,0=>rfl
 | x :: l,i + 1=>congrArg (x :: ·) (takeQ_eq l i)
theorem appQ_eq : ∀ (l m : List α),appQ l m = l ++ m
 | [],m=>rfl
 | x :: l,m=>congrArg (x :: ·) (appQ_eq l m)
theorem mapQ_eq {β : Type} (f : α → β) : ∀ (l : List α),mapQ f l = l.map f
 | []=>rfl
 | x :: l=>congrArg (f x :: ·) (mapQ_eq f l)
theorem allQ_eq (f : α → Bool) : ∀ (l : List α),allQ f l = l.all f
 | []=>rfl
 | x :: l=>by
  have:=allQ_eq f l
  simp only [allQ] at this ⊢
  cases h : f x <;> simp [h,this]
end
noncomputable def extQ (c : Array Value) (i n : Nat) : Array Value:=⟨takeQ (dropQ c.toList i) n⟩
theorem extQ_eq (c : Array Value) (i n : Nat) : extQ c i n = c.extract i (i + n):=by
 apply Array.toList_inj.1
 simp [extQ,takeQ_eq,dropQ_eq,List.extract_eq_take_drop]

/-! ### A tree over numbers -/
inductive Tr (α : Type) where
 | e
 | n (l : Tr α) (v : Option α) (r : Tr α)

namespace Tr
variable {α : Type}
noncomputable def get (t : Tr α) : Nat → Option α :=
 Tr.rec (fun _=>none) (fun _ v _ gl gr i=>Bool.rec (Bool.rec (gr (Nat.sub (Nat.div i 2) 1)) (gl (Nat.div i 2)) (Nat.beq (Nat.mod i 2) 1)) v (Nat.beq i 0)) t

noncomputable def put (f : Nat) : Tr α → Nat → Option α → Tr α :=
 Nat.rec (fun t _ _=>t) (fun _ ih t i x=>Tr.casesOn t
  (Bool.rec (Bool.rec (.n .e none (ih .e (Nat.sub (Nat.div i 2) 1) x)) (.n (ih .e (Nat.div i 2) x) none .e) (Nat.beq (Nat.mod i 2) 1)) (.n .e x .e) (Nat.beq i 0))
  (fun l v r=>Bool.rec (Bool.rec (.n l v (ih r (Nat.sub (Nat.div i 2) 1) x)) (.n (ih l (Nat.div i 2) x) v r) (Nat.beq (Nat.mod i 2) 1)) (.n l x r) (Nat.beq i 0))) f

theorem bite {β : Type} (i j : Nat) (a b : β) : (Bool.rec a b (Nat.beq i j) : β) = if i = j then b else a:=by
 by_cases h : i = j
 ·subst h; simp
 ·rw [if_neg h,show Nat.beq i j = false from by cases e : Nat.beq i j with | false=>rfl | true=>exact absurd (Nat.eq_of_beq_eq_true e) h]
theorem get_e (i : Nat) : (Tr.e : Tr α).get i = none:=rfl
theorem get_n (l : Tr α) (v : Option α) (r : Tr α) (i : Nat) : (Tr.n l v r).get i = if i = 0 then v else if i % 2 = 1 then get l (i / 2) else get r (i / 2 - 1):=by
 rw [← bite,← bite]; rfl
theorem put_e (f i : Nat) (x : Option α) : put (f + 1) .e i x = if i = 0 then .n .e x .e else if i % 2 = 1 then .n (put f .e (i / 2) x) none .e else .n .e none (put f .e (i / 2 - 1) x):=by
 rw [← bite,← bite]; rfl
theorem put_n (f i : Nat) (l : Tr α) (v : Option α) (r : Tr α) (x : Option α) : put (f + 1) (.n l v r) i x = if i = 0 then .n l x r else if i % 2 = 1 then .n (put f l (i / 2) x) v r else .n l v (put f r (i / 2 - 1) x):=by
 rw [← bite,← bite]; rfl

theorem get_put : ∀ (f : Nat) (t : Tr α) (i : Nat) (x : Option α) (j : Nat),i < f → (put f t i x).get j = if j = i then x else t.get j:=by
 intro f
 induction f with
 | zero=>intro t i x j h; omega
 | succ f ih =>
  intro t i x j h
  cases t with
  | e =>
   simp only [put_e]
   by_cases h0 : i = 0
   ·subst h0; simp only [if_pos,get_n,get_e]; by_cases hj : j = 0 <;> simp [hj,get_e,get_n]
   ·simp only [h0,if_false]
    by_cases h1 : i % 2 = 1
    ·simp only [h1,if_true,get_n,get_e]
     by_cases hj : j = 0
     ·subst hj; simp; omega
     ·by_cases hj1 : j % 2 = 1
      ·simp only [hj,hj1,if_true,if_false]; rw [ih _ _ _ _ (by omega)]
       by_cases hij : j = i
       ·subst hij; simp
       ·rw [if_neg hij,if_neg (by omega)]; rfl
      ·simp only [hj,hj1,if_false]; rw [if_neg (by intro e; subst e; omega)]
    ·simp only [h1,if_false,get_n,get_e]
     by_cases hj : j = 0
     ·subst hj; simp; omega
     ·by_cases hj1 : j % 2 = 1
      ·simp only [hj,hj1,if_true,if_false]; rw [if_neg (by intro e; subst e; omega)]
      ·simp only [hj,hj1,if_false]; rw [ih _ _ _ _ (by omega)]
       by_cases hij : j = i
       ·subst hij; simp
       ·rw [if_neg hij,if_neg (by omega)]; rfl
  | n l v r =>
   simp only [put_n]
   by_cases h0 : i = 0
   ·subst h0; simp only [if_pos,get_n,get_e]; by_cases hj : j = 0 <;> simp [hj]
   ·simp only [h0,if_false]
    by_cases h1 : i % 2 = 1
    ·simp only [h1,if_true,get_n,get_e]
     by_cases hj : j = 0
     ·subst hj; simp; omega
     ·by_cases hj1 : j % 2 = 1
      ·simp only [hj,hj1,if_true,if_false]; rw [ih _ _ _ _ (by omega)]
       by_cases hij : j = i
       ·subst hij; simp
       ·rw [if_neg hij,if_neg (by omega)]
      ·simp only [hj,hj1,if_false]; rw [if_neg (by intro e; subst e; omega)]
    ·simp only [h1,if_false,get_n,get_e]
     by_cases hj : j = 0
     ·subst hj; simp; omega
     ·by_cases hj1 : j % 2 = 1
      ·simp only [hj,hj1,if_true,if_false]; rw [if_neg (by intro e; subst e; omega)]
      ·simp only [hj,hj1,if_false]; rw [ih _ _ _ _ (by omega)]
       by_cases hij : j = i
       ·subst hij; simp
       ·rw [if_neg hij,if_neg (by omega)]

noncomputable def set (t : Tr α) (i : Nat) (x : α) : Tr α:=put (i + 1) t i (some x)
noncomputable def del (t : Tr α) (i : Nat) : Tr α:=put (i + 1) t i none
theorem get_set (t : Tr α) (i j : Nat) (x : α) : (t.set i x).get j = if j = i then some x else t.get j:=get_put _ _ _ _ _ (by omega)
theorem get_del (t : Tr α) (i j : Nat) : (t.del i).get j = if j = i then none else t.get j:=get_put _ _ _ _ _ (by omega)
noncomputable def ofList (l : List α) : Nat → Tr α → Tr α:=List.rec (fun _ t=>t) (fun x _ o k t=>o (Nat.succ k) (t.set k x)) l
theorem ofList_cons (x : α) (r : List α) (k : Nat) (t : Tr α) : ofList (x :: r) k t = ofList r (k + 1) (t.set k x):=rfl
theorem get_ofList : ∀ (l : List α) (k : Nat) (t : Tr α) (j : Nat),(ofList l k t).get j = if k ≤ j ∧ j < k + l.length then l[j - k]? else t.get j
 | [],k,t,j=>by simp [ofList]; intro h1 h2; omega
 | x :: r,k,t,j=>by
  rw [ofList_cons,get_ofList r (k + 1) (t.set k x) j,get_set]
  by_cases h : k ≤ j ∧ j < k + (x :: r).length
  ·rw [if_pos h]; simp at h
   by_cases hj : j = k
   ·subst hj; rw [if_neg (by omega)]; simp
   ·rw [if_pos (by omega)]
    obtain ⟨d,rfl⟩ : ∃ d,j = k + 1 + d:=⟨j - k - 1,by omega⟩
    rw [show k + 1 + d - (k + 1) = d from by omega,show k + 1 + d - k = d + 1 from by omega]; simp
  ·rw [if_neg h]; simp at h
   rw [if_neg (by omega),if_neg (by omega)]
end Tr

/-! ### Values -/
def unk : Nat:=4611686018427387904

inductive VR (p : Nat → Option (Nat × Nat)) : Value → Value → Prop
 | bool (b : Bool) : VR p (.bool b) (.bool b)
 | int (k : IntKind) (n : Int) : VR p (.int k n) (.int k n)
 | float (k : FloatKind) (n : Nat) : VR p (.float k n) (.float k n)
 | string (s : ByteArray) : VR p (.string s) (.string s)
 | nilptr : VR p (.pointer none) (.pointer none)
 | ptr {b b' o k : Nat} (h : p b = some (b',k)) : VR p (.pointer (some ⟨b,o,none⟩)) (.pointer (some ⟨b',o,none⟩))
 | nilslice (l c : Nat) : VR p (.slice none l c) (.slice none l c)
 | slice {b b' o l c c' k : Nat} (h : p b = some (b',k)) (hc : (c < unk ∧ c = c') ∨ (c = unk ∧ l ≤ c' ∧ (o = 0 → c' = k))) : VR p (.slice (some ⟨b,o,none⟩) l c) (.slice (some ⟨b',o,none⟩) l c')
 | alias {j b k : Nat} (h : p j = some (b,k)) : VR p (.chan (some j)) (.int .i64 ((b : Int) - k))
 | far {j l b o c : Nat} (h : p j = some (b,o)) (h2 : p (j + 1) = some (c,0)) : VR p (.slice (some ⟨j,0,some 0⟩) l 0) (.slice (some ⟨b,o,none⟩) l c)
 | nilmap : VR p (.map none) (.map none)
 | map {b b' k : Nat} (h : p b = some (b',k)) : VR p (.map (some b)) (.map (some b'))
 | nilFunc : VR p .nilFunc .nilFunc
 | func (f : FuncId) {a a' c c' : Array Value} (ha : a.size = a'.size) (hc : c.size = c'.size) (hA : ∀ i,VR p (a.getD i undef) (a'.getD i undef)) (hC : ∀ i,VR p (c.getD i undef) (c'.getD i undef)) :
   VR p (.func (.func f) a c) (.func (.func f) a' c')
 | yield {l l' k : Nat} (h : p l = some (l',k)) : VR p (.func (.yield l) #[] #[]) (.func (.yield l') #[] #[])
 | nilIface : VR p .nilIface .nilIface
 | agg {a a' : Array Value} (h : a.size = a'.size) (hA : ∀ i,VR p (a.getD i undef) (a'.getD i undef)) : VR p (.agg a) (.agg a')
 | tuple {a a' : Array Value} (h : a.size = a'.size) (hA : ∀ i,i < a.size → VR p (a.getD i undef) (a'.getD i undef)) : VR p (.tuple a) (.tuple a')

theorem VR.und (p : Nat → Option (Nat × Nat)) : VR p undef undef:=.tuple rfl (fun i h=>by simp at h)

theorem VR.mono {p q : Nat → Option (Nat × Nat)} (hq : ∀ i b,p i = some b → q i = some b) {v v' : Value} (h : VR p v v') : VR q v v':=by
 induction h with
 | bool b=>exact .bool b
 | int k n=>exact .int k n
 | float k n=>exact .float k n
 | string s=>exact .string s
 | nilptr=>exact .nilptr
 | ptr h=>exact .ptr (hq _ _ h)
 | nilslice l c=>exact .nilslice l c
 | slice h hc=>exact .slice (hq _ _ h) hc
 | alias h=>exact .alias (hq _ _ h)
 | far h h2=>exact .far (hq _ _ h) (hq _ _ h2)
 | nilmap=>exact .nilmap
 | map h=>exact .map (hq _ _ h)
 | nilFunc=>exact .nilFunc
 | func f ha hc _ _ ih1 ih2=>exact .func f ha hc ih1 ih2
 | yield h=>exact .yield (hq _ _ h)
 | nilIface=>exact .nilIface
 | agg h _ ih=>exact .agg h ih
 | tuple h _ ih=>exact .tuple h ih

def AR (p : Nat → Option (Nat × Nat)) (a a' : Array Value) : Prop:=a.size = a'.size ∧ ∀ i,VR p (a.getD i undef) (a'.getD i undef)

theorem AR.mono {p q : Nat → Option (Nat × Nat)} (hq : ∀ i b,p i = some b → q i = some b) {a a' : Array Value} (h : AR p a a') : AR q a a':=⟨h.1,fun i=>(h.2 i).mono hq⟩
theorem AR.of_lt {p : Nat → Option (Nat × Nat)} {a a' : Array Value} (hs : a.size = a'.size) (h : ∀ i,i < a.size → VR p (a.getD i undef) (a'.getD i undef)) : AR p a a' :=
 ⟨hs,fun i=>by
  by_cases hi : i < a.size
  ·exact h i hi
  ·have h2 : ¬ i < a'.size:=by omega
   simp [Array.getD,hi,h2]; exact .und p⟩
theorem AR.empty (p : Nat → Option (Nat × Nat)) : AR p #[] #[]:=AR.of_lt rfl (fun i h=>by simp at h)
theorem AR.one {p : Nat → Option (Nat × Nat)} {v v' : Value} (h : VR p v v') : AR p #[v] #[v']:=AR.of_lt rfl (fun i hi=>by
 have : i = 0:=by simp at hi; omega
 subst this; simpa using h)
theorem AR.get {p : Nat → Option (Nat × Nat)} {a a' : Array Value} (h : AR p a a') (i : Nat) (v : Value) (hv : a[i]? = some v) : ∃ v',a'[i]? = some v' ∧ VR p v v':=by
 have hi : i < a.size:=(Array.getElem?_eq_some_iff.1 hv).1
 have hi' : i < a'.size:=h.1 ▸ hi
 refine ⟨a'[i],Array.getElem?_eq_getElem hi',?_⟩
 have:=h.2 i
 have e : a[i] = v:=(Array.getElem?_eq_some_iff.1 hv).2
 simpa [Array.getD,hi,hi',e] using this
theorem AR.of_get {p : Nat → Option (Nat × Nat)} {a a' : Array Value} (hs : a.size = a'.size) (h : ∀ (i : Nat) (v v' : Value),a[i]? = some v → a'[i]? = some v' → VR p v v') : AR p a a' :=
 AR.of_lt hs fun i hi=>by
  have hi' : i < a'.size:=hs ▸ hi
  simpa [Array.getD,hi,hi'] using h i _ _ (Array.getElem?_eq_getElem hi) (Array.getElem?_eq_getElem hi')
theorem AR.append {p : Nat → Option (Nat × Nat)} {a a' b b' : Array Value} (h : AR p a a') (k : AR p b b') : AR p (a ++ b) (a' ++ b') :=
 AR.of_get (by simp [h.1,k.1]) fun i v v' hv hv'=>by
  have hs:=h.1
  by_cases hi : i < a.size
  ·rw [Array.getElem?_append_left hi] at hv; rw [Array.getElem?_append_left (by omega)] at hv'
   obtain ⟨u,hu,hr⟩:=h.get i v hv; rw [hu] at hv'; cases hv'; exact hr
  ·rw [Array.getElem?_append_right (by omega)] at hv; rw [Array.getElem?_append_right (by omega),← hs] at hv'
   obtain ⟨u,hu,hr⟩:=k.get _ v hv; rw [hu] at hv'; cases hv'; exact hr
theorem AR.extract {p : Nat → Option (Nat × Nat)} {a a' : Array Value} (h : AR p a a') (i j : Nat) : AR p (a.extract i j) (a'.extract i j) :=
 AR.of_get (by simp [h.1]) fun k v v' hv hv'=>by
  rw [Array.getElem?_extract] at hv hv'
  have hs:=h.1
  by_cases hk : k < min j a.size - i
  ·rw [if_pos hk] at hv; rw [if_pos (by omega)] at hv'
   obtain ⟨u,hu,hr⟩:=h.get _ v hv; rw [hu] at hv'; cases hv'; exact hr
  ·rw [if_neg hk] at hv; cases hv
theorem AR.set {p : Nat → Option (Nat × Nat)} {a a' : Array Value} (h : AR p a a') {v v' : Value} (hv : VR p v v') (i : Nat) : AR p (a.setIfInBounds i v) (a'.setIfInBounds i v') :=
 AR.of_get (by simp [h.1]) fun k u u' hu hu'=>by
  have hs:=h.1
  rw [Array.getElem?_setIfInBounds] at hu hu'
  by_cases hk : i = k
  ·subst hk
   simp only [if_true] at hu hu'
   by_cases hi : i < a.size
   ·rw [if_pos hi] at hu; rw [if_pos (by omega)] at hu'; cases hu; cases hu'; exact hv
   ·rw [if_neg hi] at hu; cases hu
  ·rw [if_neg hk] at hu hu'
   obtain ⟨x,hx,hr⟩:=h.get _ u hu; rw [hx] at hu'; cases hu'; exact hr

theorem VR.cells {p : Nat → Option (Nat × Nat)} {v v' : Value} (h : VR p v v') : AR p v.cells v'.cells:=by
 cases h <;> first | exact ⟨by assumption,by assumption⟩ | exact AR.one (by constructor <;> assumption) | exact AR.one (by constructor)

def ground : Nat → Value → Bool
 | _, .bool _=>true
 | _, .int _ _=>true
 | _, .float _ _=>true
 | _, .string _=>true
 | _, .pointer none=>true
 | _, .slice none _ _=>true
 | _, .map none=>true
 | _, .nilFunc=>true
 | _, .nilIface=>true
 | _, .func (.func _) a c=>a.isEmpty && c.isEmpty
 | f + 1, .agg a=>a.toList.all (ground f)
 | f + 1, .tuple a=>a.toList.all (ground f)
 | _,_=>false

theorem VR.of_ground (p : Nat → Option (Nat × Nat)) : ∀ (f : Nat) (v : Value),ground f v = true → VR p v v:=by
 intro f
 induction f with
 | zero =>
  intro v h
  cases v with
  | bool b=>exact .bool b
  | int k n=>exact .int k n
  | float k n=>exact .float k n
  | string s=>exact .string s
  | pointer a=>cases a with | none=>exact .nilptr | some a=>simp [ground] at h
  | slice a l c=>cases a with | none=>exact .nilslice l c | some a=>simp [ground] at h
  | map a=>cases a with | none=>exact .nilmap | some a=>simp [ground] at h
  | nilFunc=>exact .nilFunc
  | nilIface=>exact .nilIface
  | func fn a c =>
   cases fn <;> simp [ground] at h
   obtain ⟨rfl,rfl⟩:=h
   exact .func _ rfl rfl (fun i=>by simpa using VR.und p) (fun i=>by simpa using VR.und p)
  | _=>simp [ground] at h
 | succ f ih =>
  have arr : ∀ a : Array Value,a.toList.all (ground f) = true → AR p a a:=fun a h=>AR.of_get rfl fun i v v' hv hv'=>by
   rw [hv] at hv'; cases hv'
   have:=List.all_eq_true.1 h v (Array.mem_toList_iff.2 (Array.mem_of_getElem? hv))
   exact ih v this
  intro v h
  cases v with
  | bool b=>exact .bool b
  | int k n=>exact .int k n
  | float k n=>exact .float k n
  | string s=>exact .string s
  | pointer a=>cases a with | none=>exact .nilptr | some a=>simp [ground] at h
  | slice a l c=>cases a with | none=>exact .nilslice l c | some a=>simp [ground] at h
  | map a=>cases a with | none=>exact .nilmap | some a=>simp [ground] at h
  | nilFunc=>exact .nilFunc
  | nilIface=>exact .nilIface
  | func fn a c =>
   cases fn <;> simp [ground] at h
   obtain ⟨rfl,rfl⟩:=h
   exact .func _ rfl rfl (fun i=>by simpa using VR.und p) (fun i=>by simpa using VR.und p)
  | agg a=>exact .agg rfl (arr a (by simpa only [ground] using h)).2
  | tuple a=>exact .tuple rfl fun i _=>(arr a (by simpa only [ground] using h)).2 i
  | _=>simp [ground] at h

theorem VR.eq_of_ground {p : Nat → Option (Nat × Nat)} : ∀ (f : Nat) {v v' : Value},ground f v = true → VR p v v' → v' = v:=by
 intro f
 induction f with
 | zero =>
  intro v v' h k
  cases k <;> first | rfl | simp [ground] at h
  case func ha hc hA hC =>
   obtain ⟨rfl,rfl⟩:=h
   simp at ha hc
   rw [Array.size_eq_zero_iff.1 ha.symm,Array.size_eq_zero_iff.1 hc.symm]
 | succ f ih =>
  intro v v' h k
  have arr : ∀ a a' : Array Value,a.size = a'.size → a.toList.all (ground f) = true → (∀ i,i < a.size → VR p (a.getD i undef) (a'.getD i undef)) → a' = a:=fun a a' hs h hA=>by
   refine Array.ext hs.symm fun i h1 h2=>?_
   have:=hA i h2
   simp only [Array.getD,h1,h2,dif_pos] at this
   exact ih (List.all_eq_true.1 h _ (by simp)) this
  cases k <;> first | rfl | (simp only [ground] at h; done) | skip
  case ptr=>simp [ground] at h
  case slice=>simp [ground] at h
  case alias=>simp [ground] at h
  case far=>simp [ground] at h
  case map=>simp [ground] at h
  case func ha hc hA hC =>
   simp [ground] at h
   obtain ⟨rfl,rfl⟩:=h
   simp at ha hc
   rw [Array.size_eq_zero_iff.1 ha.symm,Array.size_eq_zero_iff.1 hc.symm]
  case yield=>simp [ground] at h
  case agg hs hA=>rw [arr _ _ hs (by simpa only [ground] using h) (fun i _=>hA i)]
  case tuple hs hA=>rw [arr _ _ hs (by simpa only [ground] using h) hA]
end Go.Proofs.Ytkjceegmmhnajaa

namespace Go.Proofs.Ytkjceegmmhnajaa
open Go.RowKit

/-! ### Types,looked at -/
structure TV where
 size : Nat
 bytes : Nat
 zero : Value
 und : TypeDesc
 agg : Bool

def isAggD : TypeDesc → Bool
 | .struct _ | .array _ _=>true
 | _=>false

structure TvOk (P : Program) (tv : Nat → Option TV) : Prop where
 ok : ∀ t x,tv t = some x → (∃ i,P.info? t = some i ∧ i.size = x.size ∧ i.bytes = x.bytes ∧ i.zero = some x.zero) ∧ P.underlying t = some x.und ∧ x.agg = isAggD x.und ∧ ground 3 x.zero = true ∧ x.zero.cells.size = x.size

section
variable {P : Program} {tv : Nat → Option TV} (hT : TvOk P tv) {t : Nat} {x : TV} (h : tv t = some x) (w : World)
include hT h
theorem run_und : (underlying t).run P w = .ok x.und w:=by
 have:=(hT.ok t x h).2.1
 simp [underlying,this]
theorem run_sizeOf' : (sizeOf t).run P w = .ok x.size w:=by
 obtain ⟨⟨i,h1,h2,_,_⟩,_⟩:=hT.ok t x h
 simp [sizeOf,typeInfo,h1,h2]
theorem run_bytes' : ∃ i,(typeInfo t).run P w = .ok i w ∧ i.bytes = x.bytes:=by
 obtain ⟨⟨i,h1,_,h2,_⟩,_⟩:=hT.ok t x h
 exact ⟨i,by simp [typeInfo,h1],h2⟩
theorem run_zero' : (zeroValue t).run P w = .ok x.zero w:=by
 obtain ⟨⟨i,h1,_,_,h2⟩,_⟩:=hT.ok t x h
 simp [zeroValue,typeInfo,h1,h2]
theorem run_isAgg' : (isAgg t).run P w = .ok x.agg w:=by
 have h1:=run_und hT h w
 have h2:=(hT.ok t x h).2.2.1
 simp only [isAgg,Sem.run_bind,h1,Result.andThen_ok,h2]
 cases x.und <;> simp [isAggD]
theorem zeroSize : x.zero.cells.size = x.size:=(hT.ok t x h).2.2.2.2
theorem zeroVR (p : Nat → Option (Nat × Nat)) : VR p x.zero x.zero:=VR.of_ground p 3 _ (hT.ok t x h).2.2.2.1
end

/-! ### Memory -/
inductive AO where
 | cells (c : Array Value) (elem : TypeId) (sz : Option Nat)
 | loop (l : Loop)
 | deferred
 | map (es : List (Value × Value × Nat)) (clock : Nat)

def operandOk : Operand → Bool
 | .const v=>ground 2 v
 | .global _=>false
 | _=>true

def opOk (o : Oper) : Bool:=o.op.operands.all operandOk

inductive Kind where
 | silent | load | maker | store | append | call | other
 deriving DecidableEq

def kindOf : Op → Kind
 | .move _ | .assign _ | .pick .. | .build .. | .fieldAddr .. | .indexAddr .. | .index .. | .field .. | .slice .. | .extract .. | .makeFunc .. | .nilCheck _ | .binOp .. | .unOp .. | .convert ..=>.silent
 | .load .. | .lookup ..=>.load
 | .mapUpdate .. | .insert .. | .mapEntry .. | .entryStore ..=>.store
 | .makeMap ..=>.maker
 | .alloc _ | .box .. | .buildSlice .. | .makeSlice ..=>.maker
 | .store ..=>.store
 | .call { callee:=.builtin b, .. }=>match b with
  | .cap | .max | .min=>.silent
  | .len=>.load
  | .delete=>.store
  | .append=>.append
  | _=>.other
 | .call _=>.call
 | _=>.other

def isBefore (bs : Array Nat) (i j : Nat) : Bool:=(bs.getD j 0).testBit i

def pairOk (ops : Array Oper) (bs : Array Nat) (i j : Nat) : Bool :=
 match ops[i]?,ops[j]? with
 | some x,some y=>isBefore bs i j || (x.apart ops y && match kindOf x.op,kindOf y.op with
  | .other,_ | _, .other=>false
  | .call, .store | .call, .append | .store, .call | .append, .call=>false
  | _,_=>true)
 | _,_=>true

def drawOk (ops : Array Oper) : Bool :=
 let bs:=Region.before ops
 ops.zipIdx.all (fun (o,i)=>o.after.all fun e=>!Region.binds .any e || decide (e.on < i)) &&
 (List.range ops.size).all fun j=>(List.range j).all fun i=>pairOk ops bs i j

def ck : Code → Bool
 | .region _ ops draw=>ops.all opOk && (!draw || drawOk ops)
 | .seq a b=>ck a && ck b
 | .cond c a b=>operandOk c && ck a && ck b
 | .block _ c=>ck c
 | .loop c=>ck c
 | .rangeFunc f _ a b=>operandOk f && ck a && ck b
 | .scope c=>ck c
 | _=>true

abbrev ME:=Value × Value × Nat
inductive MR (p : Nat → Option (Nat × Nat)) : List ME → List MapEntry → Prop
 | nil : MR p [] []
 | cons {k v v' : Value} {b : Nat} {l : List ME} {l' : List MapEntry} (h : VR p v v') (t : MR p l l') : MR p ((k,v,b) :: l) (⟨k,v',b⟩ :: l')
theorem MR.mono {p q : Nat → Option (Nat × Nat)} (hq : ∀ i b,p i = some b → q i = some b) {l : List ME} {l' : List MapEntry} (h : MR p l l') : MR q l l':=by
 induction h with
 | nil=>exact .nil
 | cons h _ ih=>exact .cons (h.mono hq) ih
theorem MR.length {p : Nat → Option (Nat × Nat)} {l : List ME} {l' : List MapEntry} (h : MR p l l') : l.length = l'.length:=by
 induction h with
 | nil=>rfl
 | cons _ _ ih=>simp [ih]

def hole : Value:=.chan none
def CR (p : Nat → Option (Nat × Nat)) (v v' : Value) : Prop:=v = hole ∨ VR p v v'
theorem CR.mono {p q : Nat → Option (Nat × Nat)} (hq : ∀ i b,p i = some b → q i = some b) {v v' : Value} (h : CR p v v') : CR q v v':=h.elim .inl fun h=>.inr (h.mono hq)

def OR (p : Nat → Option (Nat × Nat)) (k : Nat) : AO → Obj → Prop
 | .cells c e sz, .cells c' e' fr=>e' = e ∧ fr = (0,0) ∧ c.size ≤ c'.size ∧ (∀ s,sz = some s → k * s ≤ c'.size) ∧ ∀ i,i < c.size → CR p (c.getD i undef) (c'.getD i undef)
 | .loop l, .loop l'=>l'.state = l.state ∧ l'.pending = l.pending ∧ l'.params = l.params ∧ l'.assign = l.assign ∧ l'.body = l.body ∧ AR p l.tmps l'.tmps ∧ ck l.assign = true ∧ ck l.body = true
 | .deferred, .deferred ds=>ds = some []
 | .map es c, .map es' c'=>c' = c ∧ MR p es es'.toList
 | _,_=>False

theorem OR.mono {p q : Nat → Option (Nat × Nat)} (hq : ∀ i b,p i = some b → q i = some b) {k : Nat} {o : AO} {o' : Obj} (h : OR p k o o') : OR q k o o':=by
 cases o with
 | cells c e ex =>
  cases o' with
  | cells c' e' fr=>obtain ⟨h1,h2,h3,h4,h5⟩:=h; exact ⟨h1,h2,h3,h4,fun i hi=>(h5 i hi).mono hq⟩
  | _=>exact h.elim
 | loop l =>
  cases o' with
  | loop l'=>obtain ⟨h1,h2,h3,h4,h5,h6,h7⟩:=h; exact ⟨h1,h2,h3,h4,h5,h6.mono hq,h7⟩
  | _=>exact h.elim
 | deferred =>
  cases o' with
  | deferred ds=>exact h
  | _=>exact h.elim
 | map es c =>
  cases o' with
  | map es' c'=>exact ⟨h.1,h.2.mono hq⟩
  | _=>exact h.elim

abbrev Hp:=Nat → Option AO

structure FI where
 body : Code
 ntmps : Nat
 results : List ResultVar
 wr : Bool

structure Env where
 P : Program
 tv : Nat → Option TV
 fns : Nat → Option FI
 /-- a yield of which no block is known: what it answers -/
 exty : Nat → Array Value → Tr AO → Option Value
 /-- a function that is known by a contract: what it answers -/
 extf : Nat → Array Value → Tr AO → Option Value
 /-- the same,of one that makes some objects more,under the next names -/
 extn : Nat → Array Value → Tr AO → Nat → Option (Value × List AO)

structure Base (E : Env) (lo : Nat) where
 n : Nat
 r : Nat
 le : r ≤ lo
def Base.up {E : Env} {lo lo' : Nat} (B : Base E lo) (h : lo ≤ lo') : Base E lo':=⟨B.n,B.r,Nat.le_trans B.le h⟩

def newp (p : Nat → Option (Nat × Nat)) (n b k : Nat) : Nat → Option (Nat × Nat):=fun i=>if i = n then some (b,k) else p i

structure MadeL (q g : Nat → Option (Nat × Nat)) (m : Nat) (l : List AO) (w w' : World) : Prop where
 ext : ∀ i b,q i = some b → g i = some b
 out : ∀ i,¬(m ≤ i ∧ i < m + l.length) → g i = q i
 ob : ∀ k o,l[k]? = some o → ∃ b c o',g (m + k) = some (b,c) ∧ w.heap.size ≤ b ∧ w'.heap[b]? = some o' ∧ OR g c o o'
 inj : ∀ i j b c c',m ≤ i → i < m + l.length → m ≤ j → j < m + l.length → g i = some (b,c) → g j = some (b,c') → i = j
 bel : Below w.heap.size w w'

def Fits (E : Env) (n : Nat) (w0 : World) (p : Nat → Option (Nat × Nat)) : Prop :=
 ∀ q : Nat → Option (Nat × Nat),(∀ i b,p i = some b → q i = some b) → ∀ (j : Nat) (args args' : Array Value) (H : Tr AO) (v : Value) (w : World),Below n w0 w →
  (∀ i o,H.get i = some o → ∃ b k o',q i = some (b,k) ∧ w.heap[b]? = some o' ∧ OR q k o o') → AR q args args' →
  (E.exty j args H = some v → ∀ lb k,q j = some (lb,k) → YieldAt Fence.wide 0 E.P lb args' w fun e w'=>∃ v',e = .returned v' ∧ VR q v v' ∧ Below w.heap.size w w') ∧
  (E.extf j args H = some v → CallsIn Fence.wide 0 E.P j args' w fun e w'=>∃ v',e = .returned v' ∧ VR q v v' ∧ Below w.heap.size w w') ∧
  (∀ (m : Nat) (l : List AO),(∀ i,m ≤ i → i < m + l.length → q i = none) → E.extn j args H m = some (v,l) → CallsIn Fence.wide 0 E.P j args' w fun e w'=>∃ v' g,e = .returned v' ∧ VR g v v' ∧ MadeL q g m l w w')
theorem Fits.up {E : Env} {n : Nat} {w0 : World} {p q : Nat → Option (Nat × Nat)} (h : Fits E n w0 p) (hq : ∀ i b,p i = some b → q i = some b) : Fits E n w0 q :=
 fun r hr=>h r fun i b hi=>hr i b (hq i b hi)

structure HR {E : Env} {lb : Nat} (B : Base E lb) (w0 : World) (p : Nat → Option (Nat × Nat)) (h : Hp) (w : World) : Prop where
 hB : B.n ≤ w0.heap.size
 low : Below B.n w0 w
 pin : Fits E B.n w0 p
 ob : ∀ i o,h i = some o → ∃ b k o',p i = some (b,k) ∧ (B.n ≤ b ∨ i < B.r) ∧ w.heap[b]? = some o' ∧ OR p k o o'
 inj : ∀ i j b k k',(h i).isSome = true → (h j).isSome = true → p i = some (b,k) → p j = some (b,k') → i = j

theorem HR.size {E : Env} {lb : Nat} {B : Base E lb} {w0 : World} {p : Nat → Option (Nat × Nat)} {h : Hp} {w : World} (hr : HR B w0 p h w) : B.n ≤ w.heap.size:=Nat.le_trans hr.hB hr.low.size

theorem HR.sub {E : Env} {lb : Nat} {B : Base E lb} {w0 : World} {p : Nat → Option (Nat × Nat)} {h h' : Hp} {w : World} (hr : HR B w0 p h w) (hs : ∀ i o,h' i = some o → h i = some o) : HR B w0 p h' w :=
 ⟨hr.hB,hr.low,hr.pin,fun i o hi=>hr.ob i o (hs i o hi),fun i j b k k' hi hj=>by
  have k1 : (h i).isSome = true:=by cases e : h' i with | none=>simp [e] at hi | some o=>simp [hs i o e]
  have k2 : (h j).isSome = true:=by cases e : h' j with | none=>simp [e] at hj | some o=>simp [hs j o e]
  exact hr.inj i j b k k' k1 k2⟩

theorem HR.drew {E : Env} {lb : Nat} {B : Base E lb} {w0 : World} {p : Nat → Option (Nat × Nat)} {h : Hp} {w : World} (hr : HR B w0 p h w) : HR B w0 p h { w with drawn:=w.drawn + 1 } :=
 ⟨hr.hB,hr.low.drew,hr.pin,hr.ob,hr.inj⟩

theorem HR.up {E : Env} {lo lo' : Nat} {B : Base E lo} {w0 : World} {p : Nat → Option (Nat × Nat)} {h : Hp} {w : World} (hr : HR B w0 p h w) (hl : lo ≤ lo') : HR (B.up hl) w0 p h w:=⟨hr.hB,hr.low,hr.pin,hr.ob,hr.inj⟩
theorem HR.down {E : Env} {lo lo' : Nat} {B : Base E lo} {w0 : World} {p : Nat → Option (Nat × Nat)} {h : Hp} {w : World} {hl : lo ≤ lo'} (hr : HR (B.up hl) w0 p h w) : HR B w0 p h w:=⟨hr.hB,hr.low,hr.pin,hr.ob,hr.inj⟩
theorem HR.later {E : Env} {lb : Nat} {B : Base E lb} {w0 : World} {p : Nat → Option (Nat × Nat)} {h : Hp} {w w' : World} (hr : HR B w0 p h w) (hb : Below w.heap.size w w') : HR B w0 p h w' :=
 ⟨hr.hB,hr.low.trans (hb.mono hr.size),hr.pin,fun i o hi=>by
  obtain ⟨b,k,o',h1,h2,h3,h4⟩:=hr.ob i o hi
  exact ⟨b,k,o',h1,h2,(hb.block b (Array.getElem?_eq_some_iff.1 h3).1).trans h3,h4⟩,hr.inj⟩

theorem HR.new {E : Env} {lb : Nat} {B : Base E lb} {w0 : World} {p : Nat → Option (Nat × Nat)} {h : Hp} {w : World} (hr : HR B w0 p h w) {n k : Nat} (hn : p n = none) {o : AO} {o' : Obj} (ho : OR (newp p n w.heap.size k) k o o') :
  HR B w0 (newp p n w.heap.size k) (fun i=>if i = n then some o else h i) (w.alloc o'):=by
 have hext : ∀ i b,p i = some b → newp p n w.heap.size k i = some b:=fun i b hi=>by
  unfold newp; rw [if_neg]; exact hi; intro e; subst e; rw [hn] at hi; cases hi
 have hlt : ∀ i x b c,h i = some x → p i = some (b,c) → b < w.heap.size:=fun i x b c hi hb=>by
  obtain ⟨b',k',o',h1,_,h3,_⟩:=hr.ob i x hi
  rw [hb] at h1; cases h1
  exact (Array.getElem?_eq_some_iff.1 h3).1
 refine ⟨hr.hB,hr.low.alloc hr.size _,hr.pin.up hext,fun i x hi=>?_,fun i j b c c' hi hj h1 h2=>?_⟩
 ·by_cases e : i = n
  ·subst e
   simp at hi; subst hi
   exact ⟨w.heap.size,k,o',by simp [newp], .inl hr.size,World.alloc_heap_new w o',ho⟩
  ·rw [if_neg e] at hi
   obtain ⟨b,c,x',h1,h2,h3,h4⟩:=hr.ob i x hi
   refine ⟨b,c,x',hext i _ h1,h2,?_,h4.mono hext⟩
   rw [Below.heap_alloc _ _ _ (hlt i x b c hi h1)]; exact h3
 ·by_cases ei : i = n
  ·by_cases ej : j = n
   ·rw [ei,ej]
   ·rw [if_neg ej] at hj
    cases hh : h j with
    | none=>simp [hh] at hj
    | some x =>
     have h2' : p j = some (b,c'):=by simpa [newp,ej] using h2
     have:=hlt j x b c' hh h2'
     simp [newp,ei] at h1; omega
  ·rw [if_neg ei] at hi
   have h1' : p i = some (b,c):=by simpa [newp,ei] using h1
   by_cases ej : j = n
   ·cases hh : h i with
    | none=>simp [hh] at hi
    | some x =>
     have:=hlt i x b c hh h1'
     simp [newp,ej] at h2; omega
   ·rw [if_neg ej] at hj
    have h2' : p j = some (b,c'):=by simpa [newp,ej] using h2
    exact hr.inj i j b c c' hi hj h1' h2'

noncomputable def setL (H : Tr AO) (n : Nat) (l : List AO) : Tr AO:=List.rec (fun H _=>H) (fun o _ ih H n=>ih (H.set n o) (Nat.succ n)) l H n
theorem get_setL : ∀ (l : List AO) (H : Tr AO) (n i : Nat),(setL H n l).get i = if n ≤ i ∧ i < n + l.length then l[i - n]? else H.get i
 | [],H,n,i=>by
  rw [if_neg (by rintro ⟨h1,h2⟩; simp only [List.length_nil] at h2; omega)]; rfl
 | o :: l,H,n,i=>by
  change (setL (H.set n o) (n + 1) l).get i = _
  rw [get_setL l,Tr.get_set]
  by_cases h1 : i = n
  ·subst h1
   rw [if_neg (by omega),if_pos rfl,if_pos (by simp)]; simp
  ·rw [if_neg h1]
   by_cases h2 : n + 1 ≤ i ∧ i < n + 1 + l.length
   ·rw [if_pos h2,if_pos (by simp; omega)]
    obtain ⟨k,rfl⟩ : ∃ k,i = n + 1 + k:=⟨i - (n + 1),by omega⟩
    rw [show n + 1 + k - (n + 1) = k by omega,show n + 1 + k - n = k + 1 by omega]; simp
   ·rw [if_neg h2,if_neg (by simp; omega)]

theorem HR.newL {E : Env} {lb : Nat} {B : Base E lb} {w0 : World} {q g : Nat → Option (Nat × Nat)} {h : Hp} {w w' : World} (hr : HR B w0 q h w) {m : Nat} {l : List AO} (hn : ∀ i,m ≤ i → i < m + l.length → q i = none) (hm : MadeL q g m l w w') :
  HR B w0 g (fun i=>if m ≤ i ∧ i < m + l.length then l[i - m]? else h i) w':=by
 have hlt : ∀ i x b c,h i = some x → g i = some (b,c) → ¬(m ≤ i ∧ i < m + l.length) → b < w.heap.size:=fun i x b c hi hb hno=>by
  obtain ⟨b',k',o',h1,_,h3,_⟩:=hr.ob i x hi
  rw [hm.out i hno,h1] at hb; cases hb
  exact (Array.getElem?_eq_some_iff.1 h3).1
 have hge : ∀ i x b c,l[i - m]? = some x → g i = some (b,c) → m ≤ i → w.heap.size ≤ b:=fun i x b c hi hb hmi=>by
  obtain ⟨b',c',o',h1,h2,_,_⟩:=hm.ob (i - m) x hi
  rw [show m + (i - m) = i by omega,hb] at h1; cases h1; exact h2
 have hl:=hr.later hm.bel
 have hsz:=hr.size
 refine ⟨hl.hB,hl.low,hl.pin.up hm.ext,fun i x hi=>?_,fun i j b c c' hi hj h1 h2=>?_⟩
 ·by_cases e : m ≤ i ∧ i < m + l.length
  ·rw [if_pos e] at hi
   obtain ⟨b,c,o',g1,g2,g3,g4⟩:=hm.ob (i - m) x hi
   rw [show m + (i - m) = i by omega] at g1
   exact ⟨b,c,o',g1, .inl (Nat.le_trans hsz g2),g3,g4⟩
  ·rw [if_neg e] at hi
   obtain ⟨b,c,x',g1,g2,g3,g4⟩:=hl.ob i x hi
   exact ⟨b,c,x',hm.ext i _ g1,g2,g3,g4.mono hm.ext⟩
 ·by_cases ei : m ≤ i ∧ i < m + l.length
  ·by_cases ej : m ≤ j ∧ j < m + l.length
   ·exact hm.inj i j b c c' ei.1 ei.2 ej.1 ej.2 h1 h2
   ·rw [if_neg ej] at hj
    rw [if_pos ei] at hi
    cases hh : h j with
    | none=>simp [hh] at hj
    | some x =>
     cases hk : l[i - m]? with
     | none=>simp [hk] at hi
     | some y =>
      have a1:=hlt j x b c' hh h2 ej
      have a2:=hge i y b c hk h1 ei.1
      omega
  ·rw [if_neg ei] at hi
   by_cases ej : m ≤ j ∧ j < m + l.length
   ·rw [if_pos ej] at hj
    cases hh : h i with
    | none=>simp [hh] at hi
    | some x =>
     cases hk : l[j - m]? with
     | none=>simp [hk] at hj
     | some y =>
      have a1:=hlt i x b c hh h1 ei
      have a2:=hge j y b c' hk h2 ej.1
      omega
   ·rw [if_neg ej] at hj
    rw [hm.out i ei] at h1
    rw [hm.out j ej] at h2
    exact hr.inj i j b c c' hi hj h1 h2

theorem HR.put {E : Env} {lb : Nat} {B : Base E lb} {w0 : World} {p : Nat → Option (Nat × Nat)} {h : Hp} {w w' : World} (hr : HR B w0 p h w) {i b k : Nat} {x o : AO} {o' : Obj} (hi : h i = some x) (hb : p i = some (b,k)) (ho : OR p k o o')
  (hs : w'.heap.size = w.heap.size) (hsame : ∀ k,k ≠ b → w'.heap[k]? = w.heap[k]?) (hnew : w'.heap[b]? = some o') (hli : lb ≤ i) (h1 : w'.os = w.os) (h2 : w'.tape = w.tape) (h3 : w'.output = w.output) :
  HR B w0 p (fun j=>if j = i then some o else h j) w':=by
 obtain ⟨b',kk,x',k1,k2,_,_⟩:=hr.ob i x hi
 rw [hb] at k1; cases k1
 have k2' : B.n ≤ b:=by have:=B.le; omega
 refine ⟨hr.hB,hr.low.trans ⟨h1,h2,h3,by omega,fun k hk=>hsame k (by omega)⟩,hr.pin,fun j y hj=>?_,fun j l c m m' hj hk e1 e2=>?_⟩
 ·by_cases e : j = i
  ·subst e; simp at hj; subst hj
   exact ⟨b,k,o',hb,k2,hnew,ho⟩
  ·rw [if_neg e] at hj
   obtain ⟨c,m,y',g1,g2,g3,g4⟩:=hr.ob j y hj
   refine ⟨c,m,y',g1,g2,?_,g4⟩
   rw [hsame c]; exact g3
   intro ec; subst ec
   exact e (hr.inj j i c m k (by simp [hj]) (by simp [hi]) g1 hb)
 ·have up : ∀ j,((fun j=>if j = i then some o else h j) j).isSome = true → (h j).isSome = true:=fun j hj=>by
   by_cases e : j = i
   ·subst e; simp [hi]
   ·simpa [e] using hj
  exact hr.inj j l c m m' (up j hj) (up l hk) e1 e2

/-! ### One memory within a greater one -/
noncomputable def upH (h : Hp) (H H' : Tr AO) (n n' : Nat) : Hp:=fun i=>if (H.get i).isSome || (decide (n ≤ i) && decide (i < n')) then H'.get i else h i
def Sub (H : Tr AO) (h : Hp) : Prop:=∀ i o,H.get i = some o → h i = some o
def Fresh (p : Nat → Option (Nat × Nat)) (n n' : Nat) : Prop:=∀ i,n ≤ i → i < n' → p i = none
structure Ext (p q : Nat → Option (Nat × Nat)) (n n' : Nat) : Prop where
 ext : ∀ i b,p i = some b → q i = some b
 out : ∀ i,¬(n ≤ i ∧ i < n') → q i = p i
structure Mo (lo : Nat) (H H' : Tr AO) (n n' : Nat) : Prop where
 le : n ≤ n'
 gone : ∀ i,¬(n ≤ i ∧ i < n') → H.get i = none → H'.get i = none
 keep : ∀ i,i < lo → H'.get i = H.get i

theorem Ext.refl (p : Nat → Option (Nat × Nat)) (n : Nat) : Ext p p n n:=⟨fun _ _ h=>h,fun _ _=>rfl⟩
theorem Ext.trans {p q r : Nat → Option (Nat × Nat)} {n m k : Nat} (h : Ext p q n m) (g : Ext q r m k) (h1 : n ≤ m) (h2 : m ≤ k) : Ext p r n k :=
 ⟨fun i b hi=>g.ext i b (h.ext i b hi),fun i hi=>by rw [g.out i (by omega),h.out i (by omega)]⟩
theorem Mo.refl (lo : Nat) (H : Tr AO) (n : Nat) : Mo lo H H n n:=⟨Nat.le_refl _,fun _ _ h=>h,fun _ _=>rfl⟩
theorem Mo.trans {lo : Nat} {H H1 H2 : Tr AO} {n m k : Nat} (h : Mo lo H H1 n m) (g : Mo lo H1 H2 m k) : Mo lo H H2 n k :=
 ⟨Nat.le_trans h.le g.le,fun i hi h0=>g.gone i (by have:=h.le; have:=g.le; omega) (h.gone i (by have:=h.le; have:=g.le; omega) h0),fun i hi=>(g.keep i hi).trans (h.keep i hi)⟩
theorem Fresh.left {p : Nat → Option (Nat × Nat)} {n m k : Nat} (h : Fresh p n k) (hm : m ≤ k) : Fresh p n m:=fun i h1 h2=>h i h1 (by omega)
theorem Fresh.right {p q : Nat → Option (Nat × Nat)} {n m k : Nat} (h : Fresh p n k) (hm : n ≤ m) (hx : Ext p q n m) : Fresh q m k:=fun i h1 h2=>by
 rw [hx.out i (by omega)]; exact h i (by omega) h2

theorem upH_refl {h : Hp} {H : Tr AO} (hs : Sub H h) (n : Nat) : upH h H H n n = h:=by
 funext i
 unfold upH
 cases e : H.get i with
 | none=>simp; intro h1 h2; omega
 | some o=>simp [hs i o e]

theorem upH_trans {lo : Nat} {h : Hp} {H H1 H2 : Tr AO} {n m k : Nat} (a : Mo lo H H1 n m) (b : Mo lo H1 H2 m k) : upH (upH h H H1 n m) H1 H2 m k = upH h H H2 n k:=by
 funext i
 have h1:=a.le
 have h2:=b.le
 unfold upH
 cases e : H.get i with
 | some o =>
  simp only [Option.isSome_some,Bool.true_or,if_true]
  cases e1 : H1.get i with
  | some o1=>simp
  | none =>
   simp only [Option.isSome_none,Bool.false_or,Bool.and_eq_true,decide_eq_true_eq]
   by_cases hi : m ≤ i ∧ i < k
   ·rw [if_pos hi]
   ·rw [if_neg hi]; exact (b.gone i hi e1).symm
 | none =>
  simp only [Option.isSome_none,Bool.false_or,Bool.and_eq_true,decide_eq_true_eq]
  by_cases hi : n ≤ i ∧ i < m
  ·rw [if_pos hi,if_pos (show n ≤ i ∧ i < k by omega)]
   cases e1 : H1.get i with
   | some o1=>simp
   | none=>simp only [Option.isSome_none,Bool.false_or,Bool.and_eq_true,decide_eq_true_eq]; rw [if_neg (by omega)]; exact (b.gone i (by omega) e1).symm
  ·have e1:=a.gone i hi e
   rw [e1,if_neg hi]
   simp only [Option.isSome_none,Bool.false_or,Bool.and_eq_true,decide_eq_true_eq]
   by_cases hj : m ≤ i ∧ i < k
   ·rw [if_pos hj,if_pos (by omega)]
   ·rw [if_neg hj,if_neg (by omega)]

theorem Sub.up {h : Hp} {H H' : Tr AO} {n n' : Nat} (hs : Sub H h) {lo : Nat} (hm : Mo lo H H' n n') : Sub H' (upH h H H' n n'):=fun i o hi=>by
 unfold upH
 split
 ·exact hi
 ·rename_i hc
  simp only [Bool.or_eq_true,Bool.and_eq_true,decide_eq_true_eq,not_or] at hc
  have : H.get i = none:=by cases e : H.get i with | none=>rfl | some o=>simp [e] at hc
  rw [hm.gone i hc.2 this] at hi; cases hi

theorem upH_new {h : Hp} {H : Tr AO} (hs : Sub H h) (n : Nat) (o : AO) : upH h H (H.set n o) n (n + 1) = fun i=>if i = n then some o else h i:=by
 funext i
 unfold upH
 rw [Tr.get_set]
 by_cases e : i = n
 ·subst e; simp
 ·rw [if_neg e,if_neg e]
  cases eh : H.get i with
  | some x=>simp [hs i x eh]
  | none=>simp; intro h1 h2; omega

theorem upH_setL {h : Hp} {H : Tr AO} (hs : Sub H h) (n : Nat) (l : List AO) : upH h H (setL H n l) n (n + l.length) = fun i=>if n ≤ i ∧ i < n + l.length then l[i - n]? else h i:=by
 funext i
 unfold upH
 rw [get_setL]
 by_cases e : n ≤ i ∧ i < n + l.length
 ·simp [e]
 ·rw [if_neg e,if_neg e]
  cases eh : H.get i with
  | some x=>simp [hs i x eh]
  | none =>
   simp only [Option.isSome_none,Bool.false_or,Bool.and_eq_true,decide_eq_true_eq]
   rw [if_neg e]

theorem upH_set {h : Hp} {H : Tr AO} (hs : Sub H h) (n i : Nat) (o x : AO) (hi : H.get i = some x) : upH h H (H.set i o) n n = fun j=>if j = i then some o else h j:=by
 funext j
 unfold upH
 rw [Tr.get_set]
 by_cases e : j = i
 ·subst e; simp [hi]
 ·rw [if_neg e,if_neg e]
  cases eh : H.get j with
  | some x=>simp [hs j x eh]
  | none=>simp; intro h1 h2; omega

theorem Mo.new (lo : Nat) (H : Tr AO) (n : Nat) (o : AO) (hl : lo ≤ n) : Mo lo H (H.set n o) n (n + 1) :=
 ⟨by omega,fun i hi h=>by rw [Tr.get_set,if_neg (by omega)]; exact h,fun i hi=>by rw [Tr.get_set,if_neg (by omega)]⟩
theorem Mo.newL (lo : Nat) (H : Tr AO) (n : Nat) (l : List AO) (hl : lo ≤ n) : Mo lo H (setL H n l) n (n + l.length) :=
 ⟨by omega,fun i hi h=>by rw [get_setL,if_neg hi]; exact h,fun i hi=>by rw [get_setL,if_neg (by omega)]⟩
theorem Mo.set (lo : Nat) (H : Tr AO) (n i : Nat) (o x : AO) (hi : H.get i = some x) (hl : lo ≤ i) : Mo lo H (H.set i o) n n :=
 ⟨Nat.le_refl _,fun j hj h=>by
  rw [Tr.get_set]
  by_cases e : j = i
  ·subst e; rw [hi] at h; cases h
  ·rw [if_neg e]; exact h,fun j hj=>by rw [Tr.get_set,if_neg (by omega)]⟩

/-! ### What an operation turns -/
abbrev Dl:=List (Nat × Option AO)
def upd (h : Hp) : Dl → Hp
 | []=>h
 | (i,x) :: d=>fun j=>if j = i then x else upd h d j
noncomputable def updT (H : Tr AO) (d : Dl) : Tr AO:=List.rec H (fun q _ t=>Tr.put (Nat.succ q.1) t q.1 q.2) d
theorem updT_cons (H : Tr AO) (i : Nat) (x : Option AO) (d : Dl) : updT H ((i,x) :: d) = Tr.put (i + 1) (updT H d) i x:=rfl
theorem get_updT (H : Tr AO) : ∀ (d : Dl) (j : Nat),(updT H d).get j = upd H.get d j
 | [],j=>rfl
 | (i,x) :: d,j=>by rw [updT_cons]; simp only [upd]; rw [Tr.get_put _ _ _ _ _ (by omega),get_updT H d j]
theorem upd_not (h : Hp) : ∀ (d : Dl) (j : Nat),(∀ e ∈ d,e.1 ≠ j) → upd h d j = h j
 | [],j,_=>rfl
 | (i,x) :: d,j,hj=>by
  simp only [upd]; rw [if_neg (fun e=>hj (i,x) (by simp) e.symm),upd_not h d j (fun e he=>hj e (by simp [he]))]
theorem upd_key (h h' : Hp) : ∀ (d : Dl) (j : Nat),(∃ e ∈ d,e.1 = j) → upd h d j = upd h' d j
 | [],j,hj=>by obtain ⟨e,he,_⟩:=hj; simp at he
 | (i,x) :: d,j,hj=>by
  simp only [upd]
  by_cases e : j = i
  ·simp [e]
  ·rw [if_neg e,if_neg e]
   obtain ⟨e',he',hj'⟩:=hj
   rcases List.mem_cons.1 he' with rfl | he'
   ·exact absurd hj'.symm e
   ·exact upd_key h h' d j ⟨e',he',hj'⟩
structure DlOk (lo : Nat) (H : Tr AO) (d : Dl) (n n' : Nat) : Prop where
 le : n ≤ n'
 key : ∀ e ∈ d,lo ≤ e.1 ∧ ((H.get e.1).isSome = true ∨ (n ≤ e.1 ∧ e.1 < n'))
 all : ∀ i,n ≤ i → i < n' → ∃ e ∈ d,e.1 = i
theorem DlOk.nil (lo : Nat) (H : Tr AO) (n : Nat) : DlOk lo H [] n n:=⟨Nat.le_refl _,fun e he=>by simp at he,fun i h1 h2=>by omega⟩
theorem upH_updT {lo : Nat} {h : Hp} {H : Tr AO} (hs : Sub H h) {d : Dl} {n n' : Nat} (hd : DlOk lo H d n n') : upH h H (updT H d) n n' = upd h d:=by
 funext i
 unfold upH
 by_cases hk : ∃ e ∈ d,e.1 = i
 ·rw [get_updT,upd_key H.get h d i hk]
  split
  ·rfl
  ·rename_i hc
   obtain ⟨e,he,rfl⟩:=hk
   have:=(hd.key e he).2
   simp at hc
   rcases this with h1 | h1
   ·simp [hc.1] at h1
   ·have:=hc.2 h1.1; omega
 ·have hn : ∀ e ∈ d,e.1 ≠ i:=fun e he h1=>hk ⟨e,he,h1⟩
  rw [get_updT,upd_not _ d i hn,upd_not h d i hn]
  cases eh : H.get i with
  | some x=>simp [hs i x eh]
  | none =>
   simp only [Option.isSome_none,Bool.false_or,Bool.and_eq_true,decide_eq_true_eq]
   rw [if_neg]
   rintro ⟨h1,h2⟩
   exact hk (hd.all i h1 h2)
theorem Mo.updT {lo : Nat} {H : Tr AO} {d : Dl} {n n' : Nat} (hd : DlOk lo H d n n') : Mo lo H (updT H d) n n' :=
 ⟨hd.le,fun i hi h=>by
  rw [get_updT,upd_not]
  ·exact h
  ·intro e he h1
   subst h1
   rcases (hd.key e he).2 with h2 | h2
   ·simp [h] at h2
   ·exact hi h2,fun i hi=>by
  rw [get_updT,upd_not]
  intro e he h1
  have:=(hd.key e he).1
  omega⟩

theorem ext_new {p : Nat → Option (Nat × Nat)} {n : Nat} (hn : p n = none) (b k : Nat) : Ext p (newp p n b k) n (n + 1) :=
 ⟨fun i c hi=>(by unfold newp; rw [if_neg]; exact hi; intro e; subst e; rw [hn] at hi; cases hi),fun i hi=>(by unfold newp; rw [if_neg (by omega)])⟩
end Go.Proofs.Ytkjceegmmhnajaa

namespace Go.Proofs.Ytkjceegmmhnajaa
open Go.RowKit

def pureRun (P : Program) {α : Type} : Sem α → Option α
 | .pure a=>some a
 | .program k=>pureRun P (k P)
 | .mark _ k=>pureRun P k
 | _=>none

theorem pureRun_ok (P : Program) {α : Type} : ∀ (s : Sem α) (a : α),pureRun P s = some a → ∀ w,s.run P w = .ok a w:=by
 intro s
 induction s with
 | pure x=>intro a h w; simp [pureRun] at h; subst h; rfl
 | program k ih=>intro a h w; simp only [pureRun] at h; simp only [Sem.run]; exact ih P a h w
 | mark m k ih=>intro a h w; simp only [pureRun] at h; simp only [Sem.run]; exact ih a h w
 | _=>intro a h; simp [pureRun] at h

def places (tv : Nat → Option TV) : List Field → Option (List (Nat × Nat))
 | []=>some []
 | f :: r=>match tv f.type,places tv r with
  | some F,some l=>some ((f.offset,F.size) :: l)
  | _,_=>none

theorem places_ok {P : Program} {tv : Nat → Option TV} (hT : TvOk P tv) (w : World) : ∀ (l : List Field) (r : List (Nat × Nat)),places tv l = some r →
  (l.mapM fun f=>do pure (f.offset,← sizeOf f.type) : Sem (List (Nat × Nat))).run P w = .ok r w
 | [],r,h=>by simp [places] at h; subst h; simp
 | f :: l,r,h=>by
  simp only [places] at h
  split at h
  ·rename_i F l' hF hl
   cases h
   have ih:=places_ok hT w l l' hl
   have ih' : (List.mapM (fun f=>Functor.map (Prod.mk f.offset) (sizeOf f.type)) l : Sem (List (Nat × Nat))).run P w = .ok l' w:=by simpa using ih
   simp [List.mapM_cons,run_sizeOf' hT hF w,ih']
  ·cases h

section
variable {p : Nat → Option (Nat × Nat)}
theorem AR.foldSet (off : Nat) : ∀ (l l' : List Value) (k : Nat) (a a' : Array Value),l.length = l'.length → (∀ (i : Nat) (v v' : Value),l[i]? = some v → l'[i]? = some v' → VR p v v') → AR p a a' →
  AR p ((l.zipIdx k).foldl (fun cs (c,j)=>cs.setIfInBounds (off + j) c) a) ((l'.zipIdx k).foldl (fun cs (c,j)=>cs.setIfInBounds (off + j) c) a')
 | [],[],k,a,a',_,_,h=>by simpa using h
 | [],_ :: _,k,a,a',hl,_,h=>by simp at hl
 | _ :: _,[],k,a,a',hl,_,h=>by simp at hl
 | v :: l,v' :: l',k,a,a',hl,hv,h=>by
  simp only [List.zipIdx_cons,List.foldl_cons]
  exact AR.foldSet off l l' (k + 1) _ _ (by simpa using hl) (fun i u u' hu hu'=>hv (i + 1) u u' (by simpa using hu) (by simpa using hu')) (h.set (hv 0 v v' (by simp) (by simp)) _)

def PR (p : Nat → Option (Nat × Nat)) : List (Nat × Value) → List (Nat × Value) → Prop
 | [],[]=>True
 | (i,v) :: l,(j,u) :: m=>i = j ∧ VR p v u ∧ PR p l m
 | _,_=>False

theorem fill_ok (place : Nat → Option (Nat × Nat)) : ∀ (l l' : List (Nat × Value)) (a a' c : Array Value),PR p l l' → AR p a a' → Instr.fill place a l = some c → ∃ c',Instr.fill place a' l' = some c' ∧ AR p c c'
 | [],[],a,a',c,_,ha,h=>by simp [Instr.fill] at h; subst h; exact ⟨a',rfl,ha⟩
 | [],_ :: _,a,a',c,hp,_,_=>by simp [PR] at hp
 | (i,v) :: l,[],a,a',c,hp,_,_=>by simp [PR] at hp
 | (i,v) :: l,(j,u) :: l',a,a',c,hp,ha,h=>by
  obtain ⟨rfl,hv,hl⟩:=hp
  have hc:=hv.cells
  simp only [Instr.fill] at h ⊢
  split at h
  ·cases h
  ·rename_i off size hpl
   try rw [hpl]
   split at h
   ·cases h
   ·rename_i hcond
    have hcond' : ¬ ((decide (u.cells.size ≠ size) || decide (off + u.cells.size > a'.size)) = true):=by rw [← hc.1,← ha.1]; exact hcond
    simp only [if_neg hcond']
    refine fill_ok place l l' _ _ c hl ?_ h
    have:=AR.foldSet (p:=p) off v.cells.toList u.cells.toList 0 a a' (by simpa using hc.1) (fun i x y hx hy=>by
     obtain ⟨y',h1,h2⟩:=hc.get i x (by simpa using hx)
     have : y = y':=by simp at hy; rw [hy] at h1; cases h1; rfl
     subst this; exact h2) ha
    rw [← Array.foldl_toList,← Array.foldl_toList,Array.toList_zipIdx,Array.toList_zipIdx]
    exact this

theorem PR.map {α : Type} (f g : α → Nat × Value) : ∀ (l : List α),(∀ x ∈ l,(f x).1 = (g x).1 ∧ VR p (f x).2 (g x).2) → PR p (l.map f) (l.map g)
 | [],_=>trivial
 | x :: l,h=>by
  have h1:=h x (by simp)
  exact ⟨h1.1,h1.2,PR.map f g l fun y hy=>h y (by simp [hy])⟩
end

def Same (P : Program) (s : Sem Next) (v : Value) : Prop:=∀ w,s.run P w = .ok (.value v) w

/-! ### for the kernel's reckoning -/
noncomputable def gr0 : Value → Bool
 | .bool _=>true
 | .int _ _=>true
 | .float _ _=>true
 | .string _=>true
 | .pointer none=>true
 | .slice none _ _=>true
 | .map none=>true
 | .nilFunc=>true
 | .nilIface=>true
 | .func (.func _) a c=>a.isEmpty && c.isEmpty
 | _=>false
noncomputable def gr1 (v : Value) : Bool:=match v with
 | .agg a=>allQ gr0 a.toList
 | .tuple a=>allQ gr0 a.toList
 | v=>gr0 v
noncomputable def isGround (v : Value) : Bool:=match v with
 | .agg a=>allQ gr1 a.toList
 | .tuple a=>allQ gr1 a.toList
 | v=>gr0 v
theorem ground_mono : ∀ (f : Nat) (v : Value),ground f v = true → ground (f + 1) v = true
 | 0,v,h=>by
  cases v with
  | pointer a=>cases a <;> simp [ground] at h ⊢
  | slice a l c=>cases a <;> simp [ground] at h ⊢
  | map a=>cases a <;> simp [ground] at h ⊢
  | func fn a c=>cases fn <;> simp [ground] at h ⊢ <;> exact h
  | agg a=>simp [ground] at h
  | tuple a=>simp [ground] at h
  | _=>first | rfl | (simp [ground] at h; done) | simpa [ground] using h
 | f + 1,v,h=>by
  cases v with
  | pointer a=>cases a <;> simp [ground] at h ⊢
  | slice a l c=>cases a <;> simp [ground] at h ⊢
  | map a=>cases a <;> simp [ground] at h ⊢
  | func fn a c=>cases fn <;> simp [ground] at h ⊢ <;> exact h
  | agg a=>rw [ground,List.all_eq_true] at h ⊢; exact fun x hx=>ground_mono f x (h x hx)
  | tuple a=>rw [ground,List.all_eq_true] at h ⊢; exact fun x hx=>ground_mono f x (h x hx)
  | _=>first | rfl | (simp [ground] at h; done) | simpa [ground] using h
theorem gr0_ground (v : Value) (h : gr0 v = true) : ground 0 v = true:=by
 cases v with
 | pointer a=>cases a <;> simp [gr0,ground] at h ⊢
 | slice a l c=>cases a <;> simp [gr0,ground] at h ⊢
 | map a=>cases a <;> simp [gr0,ground] at h ⊢
 | func fn a c=>cases fn <;> simp [gr0,ground] at h ⊢ <;> exact h
 | _=>first | rfl | (simp [gr0] at h; done)
theorem gr1_ground (v : Value) (h : gr1 v = true) : ground 1 v = true:=by
 cases v with
 | agg a=>simp only [gr1,allQ_eq] at h; rw [ground,List.all_eq_true] at *; exact fun x hx=>gr0_ground x (h x hx)
 | tuple a=>simp only [gr1,allQ_eq] at h; rw [ground,List.all_eq_true] at *; exact fun x hx=>gr0_ground x (h x hx)
 | _=>exact ground_mono 0 _ (gr0_ground _ h)
theorem isGround_ground (v : Value) (h : isGround v = true) : ground 2 v = true:=by
 cases v with
 | agg a=>simp only [isGround,allQ_eq] at h; rw [ground,List.all_eq_true] at *; exact fun x hx=>gr1_ground x (h x hx)
 | tuple a=>simp only [isGround,allQ_eq] at h; rw [ground,List.all_eq_true] at *; exact fun x hx=>gr1_ground x (h x hx)
 | _=>exact ground_mono 1 _ (ground_mono 0 _ (gr0_ground _ h))

noncomputable def retI (k : IntKind) (n : Int) : Option Value :=
 match k with
 | .i64=>match n with
  | .ofNat m=>Bool.rec (some (.int .i64 (IntKind.wrap .i64 n))) (Nat.rec (some (.int .i64 (.ofNat 0))) (fun j _=>some (.int .i64 (.ofNat (Nat.succ j)))) m) (Nat.blt m 9223372036854775808)
  | .negSucc m=>Bool.rec (some (.int .i64 (IntKind.wrap .i64 n))) (Nat.rec (some (.int .i64 (.negSucc 0))) (fun j _=>some (.int .i64 (.negSucc (Nat.succ j)))) m) (Nat.blt m 9223372036854775808)
 | k=>some (.int k (k.wrap n))
theorem wrap_id {x : Int} (h0 : -9223372036854775808 ≤ x) (h1 : x < 9223372036854775808) : IntKind.wrap .i64 x = x:=by
 unfold IntKind.wrap IntKind.signed IntKind.bits
 simp
 split <;> omega
theorem retI_eq (k : IntKind) (n : Int) : retI k n = some (.int k (k.wrap n)):=by
 unfold retI
 cases k <;> try rfl
 cases n with
 | ofNat m =>
  dsimp only
  cases h : Nat.blt m 9223372036854775808 with
  | false=>rfl
  | true =>
   have hm : m < 9223372036854775808:=by simp [Nat.blt] at h; omega
   rw [wrap_id (by show _ ≤ (m : Int); omega) (by show (m : Int) < _; omega)]
   cases m <;> rfl
 | negSucc m =>
  dsimp only
  cases h : Nat.blt m 9223372036854775808 with
  | false=>rfl
  | true =>
   have hm : m < 9223372036854775808:=by simp [Nat.blt] at h; omega
   rw [wrap_id (by rw [Int.negSucc_eq]; omega) (by rw [Int.negSucc_eq]; omega)]
   cases m <;> rfl
noncomputable def ltI (a b : Int) : Bool:=match a,b with
 | .ofNat m, .ofNat n=>Nat.blt m n
 | .negSucc _, .ofNat _=>true
 | .ofNat _, .negSucc _=>false
 | .negSucc m, .negSucc n=>Nat.blt n m
theorem ltI_eq (a b : Int) : ltI a b = decide (a < b):=by
 rw [Bool.eq_iff_iff,decide_eq_true_iff]
 cases a <;> cases b <;> simp [ltI,Nat.blt,Int.negSucc_eq] <;> omega
noncomputable def eqI (a b : Int) : Bool:=match a,b with
 | .ofNat m, .ofNat n=>Nat.beq m n
 | .negSucc m, .negSucc n=>Nat.beq m n
 | _,_=>false
theorem eqI_eq (a b : Int) : eqI a b = (a == b):=by
 rw [Bool.eq_iff_iff,beq_iff_eq]
 cases a <;> cases b <;> simp [eqI] <;> omega
noncomputable def inLenB (i : Int) (len : Nat) : Option Nat:=match i with
 | .ofNat m=>Bool.rec none (some m) (Nat.blt m len)
 | _=>none
theorem inLenB_some {i : Int} {len m : Nat} (h : inLenB i len = some m) : (0 ≤ i ∧ i < (len : Int)) ∧ i.toNat = m:=by
 unfold inLenB at h
 cases i with
 | ofNat k =>
  dsimp only at h
  cases e : Nat.blt k len with
  | false=>rw [e] at h; cases h
  | true =>
   rw [e] at h
   cases h
   have : m < len:=by simp [Nat.blt] at e; omega
   refine ⟨⟨by simp,?_⟩,rfl⟩
   show (m : Int) < _
   omega
 | negSucc k=>cases h

noncomputable def aPart (tv : Nat → Option TV) (t : Nat) (cs : Array Value) (off : Nat) : Option Value :=
 match tv t with
 | some T=>Bool.rec (getQ cs.toList off) (some (.agg (extQ cs off T.size))) T.agg
 | none=>none

theorem aPart_ok {P : Program} {tv : Nat → Option TV} (hT : TvOk P tv) {p : Nat → Option (Nat × Nat)} {t : Nat} {cs cs' : Array Value} {off : Nat} {v : Value} (hc : AR p cs cs') (h : aPart tv t cs off = some v) :
  ∃ v',(∀ w,(part t cs' off).run P w = .ok v' w) ∧ VR p v v':=by
 unfold aPart at h
 split at h
 ·rename_i T hTt
  rw [extQ_eq,getQ_eq] at h
  cases ha : T.agg with
  | true =>
   simp only [ha] at h
   cases h
   refine ⟨.agg (cs'.extract off (off + T.size)),fun w=>?_, .agg (hc.extract _ _).1 (hc.extract _ _).2⟩
   simp [part,run_isAgg' hT hTt w,run_sizeOf' hT hTt w,ha]
  | false =>
   simp only [ha] at h
   obtain ⟨v',h1,h2⟩:=hc.get off v (by simpa using h)
   refine ⟨v',fun w=>?_,h2⟩
   simp [part,run_isAgg' hT hTt w,ha,h1]
 ·cases h

noncomputable def fillQ (place : Nat → Option (Nat × Nat)) (l : List (Nat × Value)) : List Value → Option (List Value) :=
 List.rec (fun c=>some c) (fun q _ ih c=>match place q.1 with
  | none=>none
  | some (off,size)=>match q.2.cells.toList with
   | vs=>Bool.rec none (Bool.rec none (ih (appQ (takeQ c off) (appQ vs (dropQ c (Nat.add off size))))) (Nat.ble (Nat.add off size) (lenQ c))) (Nat.beq (lenQ vs) size)) l

theorem foldSet_splice (off : Nat) : ∀ (l : List Value) (k : Nat) (a : Array Value),off + k + l.length ≤ a.size →
  (l.zipIdx k).foldl (fun cs (c,j)=>cs.setIfInBounds (off + j) c) a = ⟨a.toList.take (off + k) ++ l ++ a.toList.drop (off + k + l.length)⟩
 | [],k,a,h=>by apply Array.toList_inj.1; simp
 | v :: l,k,a,h=>by
  simp only [List.zipIdx_cons,List.foldl_cons]
  rw [foldSet_splice off l (k + 1) _ (by simp at h ⊢; omega)]
  apply Array.toList_inj.1
  simp only [Array.toList_setIfInBounds]
  have hlt : off + k < a.toList.length:=by simp at h ⊢; omega
  have h1 : (a.toList.set (off + k) v).take (off + (k + 1)) = a.toList.take (off + k) ++ [v]:=by
   rw [show off + (k + 1) = off + k + 1 from by omega,List.take_succ_eq_append_getElem (by simpa using hlt),List.take_set_of_le (by omega)]
   simp
  have h2 : (a.toList.set (off + k) v).drop (off + (k + 1) + l.length) = a.toList.drop (off + k + (v :: l).length):=by
   rw [List.drop_set_of_lt (by omega)]
   congr 1; simp; omega
  rw [h1,h2]; simp

theorem fillQ_eq (place : Nat → Option (Nat × Nat)) : ∀ (l : List (Nat × Value)) (c : List Value) (r : List Value),fillQ place l c = some r → Instr.fill place ⟨c⟩ l = some ⟨r⟩
 | [],c,r,h=>by cases h; rfl
 | (i,v) :: l,c,r,h=>by
  change (match place i with
   | none=>none
   | some (off,size)=>Bool.rec none (Bool.rec none (fillQ place l (appQ (takeQ c off) (appQ v.cells.toList (dropQ c (Nat.add off size))))) (Nat.ble (Nat.add off size) (lenQ c))) (Nat.beq (lenQ v.cells.toList) size)) = some r at h
  unfold Instr.fill
  split at h
  ·cases h
  ·rename_i off size hp
   rw [hp]
   dsimp only
   rw [lenQ_eq,lenQ_eq] at h
   cases e1 : Nat.beq v.cells.toList.length size with
   | false=>rw [e1] at h; cases h
   | true =>
    rw [e1] at h; dsimp only at h
    have e1' : v.cells.size = size:=by simpa using Nat.eq_of_beq_eq_true e1
    cases e2 : Nat.ble (Nat.add off size) c.length with
    | false=>rw [e2] at h; cases h
    | true =>
     rw [e2] at h; dsimp only at h
     have e2' : off + size ≤ c.length:=Nat.le_of_ble_eq_true e2
     rw [if_neg (by simp [e1']; exact e2')]
     rw [appQ_eq,appQ_eq,takeQ_eq,dropQ_eq] at h
     rw [← Array.foldl_toList,Array.toList_zipIdx]
     have:=foldSet_splice off v.cells.toList 0 ⟨c⟩ (by simp [e1']; exact e2')
     simp only at this
     rw [this]
     refine fillQ_eq place l _ r ?_
     simp only [Nat.add_zero,Array.length_toList,e1',List.append_assoc]
     exact h

noncomputable def aGround (P : Program) (o : Oper) (r : Operand → Value) : Option Value :=
 Bool.rec none (match pureRun P (execOp r o) with
  | some (.value v)=>Bool.rec none (some v) (isGround v)
  | _=>none) (allQ (fun x=>isGround (r x)) o.op.operands.toList)

noncomputable def boundOf (r : Operand → Value) (d : Nat) : Option Operand → Option Nat
 | none=>some d
 | some x=>match r x with
  | .int _ (.ofNat i)=>some i
  | _=>none

noncomputable def aSlice (tv : Nat → Option TV) (t : Nat) (x : Value) (lo hi mx : Option Operand) (r : Operand → Value) : Option Value :=
 match tv t with
 | none=>none
 | some T=>match T.und,x with
  | .slice e, .slice (some ⟨b,o,none⟩) len cap=>match tv e,boundOf r 0 lo,boundOf r len hi with
   | some E,some l,some h=>match mx with
    | none=>if l ≤ h ∧ h ≤ len ∧ len ≤ cap ∧ (l < len ∨ l = 0 ∨ cap ≠ unk) ∧ (cap = unk → l = 0 ∨ 0 < E.size) ∧ cap ≤ unk then some (.slice (some ⟨b,if cap = l then o else o + l * E.size,none⟩) (h - l) (if cap = unk then unk else cap - l)) else none
    | some _=>match boundOf r 0 mx with
     | some m=>if l ≤ h ∧ h ≤ m ∧ m ≤ len ∧ len ≤ cap ∧ hi.isSome = true ∧ m < unk then some (.slice (some ⟨b,if m = l then o else o + l * E.size,none⟩) (h - l) (m - l)) else none
     | none=>none
   | _,_,_=>none
  | .array n e, .pointer (some ⟨b,o,none⟩)=>match tv e,boundOf r 0 lo,boundOf r n hi,mx with
   | some E,some l,some h,none=>if l ≤ h ∧ h ≤ n ∧ n < unk then some (.slice (some ⟨b,if n = l then o else o + l * E.size,none⟩) (h - l) (n - l)) else none
   | _,_,_,_=>none
  | _,_=>none

noncomputable def partsQ (r : Operand → Value) (parts : Array (Nat × Operand)) : List (Nat × Value):=mapQ (fun q=>(q.1,r q.2)) parts.toList
theorem partsQ_eq (r : Operand → Value) (parts : Array (Nat × Operand)) : partsQ r parts = (parts.map fun (i,x)=>(i,r x)).toList:=by
 unfold partsQ; rw [mapQ_eq,Array.toList_map]
def placeOf (pl : List (Nat × Nat)) : Nat → Option (Nat × Nat):=(pl.toArray[·]?)
noncomputable def placeQ (pl : List (Nat × Nat)) : Nat → Option (Nat × Nat):=getQ pl
theorem placeQ_eq (pl : List (Nat × Nat)) : placeQ pl = placeOf pl:=by funext i; simp [placeQ,placeOf,getQ_eq]

noncomputable def aPick (c a b : Value) : Option Value:=match c with | .bool t=>some (Bool.rec b a t) | _=>none
noncomputable def aBuild (tv : Nat → Option TV) (T : TV) (parts : List (Nat × Value)) : Option Value :=
 match T.und with
 | .struct fs=>match places tv fs.toList with
  | some pl=>match fillQ (placeQ pl) parts T.zero.cells.toList with
   | some c=>some (.agg ⟨c⟩)
   | none=>none
  | none=>none
 | .array _ e=>match tv e with
  | some E=>match fillQ (fun i=>some (Nat.mul i E.size,E.size)) parts T.zero.cells.toList with
   | some c=>some (.agg ⟨c⟩)
   | none=>none
  | none=>none
 | _=>none
noncomputable def aFieldAddr (tv : Nat → Option TV) (S : Option TV) (x : Value) (f : Nat) : Option Value :=
 match S,x with
 | some S, .pointer (some ⟨b,o,none⟩)=>match S.und with
  | .struct fs=>match getQ fs.toList f with
   | some fl=>match tv fl.type with
    | some F=>Nat.rec none (fun _ _=>some (.pointer (some ⟨b,Nat.add o fl.offset,none⟩))) F.size
    | none=>none
   | none=>none
  | _=>none
 | _,_=>none
noncomputable def aIndexAddr (tv : Nat → Option TV) (T : Option TV) (x ix : Value) : Option Value :=
 match T,ix with
 | some T, .int _ i=>match T.und,x with
  | .array len e, .pointer (some ⟨b,o,none⟩)=>match tv e,inLenB i len with
   | some E,some m=>some (.pointer (some ⟨b,Nat.add o (Nat.mul m E.size),none⟩))
   | _,_=>none
  | .slice e, .slice (some ⟨b,o,none⟩) len _=>match tv e,inLenB i len with
   | some E,some m=>some (.pointer (some ⟨b,Nat.add o (Nat.mul m E.size),none⟩))
   | _,_=>none
  | _,_=>none
 | _,_=>none
noncomputable def aIndex (tv : Nat → Option TV) (T : Option TV) (cs : Array Value) (ix : Value) : Option Value :=
 match T,ix with
 | some T, .int _ i=>match T.und with
  | .array len e=>match tv e,inLenB i len with
   | some E,some m=>aPart tv e cs (Nat.mul m E.size)
   | _,_=>none
  | _=>none
 | _,_=>none
noncomputable def aField (tv : Nat → Option TV) (T : Option TV) (x : Value) (f : Nat) : Option Value :=
 match T,x with
 | some T, .agg cs=>match T.und with
  | .struct fs=>match getQ fs.toList f with
   | some fl=>aPart tv fl.type cs fl.offset
   | none=>none
  | _=>none
 | _,_=>none
noncomputable def aExtract (x : Value) (i : Nat) : Option Value:=match x with | .tuple vs=>getQ vs.toList i | _=>none
noncomputable def aMkFunc (fn : Fn) (first captured : List Value) : Option Value:=match fn with
 | .func f=>some (.func (.func f) ⟨first⟩ ⟨captured⟩)
 | _=>none
noncomputable def aNil (x : Value) : Option Value:=match x with | .pointer (some a)=>some (.pointer (some a)) | _=>none
noncomputable def aInt2 (op : BinOp) (k : IntKind) (a b : Int) : Option Value :=
 match op with
 | .add=>retI k (a + b)
 | .sub=>retI k (a - b)
 | .mul=>retI k (a * b)
 | .eql=>some (.bool (eqI a b))
 | .neq=>some (.bool (!eqI a b))
 | .lss=>some (.bool (ltI a b))
 | .leq=>some (.bool (!ltI b a))
 | .gtr=>some (.bool (ltI b a))
 | .geq=>some (.bool (!ltI a b))
 | _=>none
noncomputable def aNilSlice (T : Option TV) (op : BinOp) : Option Value :=
 match T with
 | some T=>match T.und with
  | .slice _=>match op with | .eql=>some (.bool false) | .neq=>some (.bool true) | _=>none
  | _=>none
 | none=>none
noncomputable def aBin (P : Program) (tv : Nat → Option TV) (o : Oper) (r : Operand → Value) (op : BinOp) (t : Nat) (x y : Value) : Option Value :=
 match x,y with
 | .int .i64 a, .int .i64 b=>match aInt2 op .i64 a b with
  | some v=>some v
  | none=>aGround P o r
 | .slice (some _) _ _, .slice none _ _=>aNilSlice (tv t) op
 | _,_=>aGround P o r
noncomputable def aLenOf (T : Option TV) (l : Nat) : Option Value :=
 match T with
 | some T=>match T.und with | .slice _=>some (.int .i64 (.ofNat l)) | _=>none
 | none=>none
noncomputable def aLen (P : Program) (tv : Nat → Option TV) (o : Oper) (r : Operand → Value) (args : List Operand) (types : List Nat) : Option Value :=
 match args,types with
 | x :: _,t :: _=>match r x with
  | .slice (some _) l _=>aLenOf (tv t) l
  | _=>aGround P o r
 | _,_=>none
noncomputable def aSl (P : Program) (tv : Nat → Option TV) (o : Oper) (r : Operand → Value) (t : Nat) (x : Value) (lo hi mx : Option Operand) : Option Value :=
 match x with
 | .slice (some _) _ _=>aSlice tv t x lo hi mx r
 | .pointer (some _)=>aSlice tv t x lo hi mx r
 | _=>aGround P o r
noncomputable def aIx (P : Program) (tv : Nat → Option TV) (o : Oper) (r : Operand → Value) (t : Nat) (x ix : Value) : Option Value :=
 match x with
 | .agg cs=>aIndex tv (tv t) cs ix
 | _=>aGround P o r
noncomputable def aBuild1 (tv : Nat → Option TV) (T : Option TV) (parts : List (Nat × Value)) : Option Value :=
 match T with
 | some T=>aBuild tv T parts
 | none=>none
noncomputable def aBuiltin (P : Program) (tv : Nat → Option TV) (o : Oper) (r : Operand → Value) (b : Builtin) (args : Array Operand) (types : Array Nat) : Option Value :=
 match b with
 | .len=>aLen P tv o r args.toList types.toList
 | .max=>aGround P o r
 | .min=>aGround P o r
 | _=>none
noncomputable def aCallee (P : Program) (tv : Nat → Option TV) (o : Oper) (r : Operand → Value) (c : Callee) (args : Array Operand) (types : Array Nat) : Option Value :=
 match c with
 | .builtin b=>aBuiltin P tv o r b args types
 | _=>none

noncomputable def aSil (P : Program) (tv : Nat → Option TV) (o : Oper) (r : Operand → Value) : Option Value :=
 match o.op with
 | .move x=>some (r x)
 | .assign x=>some (r x)
 | .pick c a b=>aPick (r c) (r a) (r b)
 | .build t parts=>aBuild1 tv (tv t) (partsQ r parts)
 | .fieldAddr s x f=>aFieldAddr tv (tv s) (r x) f
 | .indexAddr t x ix=>aIndexAddr tv (tv t) (r x) (r ix)
 | .index t x ix=>aIx P tv o r t (r x) (r ix)
 | .field t x f=>aField tv (tv t) (r x) f
 | .extract x i=>aExtract (r x) i
 | .makeFunc fn first captured=>aMkFunc fn (mapQ r first.toList) (mapQ r captured.toList)
 | .nilCheck x=>aNil (r x)
 | .binOp op t x y _=>aBin P tv o r op t (r x) (r y)
 | .unOp ..=>aGround P o r
 | .convert ..=>aGround P o r
 | .slice t x lo hi mx=>aSl P tv o r t (r x) lo hi mx
 | .call c=>aCallee P tv o r c.callee c.args c.argTypes
 | _=>none

theorem aGround_ok {P : Program} {o : Oper} {r r' : Operand → Value} {p : Nat → Option (Nat × Nat)} (hs : ∀ cs b,o.op ≠ .select cs b) (hr : ∀ x ∈ o.op.operands,VR p (r x) (r' x))
  {v : Value} (h : aGround P o r = some v) : Same P (execOp r' o) v ∧ VR p v v:=by
 unfold aGround at h
 rw [allQ_eq] at h
 cases hg : o.op.operands.toList.all (fun x=>isGround (r x)) with
 | false=>rw [hg] at h; cases h
 | true =>
  rw [hg] at h
  dsimp only at h
  split at h
  ·rename_i u hu
   cases hv : isGround u with
   | false=>rw [hv] at h; cases h
   | true =>
    rw [hv] at h
    cases h
    have : execOp r' o = execOp r o:=execOp_congr o hs fun x hx=>VR.eq_of_ground 2 (isGround_ground _ (List.all_eq_true.1 hg x (by simpa using hx))) (hr x hx)
    refine ⟨fun w=>?_,VR.of_ground p 2 _ (isGround_ground _ hv)⟩
    rw [this]
    exact pureRun_ok P _ _ hu w
  ·cases h

section
variable {P : Program} {tv : Nat → Option TV} {p : Nat → Option (Nat × Nat)}
theorem VR.int_inv {k : IntKind} {n : Int} {v : Value} (h : VR p (.int k n) v) : v = .int k n:=by cases h; rfl
theorem VR.bool_inv {b : Bool} {v : Value} (h : VR p (.bool b) v) : v = .bool b:=by cases h; rfl
theorem VR.agg_inv {a : Array Value} {v : Value} (h : VR p (.agg a) v) : ∃ a',v = .agg a' ∧ AR p a a':=by cases h; exact ⟨_,rfl,by assumption,by assumption⟩
theorem VR.tuple_inv {a : Array Value} {v : Value} (h : VR p (.tuple a) v) : ∃ a',v = .tuple a' ∧ AR p a a':=by cases h with | tuple hs hA=>exact ⟨_,rfl,AR.of_lt hs hA⟩
theorem VR.ptr_inv {b o : Nat} {v : Value} (h : VR p (.pointer (some ⟨b,o,none⟩)) v) : ∃ b' k,v = .pointer (some ⟨b',o,none⟩) ∧ p b = some (b',k):=by cases h; exact ⟨_,_,rfl,by assumption⟩
theorem VR.slice_inv {b o l c : Nat} {v : Value} (h : VR p (.slice (some ⟨b,o,none⟩) l c) v) : ∃ b' c' k,v = .slice (some ⟨b',o,none⟩) l c' ∧ p b = some (b',k) ∧ ((c < unk ∧ c = c') ∨ (c = unk ∧ l ≤ c' ∧ (o = 0 → c' = k))):=by
 cases h; exact ⟨_,_,_,rfl,by assumption,by assumption⟩
theorem VR.slice_inv' {a : Addr} {l c : Nat} {v : Value} (h : VR p (.slice (some a) l c) v) : ∃ a' c',v = .slice (some a') l c':=by
 cases h <;> exact ⟨_,_,rfl⟩
theorem add_eq (b o n : Nat) : (⟨b,o,none⟩ : Addr).add n = ⟨b,o + n,none⟩:=by unfold Addr.add; split <;> simp_all

end
end Go.Proofs.Ytkjceegmmhnajaa

namespace Go.Proofs.Ytkjceegmmhnajaa
open Go.RowKit
section
variable {P : Program} {tv : Nat → Option TV} {p : Nat → Option (Nat × Nat)} {r r' : Operand → Value}

theorem bound_run {d l y : Nat} {m : Option Operand} {code : BoundsCode} (hr : ∀ x,m = some x → VR p (r x) (r' x)) (h : boundOf r d m = some l) (hly : l ≤ y) (w : World) :
  (m = none ∧ l = d) ∨ (∃ x k i,m = some x ∧ r' x = .int k i ∧ (Instr.sliceBound (.int k i) y code).run P w = .ok l w):=by
 cases m with
 | none=>simp [boundOf] at h; exact .inl ⟨rfl,h.symm⟩
 | some x =>
  simp only [boundOf] at h
  split at h
  ·rename_i k i hx
   have:=hr x rfl
   rw [hx] at this
   have e:=this.int_inv
   cases h
   refine .inr ⟨x,k,_,rfl,e,?_⟩
   simp only [Instr.sliceBound,asIntOf]
   simp
   intro h1; omega
  ·cases h

theorem bounds_run {isSlice : Bool} {len cap l h : Nat} {lo hi : Option Operand} (hlo : ∀ x,lo = some x → VR p (r x) (r' x)) (hhi : ∀ x,hi = some x → VR p (r x) (r' x))
  (h1 : boundOf r 0 lo = some l) (h2 : boundOf r len hi = some h) (hlh : l ≤ h) (hc : h ≤ cap) (w : World) :
  (Instr.sliceBounds isSlice len cap (lo.map r') (hi.map r') none).run P w = .ok (l,h,cap) w:=by
 unfold Instr.sliceBounds
 rcases bound_run (P:=P) (y:=cap) (code:=if isSlice then .sliceAcap else .sliceAlen) hhi h2 hc w with ⟨rfl,rfl⟩ | ⟨x,k,i,rfl,e,hrun⟩
 ·rcases bound_run (P:=P) (y:=h) (code:=.sliceB) hlo h1 hlh w with ⟨rfl,rfl⟩ | ⟨x,k,i,rfl,e,hrun⟩
  ·simp
  ·simp only [Option.map_some,Option.map_none,e,Option.isSome_none,Bool.false_eq_true,if_false]
   simp [hrun]
 ·rcases bound_run (P:=P) (y:=h) (code:=.sliceB) hlo h1 hlh w with ⟨rfl,rfl⟩ | ⟨x',k',i',rfl,e',hrun'⟩
  ·simp only [Option.map_some,Option.map_none,e]
   simp [hrun]
  ·simp only [Option.map_some,e,e',Option.isSome_none,Bool.false_eq_true,if_false]
   simp [hrun,hrun']

theorem bounds3_run {len cap l h m : Nat} {lo hi mx : Option Operand} (hlo : ∀ x,lo = some x → VR p (r x) (r' x)) (hhi : ∀ x,hi = some x → VR p (r x) (r' x)) (hmx : ∀ x,mx = some x → VR p (r x) (r' x))
  (h1 : boundOf r 0 lo = some l) (h2 : boundOf r len hi = some h) (h3 : boundOf r 0 mx = some m) (hmx' : mx.isSome = true) (hhi' : hi.isSome = true) (hlh : l ≤ h) (hc : h ≤ m) (hm : m ≤ cap) (w : World) :
  (Instr.sliceBounds true len cap (lo.map r') (hi.map r') (mx.map r')).run P w = .ok (l,h,m) w:=by
 unfold Instr.sliceBounds
 rcases bound_run (P:=P) (y:=cap) (code:=.slice3Acap) hmx h3 hm w with ⟨rfl,rfl⟩ | ⟨x,k,i,rfl,e,hrun⟩
 ·simp at hmx'
 rcases bound_run (P:=P) (y:=m) (code:=.slice3B) hhi h2 hc w with ⟨rfl,rfl⟩ | ⟨x2,k2,i2,rfl,e2,hrun2⟩
 ·simp at hhi'
 rcases bound_run (P:=P) (y:=h) (code:=.slice3C) hlo h1 hlh w with ⟨rfl,rfl⟩ | ⟨x3,k3,i3,rfl,e3,hrun3⟩
 ·simp only [Option.map_some,Option.map_none,e,e2]
  simp [hrun,hrun2]
 ·simp only [Option.map_some,e,e2,e3,Option.isSome_some]
  simp [hrun,hrun2,hrun3]

theorem aSlice_ok (hT : TvOk P tv) {t : Nat} {x x' : Value} {lo hi mx : Option Operand} (hx : VR p x x') (hlo : ∀ x,lo = some x → VR p (r x) (r' x)) (hhi : ∀ x,hi = some x → VR p (r x) (r' x)) (hmx : ∀ x,mx = some x → VR p (r x) (r' x))
  {v : Value} (h : aSlice tv t x lo hi mx r = some v) : ∃ v',(∀ w,(Instr.sliceAt t x' (lo.map r') (hi.map r') (mx.map r')).run P w = .ok v' w) ∧ VR p v v':=by
 unfold aSlice at h
 split at h
 ·cases h
 rename_i T hTt
 split at h
 ·-- a slice
  rename_i e b o len cap hund
  obtain ⟨b',cap',kk,rfl,hb,hcap⟩:=hx.slice_inv
  split at h
  ·rename_i E l hh hE hl hhh
   split at h
   ·-- two bounds
    split at h
    ·rename_i hc
     obtain ⟨c1,c2,c3,c4,c6,c7⟩:=hc
     cases h
     have hle : len ≤ cap':=by rcases hcap with ⟨_,rfl⟩ | ⟨_,h,_⟩ <;> omega
     refine ⟨.slice (some (if cap' = l then ⟨b',o,none⟩ else (⟨b',o,none⟩ : Addr).add (l * E.size))) (hh - l) (cap' - l),fun w=>?_,?_⟩
     ·have h1:=run_und hT hTt w
      have h2:=bounds_run (P:=P) (isSlice:=true) hlo hhi hl hhh c1 (by omega : hh ≤ cap') w
      simp only [Instr.sliceAt,Instr.slice,Sem.run_bind,h1,Result.andThen_ok,hund,Option.map_none,h2,run_sizeOf' hT hE w,Sem.run_pure]
      split <;> simp
     ·rw [add_eq]
      rcases hcap with ⟨hlt,rfl⟩ | ⟨rfl,hc',hk⟩
      ·rw [if_neg (show ¬ cap = unk by omega)]
       by_cases hcl : cap = l
       ·rw [if_pos hcl,if_pos hcl]; exact .slice hb (.inl ⟨by omega,rfl⟩)
       ·rw [if_neg hcl,if_neg hcl]; exact .slice hb (.inl ⟨by omega,rfl⟩)
      ·simp only [if_true]
       have hl' : ¬ (unk = l):=by
        intro e0
        rcases c4 with c4 | c4 | c4
        ·omega
        ·subst c4; exact absurd e0 (by decide)
        ·exact c4 rfl
       rw [if_neg hl']
       by_cases h0 : l = 0
       ·subst h0
        simp only [Nat.zero_mul,Nat.add_zero,ite_self,Nat.sub_zero]
        exact .slice hb (.inr ⟨rfl,by omega,hk⟩)
       ·have hcl : ¬ cap' = l:=by
         rcases c4 with c4 | c4 | c4
         ·omega
         ·exact absurd c4 h0
         ·exact absurd rfl c4
        have hE0 : 0 < E.size:=(c6 rfl).resolve_left h0
        have : 0 < l * E.size:=Nat.mul_pos (by omega) hE0
        rw [if_neg hcl]; exact .slice hb (.inr ⟨rfl,by omega,fun e=>by omega⟩)
    ·cases h
   ·-- three bounds
    rename_i q
    split at h
    ·rename_i m hm
     split at h
     ·rename_i hc
      obtain ⟨c1,c2,c3,c4,c5,c8⟩:=hc
      cases h
      have hle : len ≤ cap':=by rcases hcap with ⟨_,rfl⟩ | ⟨_,h,_⟩ <;> omega
      refine ⟨.slice (some (if m = l then ⟨b',o,none⟩ else (⟨b',o,none⟩ : Addr).add (l * E.size))) (hh - l) (m - l),fun w=>?_,?_⟩
      ·have h1:=run_und hT hTt w
       have h2:=bounds3_run (P:=P) hlo hhi hmx hl hhh hm rfl c5 c1 c2 (by omega : m ≤ cap') w
       simp only [Instr.sliceAt,Instr.slice,Sem.run_bind,h1,Result.andThen_ok,hund,h2,run_sizeOf' hT hE w,Sem.run_pure]
       split <;> simp
      ·rw [add_eq]
       by_cases hcl : m = l
       ·rw [if_pos hcl,if_pos hcl]; exact .slice hb (.inl ⟨by omega,rfl⟩)
       ·rw [if_neg hcl,if_neg hcl]; exact .slice hb (.inl ⟨by omega,rfl⟩)
     ·cases h
    ·cases h
  ·cases h
 ·-- an array's address
  rename_i n e b o hund
  obtain ⟨b',kk,rfl,hb⟩:=hx.ptr_inv
  split at h
  ·rename_i mq E l hh hE hl hhh
   split at h
   ·rename_i hc
    obtain ⟨c1,c2,c3⟩:=hc
    cases h
    refine ⟨.slice (some (if n = l then ⟨b',o,none⟩ else (⟨b',o,none⟩ : Addr).add (l * E.size))) (hh - l) (n - l),fun w=>?_,?_⟩
    ·have h1:=run_und hT hTt w
     have h2:=bounds_run (P:=P) (isSlice:=false) hlo hhi hl hhh c1 c2 w
     simp only [Instr.sliceAt,Instr.sureAddr,Sem.run_bind,h1,Result.andThen_ok,hund,Option.map_none,Sem.run_pure,h2,run_sizeOf' hT hE w]
    ·rw [add_eq]
     by_cases hcl : n = l
     ·rw [if_pos hcl,if_pos hcl]; exact .slice hb (.inl ⟨by omega,rfl⟩)
     ·rw [if_neg hcl,if_neg hcl]; exact .slice hb (.inl ⟨by omega,rfl⟩)
   ·cases h
  ·cases h
 ·cases h
end
end Go.Proofs.Ytkjceegmmhnajaa

namespace Go.Proofs.Ytkjceegmmhnajaa
open Go.RowKit
section
variable {P : Program} {tv : Nat → Option TV} {p : Nat → Option (Nat × Nat)} {r r' : Operand → Value} {t : Nat}

theorem AR.map_op (xs : Array Operand) (h : ∀ x ∈ xs,VR p (r x) (r' x)) : AR p (xs.map r) (xs.map r') :=
 AR.of_get (by simp) fun i v v' hv hv'=>by
  simp only [Array.getElem?_map] at hv hv'
  cases e : xs[i]? with
  | none=>simp [e] at hv
  | some x=>simp [e] at hv hv'; subst hv; subst hv'; exact h x (Array.mem_of_getElem? e)

theorem PR.ops (parts : Array (Nat × Operand)) (h : ∀ x ∈ parts.map (·.2),VR p (r x) (r' x)) : PR p (parts.map fun (i,x)=>(i,r x)).toList (parts.map fun (i,x)=>(i,r' x)).toList:=by
 rw [Array.toList_map,Array.toList_map]
 refine PR.map _ _ _ fun x hx=>⟨rfl,?_⟩
 exact h x.2 (Array.mem_map.2 ⟨x,by simpa using hx,rfl⟩)

theorem eq_slice_nil {t e : Nat} {x : TypeDesc} {a : Addr} {l c l2 c2 : Nat} {w : World} (hu : (underlying t).run P w = .ok x w) (hx : x = .slice e) (_u : Unit) (d : Nat) :
  (Op.equalIn (d + 1) t (.slice (some a) l c) (.slice none l2 c2)).run P w = .ok false w:=by
 subst hx
 rw [Op.equalIn]
 simp only [Sem.run_bind,hu,Result.andThen_ok,Sem.run_pure]

theorem arr_map (xs : Array Operand) (f : Operand → Value) : (⟨mapQ f xs.toList⟩ : Array Value) = xs.map f:=by
 apply Array.toList_inj.1; simp [mapQ_eq]

theorem int2_ok {op : BinOp} {a b : Int} {v : Value} (h : aInt2 op .i64 a b = some v) (w : World) : (binOp op t (.int .i64 a) (.int .i64 b)).run P w = .ok v w ∧ VR p v v:=by
 cases op <;> simp only [aInt2,retI_eq,eqI_eq,ltI_eq,reduceCtorEq] at h <;> cases h
 case add=>exact ⟨by simp [binOp,Op.intArith], .int _ _⟩
 case sub=>exact ⟨by simp [binOp,Op.intArith], .int _ _⟩
 case mul=>exact ⟨by simp [binOp,Op.intArith], .int _ _⟩
 case eql=>exact ⟨by simp [binOp,Op.intCmp], .bool _⟩
 case neq=>exact ⟨by simp [binOp,Op.intCmp,bne], .bool _⟩
 case lss=>exact ⟨by simp [binOp,Op.intCmp], .bool _⟩
 case leq=>exact ⟨by simp [binOp,Op.intCmp,← Int.not_lt], .bool _⟩
 case gtr=>exact ⟨by simp [binOp,Op.intCmp], .bool _⟩
 case geq=>exact ⟨by simp [binOp,Op.intCmp,← Int.not_lt], .bool _⟩

theorem aSil_ok (hT : TvOk P tv) {o : Oper} (hr : ∀ x ∈ o.op.operands,VR p (r x) (r' x)) {v : Value} (h : aSil P tv o r = some v) : ∃ v',Same P (execOp r' o) v' ∧ VR p v v':=by
 have G : aGround P o r = some v → (∀ cs b,o.op ≠ .select cs b) → ∃ v',Same P (execOp r' o) v' ∧ VR p v v':=fun hg hs=>⟨v,aGround_ok hs hr hg⟩
 obtain ⟨dst,op,type,pos,after,guard⟩:=o
 cases op <;> simp only [Op.operands] at hr <;> (try (simp only [aSil,reduceCtorEq] at h; done)) <;> (try simp only [aSil] at h)
 case move x=>cases h; exact ⟨r' x,fun w=>rfl,hr x (by simp)⟩
 case assign x=>cases h; exact ⟨r' x,fun w=>rfl,hr x (by simp)⟩
 case pick c a b =>
  unfold aPick at h
  split at h
  ·rename_i t hc
   have h1:=hr c (by simp)
   rw [hc] at h1
   have e:=h1.bool_inv
   cases h
   refine ⟨if t then r' a else r' b,fun w=>?_,?_⟩
   ·simp [execOp,e,asBool]
   ·cases t
    ·exact hr b (by simp)
    ·exact hr a (by simp)
  ·cases h
 case build t parts =>
  unfold aBuild1 at h
  split at h
  ·rename_i T hTt
   have hpr : PR p _ _:=PR.ops parts (fun x hx=>hr x (by simpa using hx))
   have hz:=(zeroVR hT hTt p).cells
   unfold aBuild at h
   rw [partsQ_eq] at h
   split at h
   ·rename_i fs hund
    split at h
    ·rename_i pl hpl
     split at h
     ·rename_i c hf
      cases h
      have hf:=fillQ_eq _ _ _ _ hf
      rw [placeQ_eq] at hf
      obtain ⟨c',hf',hc⟩:=fill_ok _ _ _ _ _ _ hpr hz hf
      refine ⟨.agg c',fun w=>?_, .agg hc.1 hc.2⟩
      have h1:=run_und hT hTt w
      have h2:=run_zero' hT hTt w
      have h3:=places_ok hT w fs.toList pl hpl
      unfold placeOf at hf'
      simp only [execOp,Instr.build,Sem.run_bind,h2,Result.andThen_ok,h1,hund,Array.mapM_eq_mapM_toList,Sem.run_map,h3,hf',Sem.run_pure]
     ·cases h
    ·cases h
   ·rename_i n e hund
    split at h
    ·rename_i E hE
     split at h
     ·rename_i c hf
      cases h
      have hf:=fillQ_eq _ _ _ _ hf
      obtain ⟨c',hf',hc⟩:=fill_ok _ _ _ _ _ _ hpr hz hf
      refine ⟨.agg c',fun w=>?_, .agg hc.1 hc.2⟩
      have h1:=run_und hT hTt w
      have h2:=run_zero' hT hTt w
      have h3:=run_sizeOf' hT hE w
      have hf2 : Instr.fill (fun i=>some (i * E.size,E.size)) T.zero.cells (parts.map fun (i,x)=>(i,r' x)).toList = some c':=hf'
      simp only [execOp,Instr.build,Sem.run_bind,h2,Result.andThen_ok,h1,hund,h3,hf2,Sem.run_pure]
     ·cases h
    ·cases h
   ·cases h
  ·cases h
 case makeFunc fn first captured =>
  unfold aMkFunc at h
  cases fn with
  | func f =>
   dsimp only at h
   cases h
   have h1:=AR.map_op first (fun x hx=>hr x (by simp [hx]))
   have h2:=AR.map_op captured (fun x hx=>hr x (by simp [hx]))
   rw [arr_map,arr_map]
   exact ⟨.func (.func f) (first.map r') (captured.map r'),fun w=>rfl, .func f h1.1 h2.1 h1.2 h2.2⟩
  | _=>simp at h
 case fieldAddr s x f =>
  unfold aFieldAddr at h
  split at h
  ·rename_i S b o hS hx
   have h1:=hr x (by simp)
   rw [hx] at h1
   obtain ⟨b',kk,e,hb⟩:=h1.ptr_inv
   split at h
   ·rename_i fs hund
    split at h
    ·rename_i fl hfl
     rw [getQ_eq] at hfl
     have hfl : fs[f]? = some fl:=by simpa using hfl
     split at h
     ·rename_i F hF
      cases hs : F.size with
      | zero=>rw [hs] at h; cases h
      | succ j =>
       rw [hs] at h
       cases h
       refine ⟨.pointer (some ⟨b',o + fl.offset,none⟩),fun w=>?_, .ptr hb⟩
       simp only [execOp,Instr.fieldAt,Sem.run_bind,run_und hT hS w,Result.andThen_ok,hund,hfl,e,Instr.sureAddr,fieldPlace,Sem.run_pure,run_sizeOf' hT hF w,add_eq]
       simp [hs,run_sizeOf' hT hF w]
     ·cases h
    ·cases h
   ·cases h
  ·cases h
 case indexAddr t x ix =>
  unfold aIndexAddr at h
  split at h
  ·rename_i T k i hTt hix
   have h1:=hr ix (by simp)
   rw [hix] at h1
   have ei:=h1.int_inv
   split at h
   ·rename_i len e b o hund hx
    have h2:=hr x (by simp)
    rw [hx] at h2
    obtain ⟨b',kk,ex,hb⟩:=h2.ptr_inv
    split at h
    ·rename_i E m hE hm
     obtain ⟨hc,rfl⟩:=inLenB_some hm
     cases h
     refine ⟨.pointer (some ⟨b',o + i.toNat * E.size,none⟩),fun w=>?_, .ptr hb⟩
     simp only [execOp,Instr.indexAt,ei,ex,asIntOf,Sem.run_bind,Sem.run_pure,Result.andThen_ok,run_und hT hTt w,hund,Instr.sureAddr,hc,and_self,if_true,run_sizeOf' hT hE w,add_eq]
    ·cases h
   ·rename_i e b o len c hund hx
    have h2:=hr x (by simp)
    rw [hx] at h2
    obtain ⟨b',c',kk,ex,hb,_⟩:=h2.slice_inv
    split at h
    ·rename_i E m hE hm
     obtain ⟨hc,rfl⟩:=inLenB_some hm
     cases h
     refine ⟨.pointer (some ⟨b',o + i.toNat * E.size,none⟩),fun w=>?_, .ptr hb⟩
     simp only [execOp,Instr.indexAt,ei,ex,asIntOf,Sem.run_bind,Sem.run_pure,Result.andThen_ok,run_und hT hTt w,hund,hc,and_self,if_true,run_sizeOf' hT hE w,add_eq]
    ·cases h
   ·cases h
  ·cases h
 case index t x ix =>
  unfold aIx at h
  split at h
  ·rename_i cs hx
   have h2:=hr x (by simp)
   rw [hx] at h2
   obtain ⟨cs',ex,hcs⟩:=h2.agg_inv
   unfold aIndex at h
   split at h
   ·rename_i T k i hTt hix
    have h1:=hr ix (by simp)
    rw [hix] at h1
    have ei:=h1.int_inv
    split at h
    ·rename_i len e hund
     split at h
     ·rename_i E m hE hm
      obtain ⟨hc,rfl⟩:=inLenB_some hm
      obtain ⟨v',hv,hvr⟩:=aPart_ok hT hcs h
      have hv' : ∀ w,(part e cs' (i.toNat * E.size)).run P w = .ok v' w:=hv
      refine ⟨v',fun w=>?_,hvr⟩
      simp only [execOp,Instr.index,ei,ex,asIntOf,Sem.run_bind,Sem.run_pure,Result.andThen_ok,run_und hT hTt w,hund,hc,and_self,if_true,run_sizeOf' hT hE w,hv' w]
     ·cases h
    ·cases h
   ·cases h
  ·exact G h (by simp)
 case field t x f =>
  unfold aField at h
  split at h
  ·rename_i T cs hTt hx
   have h2:=hr x (by simp)
   rw [hx] at h2
   obtain ⟨cs',ex,hcs⟩:=h2.agg_inv
   split at h
   ·rename_i fs hund
    split at h
    ·rename_i fl hfl
     rw [getQ_eq] at hfl
     have hfl : fs[f]? = some fl:=by simpa using hfl
     obtain ⟨v',hv,hvr⟩:=aPart_ok hT hcs h
     refine ⟨v',fun w=>?_,hvr⟩
     simp only [execOp,Instr.field,ex,Sem.run_bind,run_und hT hTt w,Result.andThen_ok,hund,hfl,asAgg,Sem.run_pure,hv w]
    ·cases h
   ·cases h
  ·cases h
 case extract x i =>
  unfold aExtract at h
  split at h
  ·rename_i vs hx
   have h2:=hr x (by simp)
   rw [hx] at h2
   obtain ⟨vs',ex,hvs⟩:=h2.tuple_inv
   rw [getQ_eq] at h
   obtain ⟨v',h1,h3⟩:=hvs.get i v (by simpa using h)
   refine ⟨v',fun w=>?_,h3⟩
   simp only [execOp,Instr.extract,ex,h1,Sem.run_bind,Sem.run_pure,Result.andThen_ok]
  ·cases h
 case nilCheck x =>
  unfold aNil at h
  split at h
  ·rename_i a hx
   have h2:=hr x (by simp)
   rw [hx] at h2
   cases h
   generalize hz : r' x = z at h2
   cases h2 with
   | ptr hb =>
    exact ⟨_,fun w=>by simp only [execOp,hz,Sem.run_pure], .ptr hb⟩
  ·cases h
 case binOp op t x y yt =>
  unfold aBin at h
  split at h
  ·rename_i a b hx hy
   have h1:=hr x (by simp)
   rw [hx] at h1
   have ex:=h1.int_inv
   have h2:=hr y (by simp)
   rw [hy] at h2
   have ey:=h2.int_inv
   split at h
   ·rename_i u hu
    cases h
    refine ⟨v,fun w=>?_,(int2_ok (P:=P) (t:=t) (p:=p) hu (default : World)).2⟩
    have hg : (eqGuard op t x y (.int .i64 a) (.int .i64 b)).run P w = .ok () w:=by cases op <;> rfl
    show ((do eqGuard op t x y (r' x) (r' y); binOp op t (r' x) (r' y) : Sem Value) >>= fun v=>pure (Next.value v)).run P w = _
    rw [ex,ey]
    simp only [Sem.run_bind,hg,(int2_ok (P:=P) (t:=t) (p:=p) hu w).1,Result.andThen_ok,Sem.run_pure]
   ·exact G h (by simp)
  ·rename_i a l c l2 c2 hx hy
   unfold aNilSlice at h
   split at h
   ·rename_i T hTt
    split at h
    ·rename_i e hund
     have h1:=hr x (by simp)
     rw [hx] at h1
     obtain ⟨a',c',ex⟩:=h1.slice_inv'
     have h2:=hr y (by simp)
     rw [hy] at h2
     have ey : r' y = .slice none l2 c2:=by generalize r' y = z at h2; cases h2; rfl
     have hu:=fun w=>run_und hT hTt w
     have heq : ∀ w,(Op.equal t (.slice (some a') l c') (.slice none l2 c2)).run P w = .ok false w:=fun w=>eq_slice_nil (hu w) hund () 9999
     split at h
     ·cases h
      refine ⟨.bool false,fun w=>?_, .bool _⟩
      have hg : (eqGuard .eql t x y (.slice (some a') l c') (.slice none l2 c2)).run P w = .ok () w:=rfl
      have hb : binOp .eql t (.slice (some a') l c') (.slice none l2 c2) = (do pure (.bool (← Op.equal t (.slice (some a') l c') (.slice none l2 c2)))):=rfl
      show ((do eqGuard .eql t x y (r' x) (r' y); binOp .eql t (r' x) (r' y) : Sem Value) >>= fun v=>pure (Next.value v)).run P w = _
      rw [ex,ey,hb]
      simp only [Sem.run_bind,hg,heq w,Result.andThen_ok,Sem.run_pure]
     ·cases h
      refine ⟨.bool true,fun w=>?_, .bool _⟩
      have hg : (eqGuard .neq t x y (.slice (some a') l c') (.slice none l2 c2)).run P w = .ok () w:=rfl
      have hb : binOp .neq t (.slice (some a') l c') (.slice none l2 c2) = (do pure (.bool (!(← Op.equal t (.slice (some a') l c') (.slice none l2 c2))))):=rfl
      show ((do eqGuard .neq t x y (r' x) (r' y); binOp .neq t (r' x) (r' y) : Sem Value) >>= fun v=>pure (Next.value v)).run P w = _
      rw [ex,ey,hb]
      simp only [Sem.run_bind,hg,heq w,Result.andThen_ok,Sem.run_pure]
      rfl
     ·cases h
    ·cases h
   ·cases h
  ·exact G h (by simp)
 case unOp=>exact G h (by simp)
 case convert=>exact G h (by simp)
 case slice t x lo hi mx =>
  have S : aSlice tv t (r x) lo hi mx r = some v → ∃ v',Same P (execOp r' { dst,op:=.slice t x lo hi mx,type,pos,after,guard }) v' ∧ VR p v v':=fun h=>by
   obtain ⟨v',hv,hvr⟩:=aSlice_ok hT (hr x (by simp)) (fun y hy=>hr y (by simp [hy])) (fun y hy=>hr y (by simp [hy])) (fun y hy=>hr y (by simp [hy])) h
   exact ⟨v',fun w=>by simp only [execOp,Sem.run_bind,hv w,Result.andThen_ok,Sem.run_pure],hvr⟩
  unfold aSl at h
  split at h
  ·exact S h
  ·exact S h
  ·exact G h (by simp)
 case call c =>
  obtain ⟨callee,args,argTypes⟩:=c
  cases callee with
  | builtin b =>
   cases b <;> (try (simp only [aCallee,aBuiltin,reduceCtorEq] at h; done)) <;> (try simp only [aCallee,aBuiltin] at h)
   case len =>
    unfold aLen at h
    split at h
    ·rename_i x _ t _ hx ht
     have hx : args[0]? = some x:=by rw [← Array.getElem?_toList,hx]; rfl
     have ht : argTypes[0]? = some t:=by rw [← Array.getElem?_toList,ht]; rfl
     split at h
     ·rename_i a l c hrx
      unfold aLenOf at h
      split at h
      ·rename_i T hTt
       split at h
       ·rename_i e hund
        cases h
        have h1:=hr x (by simp [Call.operands]; exact Array.mem_of_getElem? hx)
        rw [hrx] at h1
        obtain ⟨a',c',ex⟩:=h1.slice_inv'
        refine ⟨.int .i64 l,fun w=>?_, .int _ _⟩
        simp [execOp,resolve,invoke,builtin,Builtin.len_,ht,hx,ex,run_und hT hTt w,hund,goInt]
       ·cases h
      ·cases h
     ·exact G h (by simp)
    ·cases h
   case max=>exact G h (by simp)
   case min=>exact G h (by simp)
  | value f=>simp [aSil,aCallee] at h
  | invoke a b=>simp [aSil,aCallee] at h
end
end Go.Proofs.Ytkjceegmmhnajaa
