/- The second machine. -/
import Derived.Test.YtkjceegmmhnajaaM6
namespace Go.Proofs.Ytkjceegmmhnajaa
open Go.RowKit

structure FI where
  body : Code
  ntmps : Nat
  results : List ResultVar
  wr : Bool

structure Env where
  P : Program
  tv : Nat → Option TV
  fns : Nat → Option FI

structure EnvOk (E : Env) : Prop where
  tv : TvOk E.P E.tv
  mixed : E.P.follows .mixedOrders = true
  fns : ∀ f fi, E.fns f = some fi → ∃ fn, E.P.funcs[f]? = some fn ∧ fn.body = some fi.body ∧ fn.ntmps = fi.ntmps ∧ fn.results.toList = fi.results ∧ ck fi.body = true ∧ (fn.name == "runtime.NumGoroutine") = false

structure St where
  T : Tr Value
  sz : Nat
  D : List Nat
  H : Tr AO
  n : Nat

inductive Ex where
  | normal
  | exit (id : Nat)
  | ret
  deriving DecidableEq

def Ex.conc : Ex → Exit
  | .normal => .normal
  | .exit i => .exit i
  | .ret => .ret

abbrev Exe := Nat → Option Nat → Code → St → Option (Ex × St)

noncomputable def tget (T : Tr Value) (i : Nat) : Value := match T.get i with | some v => v | none => undef

noncomputable def evA (T : Tr Value) (x : Operand) : Value := match x with
  | .tmp t => tget T t
  | .const v => v
  | .global _ => undef
  | .func f => .func (.func f) #[] #[]

noncomputable def aYield (ops : Array Oper) (T : Tr Value) (j : Nat) : Option Bool :=
  match getQ ops.toList j with
  | some o => match o.dst with
    | some t => match tget T t with
      | .bool b => some b
      | _ => none
    | none => none
  | none => none

noncomputable def aWanted (ops : Array Oper) (T : Tr Value) (o : Oper) : Bool :=
  match o.guard with
  | none => true
  | some (j, want) => match aYield ops T j with
    | some b => Bool.rec (Bool.rec true false want) want b
    | none => false

/-- a value into an operation's slot -/
noncomputable def aPut (T : Tr Value) (sz : Nat) (dst : Option Nat) (v : Value) : Option (Tr Value) :=
  match dst with
  | none => some T
  | some d => Bool.rec none (some (T.set d v)) (Nat.blt d sz)

noncomputable def aResult (tv : Nat → Option TV) (T : Tr Value) (H : Tr AO) (x : ResultVar) : Option Value := match x with
  | .tmp t => some (tget T t)
  | .cell a t => aLoad tv t (tget T a) H

noncomputable def aResults (tv : Nat → Option TV) (T : Tr Value) (H : Tr AO) (l : List ResultVar) : Option (List Value) :=
  List.rec (some []) (fun x _ ih => match aResult tv T H x, ih with
    | some v, some r => some (v :: r)
    | _, _ => none) l

noncomputable def tupled (l : List Value) : Value := match l with
  | [v] => v
  | l => .tuple ⟨l⟩

noncomputable def undefer (lo : Nat) (D : List Nat) : Tr AO → Option (Tr AO) :=
  List.rec (fun H => some H) (fun i _ ih H => match H.get i with
    | some .deferred => Bool.rec none (ih (H.del i)) (Nat.ble lo i)
    | _ => none) D

/-- the names in a value -/
def idsV : Nat → Value → List Nat → List Nat
  | _, .pointer (some a), l => a.block :: l
  | _, .slice (some a) _ _, l => a.block :: l
  | _, .map (some b), l => b :: l
  | _, .func (.yield b) _ _, l => b :: l
  | f + 1, .func _ a c, l => a.toList.foldr (idsV f) (c.toList.foldr (idsV f) l)
  | f + 1, .agg a, l => a.toList.foldr (idsV f) l
  | f + 1, .tuple a, l => a.toList.foldr (idsV f) l
  | _, _, l => l

/-- what of the memory made since the n-th name can be come to -/
noncomputable def gc (n : Nat) (H' : Tr AO) (f : Nat) : List Nat → Tr AO → Tr AO :=
  Nat.rec (fun _ H => H) (fun _ ih l H => match l with
    | [] => H
    | i :: l => Bool.rec (match H.get i with
        | some _ => ih l H
        | none => match H'.get i with
          | some (.cells c e sz) => ih (c.toList.foldr (idsV 3) l) (H.set i (.cells c e sz))
          | _ => ih l H) (ih l H) (Nat.blt i n)) f

/-- what a call leaves -/
noncomputable def leave (tv : Nat → Option TV) (lo : Nat) (wr : Bool) (results : List ResultVar) (H : Tr AO) (n : Nat) (s : St) : Option (Value × Tr AO × Nat) :=
  match s with
  | ⟨T, _, D, H1, n1⟩ => match undefer lo D H1 with
    | some H' => match aResults tv T H' results with
      | some l => some (tupled l, Bool.rec (Bool.rec (gc n H' 100000 (idsV 4 (tupled l) []) H) H (isGround (tupled l))) H' wr, n1)
      | none => none
    | none => none

/-- a call of a function -/
noncomputable def callF (E : Env) (ex : Exe) (lo g : Nat) (args : Array Value) (H : Tr AO) (n : Nat) : Option (Value × Tr AO × Nat) :=
  match E.fns g with
  | none => none
  | some ⟨body, ntmps, results, wr⟩ => Bool.rec none
      (match ex (Bool.rec n lo wr) none body ⟨Tr.ofList args.toList 0 .e, ntmps, [], H, n⟩ with
      | some (.normal, s) => leave E.tv (Bool.rec n lo wr) wr results H n s
      | some (.ret, s) => leave E.tv (Bool.rec n lo wr) wr results H n s
      | _ => none) (Nat.ble (sizeQ args) ntmps)

def setParams : List Nat → List Value → Array Value → Array Value
  | t :: ts, a :: as, T => setParams ts as (T.setIfInBounds t a)
  | _, _, T => T

def jumpOf : Ex → Option Code
  | .normal => none
  | .exit i => some (.exit i)
  | .ret => some .ret

/-- a call of yield -/
noncomputable def roundF (ex : Exe) (lo l : Nat) (args : Array Value) (H : Tr AO) (n : Nat) : Option (Value × Tr AO × Nat) :=
  if lo ≤ l then
    match H.get l with
    | some (.loop r) => if args.size = r.params.size then
        match ex lo (some l) r.assign ⟨Tr.ofList (setParams r.params.toList args.toList r.tmps).toList 0 .e, r.tmps.size, [], H, n⟩ with
        | some (.normal, s1) => match s1.H.get l with
          | some (.loop r1) => if r1.state = .ready then
              match ex lo (some l) r.body { s1 with H := s1.H.set l (.loop { r1 with state := .busy }) } with
              | some (e, s2) => match s2.H.get l with
                | some (.loop r2) => some (.bool (jumpOf e).isNone, s2.H.set l (.loop { r2 with state := if (jumpOf e).isNone then .ready else .done, pending := jumpOf e }), s2.n)
                | _ => none
              | none => none
            else none
          | _ => none
        | _ => none
      else none
    | _ => none
  else none

noncomputable def callV (E : Env) (ex : Exe) (lo : Nat) (f : Value) (args : Array Value) (H : Tr AO) (n : Nat) : Option (Value × Tr AO × Nat) :=
  match f with
  | .func (.func g) a c => callF E ex lo g (catQ (catQ a args) c) H n
  | .func (.yield l) _ _ => roundF ex lo l args H n
  | _ => none

noncomputable def opMem (E : Env) (lo : Nat) (o : Oper) (T : Tr Value) (H : Tr AO) (n : Nat) : Option (Value × Tr AO × Nat) :=
  match aMem E.P E.tv lo o (evA T) H n with
  | some (v, d, n') => some (v, updT H d, n')
  | none => none

noncomputable def opCall (E : Env) (ex : Exe) (lo : Nat) (o : Oper) (c : Call) (T : Tr Value) (H : Tr AO) (n : Nat) : Option (Value × Tr AO × Nat) :=
  match c with
  | { callee := .value f, args, .. } => callV E ex lo (evA T f) ⟨mapQ (evA T) args.toList⟩ H n
  | _ => opMem E lo o T H n

noncomputable def opRun (E : Env) (ex : Exe) (lo : Nat) (o : Oper) (T : Tr Value) (H : Tr AO) (n : Nat) : Option (Value × Tr AO × Nat) :=
  match o.op with
  | .call c => opCall E ex lo o c T H n
  | _ => opMem E lo o T H n

/-- the operations of a region, in the text's order -/
noncomputable def runOps (E : Env) (ex : Exe) (lo : Nat) (ops : Array Oper) (l : List Oper) : Tr Value → Nat → List Nat → Tr AO → Nat → Option St :=
  List.rec (fun T sz D H n => some ⟨T, sz, D, H, n⟩) (fun o _ ih T sz D H n =>
    Bool.rec (match aPut T sz o.dst undef with
      | some T => ih T sz D H n
      | none => none)
    (match opRun E ex lo o T H n with
      | some (v, H, n) => match aPut T sz o.dst v with
        | some T => ih T sz D H n
        | none => none
      | none => none) (aWanted ops T o)) l

/-! ### a region that draws its order -/
/-- the names made by operations that need not come before the i-th -/
noncomputable def hidden (bs : Array Nat) (i : Nat) (R : List (Nat × Nat × Nat)) : List Nat :=
  List.rec [] (fun q _ ih => Bool.rec (appQ (mapQ (q.2.1 + ·) (List.range (q.2.2 - q.2.1))) ih) ih (isBefore bs q.1 i)) R

noncomputable def delAll (l : List Nat) (H : Tr AO) : Tr AO := List.rec H (fun i _ ih => Tr.del ih i) l
noncomputable def addAll (H0 : Tr AO) (l : List Nat) (H : Tr AO) : Tr AO := List.rec H (fun i _ ih => Tr.put (i + 1) ih i (H0.get i)) l

def isWriter (o : Op) : Bool := match kindOf o with | .store => true | .append => true | _ => false

/-- no operation that is not ordered with the i-th has touched what this one touches -/
def footOk (bs : Array Nat) (i : Nat) (wr : Bool) (F : List (Nat × Nat × Bool)) (b : Nat) : Bool :=
  F.all fun q => q.2.1 != b || !(q.2.2 || wr) || isBefore bs q.1 i

/-- whether a call need be one that writes nothing -/
def guarded (ops : Array Oper) (bs : Array Nat) (i : Nat) : Bool :=
  (List.range ops.size).any fun j => j != i && !isBefore bs j i && !isBefore bs i j && (match ops[j]? with | some o => kindOf o.op != .silent | none => false)

def isCall (o : Op) : Bool := match o with
  | .call { callee := .builtin _, .. } => false
  | .call _ => true
  | _ => false

noncomputable def runDraw (E : Env) (ex : Exe) (lo : Nat) (ops : Array Oper) (bs : Array Nat) (l : List Oper) : Nat → Tr Value → Nat → List Nat → Tr AO → Nat → List (Nat × Nat × Nat) → List (Nat × Nat × Bool) → Option St :=
  List.rec (fun _ T sz D H n _ _ => some ⟨T, sz, D, H, n⟩) (fun o _ ih i T sz D H n R F =>
    Bool.rec (match aPut T sz o.dst undef with
      | some T => ih (Nat.succ i) T sz D H n R F
      | none => none)
    (Bool.rec
      (Bool.rec none
        (match aMem E.P E.tv lo o (evA T) H n with
          | some (v, d, n') => match aPut T sz o.dst v with
            | some T' => ih (Nat.succ i) T' sz D (updT H d) n' (Bool.rec R ((i, n, n') :: R) (Nat.blt n n')) (appQ (mapQ (fun b => (i, b, isWriter o.op)) (view o (evA T))) F)
            | none => none
          | none => none)
        (allQ (fun b => !(hidden bs i R).contains b && footOk bs i (isWriter o.op) F b) (view o (evA T))))
      (match opRun E ex (Bool.rec lo n (guarded ops bs i)) o T (delAll (hidden bs i R) H) n with
        | some (v, H', n') => match aPut T sz o.dst v with
          | some T => ih (Nat.succ i) T sz D (addAll H (hidden bs i R) H') n' (Bool.rec R ((i, n, n') :: R) (Nat.blt n n')) F
          | none => none
        | none => none)
      (isCall o.op))
    (aWanted ops T o)) l

/-- the slots of a frame -/
noncomputable def slotsOf (T : Tr Value) (sz : Nat) : Array Value := ⟨mapQ (tget T) (List.range sz)⟩

def exOf : Option Code → Option Ex
  | none => some .normal
  | some .ret => some .ret
  | some (.exit i) => some (.exit i)
  | _ => none

noncomputable def rangeF (E : Env) (ex : Exe) (lo : Nat) (ro : Option Nat) (f : Operand) (ps : Array Tmp) (assign body : Code) (s : St) : Option (Ex × St) :=
  match evA s.T f with
  | .func (.func g) a c =>
    match (match ro with
      | none => some (s.n :: s.D, s.n + 1, s.H.set s.n .deferred)
      | some l0 => match s.H.get l0 with | some (.loop _) => some (s.D, s.n, s.H) | _ => none) with
    | some (D, l, H) =>
      match callF E ex lo g (a ++ #[.func (.yield l) #[] #[]] ++ c) (H.set l (.loop { state := .ready, pending := none, fn := 0, tmps := slotsOf s.T s.sz, params := ps, assign := assign, body := body, defers := 0 })) (l + 1) with
      | some (_, H', n') => match H'.get l with
        | some (.loop r) => if r.state = .busy then none else match exOf r.pending with
          | some e => some (e, ⟨s.T, s.sz, D, H'.set l (.loop { r with state := .exhausted }), n'⟩)
          | none => none
        | _ => none
      | none => none
    | none => none
  | _ => none

noncomputable def seqX (ex : Exe) (lo : Nat) (ro : Option Nat) (b : Code) (x : Option (Ex × St)) : Option (Ex × St) := match x with
  | some (.normal, s1) => ex lo ro b s1
  | r => r
noncomputable def blockX (id : Nat) (x : Option (Ex × St)) : Option (Ex × St) := match x with
  | some (.exit j, s1) => some (Bool.rec (.exit j) .normal (Nat.beq j id), s1)
  | r => r
noncomputable def condX (ex : Exe) (lo : Nat) (ro : Option Nat) (a b : Code) (v : Value) (s : St) : Option (Ex × St) := match v with
  | .bool t => ex lo ro (Bool.rec b a t) s
  | _ => none
noncomputable def doneX (x : Option St) : Option (Ex × St) := match x with
  | some s => some (.normal, s)
  | none => none
noncomputable def regX (E : Env) (ex : Exe) (lo : Nat) (ops : Array Oper) (draw : Bool) (s : St) : Option (Ex × St) := match s with
  | ⟨T, sz, D, H, n⟩ => doneX (Bool.rec (runOps E ex lo ops ops.toList T sz D H n) (runDraw E ex lo ops (Region.before ops) ops.toList 0 T sz D H n [] []) draw)

noncomputable def stepX (E : Env) (ex : Exe) (lo : Nat) (ro : Option Nat) (c : Code) (s : St) : Option (Ex × St) :=
  match c with
  | .skip => some (.normal, s)
  | .label _ => some (.normal, s)
  | .region _ ops draw => regX E ex lo ops draw s
  | .seq a b => seqX ex lo ro b (ex lo ro a s)
  | .cond c a b => condX ex lo ro a b (evA s.T c) s
  | .block id c => blockX id (ex lo ro c s)
  | .loop c => seqX ex lo ro (.loop c) (ex lo ro c s)
  | .exit id => some (.exit id, s)
  | .ret => some (.ret, s)
  | .rangeFunc f ps assign body => rangeF E ex lo ro f ps assign body s
  | _ => none

noncomputable def exec (E : Env) (k : Nat) : Exe := Nat.rec (fun _ _ _ _ => none) (fun _ ih => stepX E ih) k
end Go.Proofs.Ytkjceegmmhnajaa
