/- Runs of code on abstract states, and that the program runs so. -/
import Derived.Test.YtlhplhncdljicaaDcN
import Derived.LoopN
import Derived.Below
import Derived.KernelRfl
import Derived.Orders
import Derived.Laws.AppendOwn
set_option linter.unusedVariables false
set_option linter.unusedSimpArgs false
section
section
namespace Go.Dc
noncomputable section
structure Ans (α:Type) where
 bot:α
 both:α -> α -> α
 eqv:AV -> AV -> α -> α
structure Holds {α:Type} (A:Ans α) (hold:α -> Prop):Prop where
 bot:¬ hold A.bot
 both:∀ x y,hold (A.both x y) -> hold x /\ hold y
 eqv:∀ u v x,hold (A.eqv u v x) -> u = v /\ hold x
def propAns:Ans Prop:={ bot:=False,both:=And,eqv:=fun u v x => u = v /\ x }
theorem propHolds:Holds propAns id:=⟨fun h => h,fun _ _ h => h,fun _ _ _ h => h⟩
def forceB {α:Type} (b:Nat) (k:Nat -> α):α:=Nat.rec (k 0) (fun n _ => k (n.succ)) b
theorem forceB_eq {α:Type} (b:Nat) (k:Nat -> α):forceB b k = k b:=by cases b <;> rfl
def forceP {α:Type} (v:AV) (k:AV -> α):α:=match v with
 | .ptr ro b i o => forceB b fun b => k (.ptr ro b i o)
 | .sl ro b i len full => forceB b fun b => k (.sl ro b i len full)
 | v => k v
theorem forceP_eq {α:Type} (v:AV) (k:AV -> α):forceP v k = k v:=by
 cases v <;> simp only [forceP,forceB_eq]
def forceE {α:Type} (f:AV -> (AV -> α) -> α) (g:List AV -> (List AV -> α) -> α) (x:AV) (k:AV -> α):α:=match x with
 | .any => k .any
 | .bool b => k (.bool b)
 | .int i x => k (.int i x)
 | .str l => k (.str l)
 | .ptr ro b i o => k (.ptr ro b i o)
 | .nilp => k .nilp
 | .sl ro b i len full => k (.sl ro b i len full)
 | .nils => k .nils
 | .fn g' a c => g a fun a => g c fun c => k (.fn g' a c)
 | .nilf => k .nilf
 | .ifc t x => f x fun x => k (.ifc t x)
 | .nili => k .nili
 | .agg cs => g cs fun cs => k (.agg cs)
 | .tup cs => g cs fun cs => k (.tup cs)
noncomputable def forceW {α:Type} (f:AV -> (AV -> α) -> α) (l:List AV):(List AV -> α) -> α :=
 List.rec (fun k => k []) (fun x _ ih k => f x fun x => ih fun xs => k (x :: xs)) l
noncomputable def forceN {α:Type} (n:Nat):AV -> (AV -> α) -> α :=
 Nat.rec (fun x k => k x) (fun _ ih x k => forceE ih (forceW ih) x k) n
noncomputable def forceV {α:Type}:AV -> (AV -> α) -> α:=forceN 4
noncomputable def forceL {α:Type}:List AV -> (List AV -> α) -> α:=forceW forceV
theorem forceW_eq {α:Type} {f:AV -> (AV -> α) -> α} (hf:∀ x k,f x k = k x):∀ (l:List AV) (k:List AV -> α),forceW f l k = k l
 | [],k => rfl
 | x :: xs,k => by
  show f x (fun x => forceW f xs fun xs => k (x :: xs)) = k (x :: xs)
  rw [hf,forceW_eq hf xs]
theorem forceN_eq {α:Type}:∀ (n:Nat) (x:AV) (k:AV -> α),forceN n x k = k x
 | 0,x,k => rfl
 | n + 1,x,k => by
  show forceE (forceN n) (forceW (forceN n)) x k = k x
  cases x <;> simp only [forceE] <;> simp only [forceN_eq n,forceW_eq (forceN_eq n)]
theorem forceV_eq {α:Type} (x:AV) (k:AV -> α):forceV x k = k x:=forceN_eq 4 x k
theorem forceL_eq {α:Type} (l:List AV) (k:List AV -> α):forceL l k = k l:=forceW_eq forceV_eq l k
noncomputable def nthV (l:List AV):Nat -> AV :=
 List.rec (fun _ => .undef) (fun x _ ih n => Nat.rec x (fun m _ => ih m) n) l
theorem nthV_eq:∀ (l:List AV) (n:Nat),nthV l n = l.getD n .undef
 | [],n => by simp [nthV]
 | x :: xs,0 => rfl
 | x :: xs,n + 1 => by
  show nthV xs n = _
  rw [nthV_eq xs n]
  simp
noncomputable def setK {α:Type} (l:List AV):Nat -> AV -> (List AV -> α) -> α :=
 List.rec (fun _ _ k => k []) (fun x xs ih n v k => Nat.rec (k (v :: xs)) (fun m _ => ih m v fun ys => k (x :: ys)) n) l
theorem setK_eq {α:Type}:∀ (l:List AV) (n:Nat) (v:AV) (k:List AV -> α),setK l n v k = k (l.set n v)
 | [],n,v,k => by simp [setK]
 | x :: xs,0,v,k => rfl
 | x :: xs,n + 1,v,k => by
  show setK xs n v (fun ys => k (x :: ys)) = _
  rw [setK_eq xs n]
  simp
def forceRow {α:Type}:Row -> (Row -> α) -> α
 | .lst t s l,k => forceL l fun l => k (.lst t s l)
 | .gen t s n a,k => k (.gen t s n a)
 | .byt t l,k => k (.byt t l)
theorem forceRow_eq {α:Type} (r:Row) (k:Row -> α):forceRow r k = k r:=by
 cases r <;> simp [forceRow,forceL_eq]
def forceO {α:Type} (o:Option Row) (k:Option Row -> α):α:=match o with
 | none => k none
 | some r => forceRow r fun r => k (some r)
theorem forceO_eq {α:Type} (o:Option Row) (k:Option Row -> α):forceO o k = k o:=by
 cases o <;> simp [forceO,forceRow_eq]
noncomputable def forceRows {α:Type} (h:Rows):(Rows -> α) -> α :=
 List.rec (fun k => k []) (fun o _ ih k => forceO o fun o => ih fun h => k (o :: h)) h
theorem forceRows_eq {α:Type}:∀ (h:Rows) (k:Rows -> α),forceRows h k = k h
 | [],k => rfl
 | o :: h,k => by
  show forceO o (fun o => forceRows h fun h => k (o :: h)) = k (o :: h)
  rw [forceO_eq,forceRows_eq h]
structure FI where
 body:Code
 ntmps:Nat
 results:List ResultVar
structure Env (α:Type) where
 T:TypeId -> Option TI
 R:Nat -> RoRow
 F:FuncId -> Option FI
 calls:FuncId -> Option (List AV -> Rows -> (AV -> Rows -> α) -> α)
 loops:FuncId -> Nat -> Option (St -> (Exit -> St -> α) -> α)
def ofConst1:Value -> AV
 | .bool b => .bool b
 | .int k n => .int k n
 | .string s => .str s.data.toList
 | .pointer none => .nilp
 | .slice none 0 0 => .nils
 | .nilFunc => .nilf
 | .nilIface => .nili
 | _ => .any
def ofConst:Value -> AV
 | .agg cs => .agg (cs.toList.map ofConst1)
 | .tuple ⟨[]⟩ => .tup []
 | v => ofConst1 v
theorem ofConst1_den (m:Map) (n:Nat) (v:Value):Den m n (ofConst1 v) v:=by
 unfold ofConst1
 split <;> simp [Den]
theorem ofConst_den (m:Map) (n:Nat) (v:Value):Den m n (ofConst v) v:=by
 unfold ofConst
 split
 ·rename_i cs
  simp only [Den]
  refine ⟨cs,rfl,DenL.of (by simp) ?_⟩
  intro i a ha
  simp only [List.getElem?_map] at ha
  obtain ⟨x,hx,rfl⟩:=Option.map_eq_some_iff.1 ha
  exact ⟨x,hx,ofConst1_den m n x⟩
 ·simp only [Den]
  exact ⟨#[],rfl,by simp [DenL]⟩
 ·exact ofConst1_den m n _
def St.ev (st:St):Operand -> AV
 | .tmp t => nthV st.tmps t
 | .const v => ofConst v
 | .global _ => .any
 | .func f => .fn f [] []
def putT (tmps:List AV) (dst:Option Tmp) (v:AV):List AV :=
 match dst with
 | some d => tmps.set d v
 | none => tmps
def putK {α:Type} (tmps:List AV) (dst:Option Tmp) (v:AV) (k:List AV -> α):α :=
 match dst with
 | some d => forceV v fun v => setK tmps d v k
 | none => k tmps
theorem putK_eq {α:Type} (tmps:List AV) (dst:Option Tmp) (v:AV) (k:List AV -> α):putK tmps dst v k = k (putT tmps dst v):=by
 cases dst with
 | none => rfl
 | some d => simp only [putK,putT,forceV_eq,setK_eq]
def St.put (st:St) (dst:Option Tmp) (v:AV):St:=⟨putT st.tmps dst v,st.rows⟩
structure Rel (R:Nat -> RoRow) (m:Map) (st:St) (a:Act) (w:World):Prop where
 size:a.tmps.size = st.tmps.length
 tmps:∀ (i:Nat) (x:AV),st.tmps[i]? = some x -> ∃ c,a.tmps[i]? = some c /\ Den m st.rows.length x c
 defers:a.defers = []
 wr:WR R m st.rows w
theorem Rel.ev {R:Nat -> RoRow} {m:Map} {st:St} {a:Act} {w:World} (h:Rel R m st a w) (x:Operand):Den m st.rows.length (st.ev x) (a.eval x):=by
 cases x with
 | tmp t =>
  simp only [St.ev,Act.eval,nthV_eq]
  cases hx:st.tmps[t]? with
  | none =>
   have hlt:st.tmps.length <= t:=by
    rcases Nat.lt_or_ge t st.tmps.length with h1 | h1
    ·rw [List.getElem?_eq_getElem h1] at hx; exact absurd hx (by simp)
    ·exact h1
   have:a.tmps[t]? = none:=Array.getElem?_eq_none (by rw [h.size]; exact hlt)
   simp [List.getD,hx,this,Den,DenL,undef]
  | some y =>
   obtain ⟨c,hc,hd⟩:=h.tmps t y hx
   simp only [List.getD,hx,Option.getD_some]
   rw [Array.getD_eq_getD_getElem?,hc]
   exact hd
 | const v => exact ofConst_den m _ v
 | global g => simp [St.ev,Den]
 | func f =>
  simp only [St.ev,Act.eval,Den]
  exact ⟨#[],#[],rfl,by simp [DenL],by simp [DenL]⟩
theorem Rel.put {R:Nat -> RoRow} {m m':Map} {st:St} {a:Act} {w w':World} (h:Rel R m st a w) {rows:Rows} (hs:Step m st.rows w m' rows w') (hW:WR R m' rows w') (dst:Option Tmp) {v:AV} {c:Value} (hd:Den m' rows.length v c) :
  Rel R m' ⟨putT st.tmps dst v,rows⟩ (a.put dst c) w':=by
 have old:∀ (i:Nat) (x:AV),st.tmps[i]? = some x -> ∃ c,a.tmps[i]? = some c /\ Den m' rows.length x c:=by
  intro i x hx
  obtain ⟨c,hc,hd⟩:=h.tmps i x hx
  exact ⟨c,hc,hd.mono hs.len hs.mu hs.ro⟩
 cases dst with
 | none => exact ⟨h.size,old,h.defers,hW⟩
 | some d =>
  refine ⟨by simp [Act.put,putT,h.size],?_,h.defers,hW⟩
  intro i x hx
  simp only [putT] at hx
  simp only [Act.put]
  by_cases hi:d = i
  ·subst hi
   have hlt:d < st.tmps.length:=by
    have:=(List.getElem?_eq_some_iff.1 hx).1
    simpa using this
   rw [List.getElem?_set_self hlt] at hx
   cases hx
   exact ⟨c,by simp [h.size,hlt],hd⟩
  ·rw [List.getElem?_set_ne hi] at hx
   obtain ⟨c',hc,hd'⟩:=old i x hx
   exact ⟨c',by rw [Array.getElem?_setIfInBounds_ne hi]; exact hc,hd'⟩
theorem Rel.known {R:Nat -> RoRow} {m:Map} {st:St} {a:Act} {w:World} (h:Rel R m st a w) {d:Nat} {b:Bool} (hd:st.tmps.getD d .undef = .bool b):Rel R m ⟨st.tmps.set d (.bool b),st.rows⟩ a w:=by
 refine ⟨by simp [h.size],?_,h.defers,h.wr⟩
 intro i x hx
 by_cases hi:d = i
 ·subst hi
  have hlt:d < st.tmps.length:=by
   have:=(List.getElem?_eq_some_iff.1 hx).1
   simpa using this
  rw [List.getElem?_set_self hlt] at hx
  cases hx
  exact h.tmps d (.bool b) (by simpa [List.getD,List.getElem?_eq_getElem hlt] using hd)
 ·rw [List.getElem?_set_ne hi] at hx
  exact h.tmps i x hx
section
variable {α:Type} (A:Ans α) (E:Env α) (call:FuncId -> List AV -> Rows -> (AV -> Rows -> α) -> α)
def setBool (st:St) (x:Operand) (b:Bool):St :=
 match x with
 | .tmp t => ⟨st.tmps.set t (.bool b),st.rows⟩
 | _ => st
def stepOp0 (o:Oper) (st:St) (k:St -> α):α :=
 match o.op with
 | .pick c a b => match st.ev c with
  | .bool t => cond t (k ((setBool st c true).put o.dst (st.ev a))) (k ((setBool st c false).put o.dst (st.ev b)))
  | _ => A.bot
 | .call { callee:=.value f,args,.. } => match st.ev f with
  | .fn g first cap => forceL (first ++ (args.toList.map st.ev ++ cap)) fun as => call g as st.rows fun v rows => forceRows rows fun rows => k ⟨putT st.tmps o.dst v,rows⟩
  | _ => A.bot
 | _ => match evQ E.T E.R st.rows st.ev o with
  | .ok v => k (st.put o.dst v)
  | .ck c v => cond c (k (st.put o.dst v)) A.bot
  | .no => match evW E.T E.R st.rows st.ev o with
   | .ok c v rows => cond c (forceRows rows fun rows => k ⟨putT st.tmps o.dst v,rows⟩) A.bot
   | .no => A.bot
def guardOp0 (ops:List Oper) (o:Oper) (st:St) (k:St -> α):α :=
 match o.guard with
 | none => stepOp0 A E call o st k
 | some (j,want) => match (ops[j]?).bind (·.dst) with
  | none => A.bot
  | some d => match st.tmps.getD d .undef with
   | .bool b => cond b
     (cond want (stepOp0 A E call o ⟨st.tmps.set d (.bool true),st.rows⟩ k) (k (St.put ⟨st.tmps.set d (.bool true),st.rows⟩ o.dst .undef)))
     (cond want (k (St.put ⟨st.tmps.set d (.bool false),st.rows⟩ o.dst .undef)) (stepOp0 A E call o ⟨st.tmps.set d (.bool false),st.rows⟩ k))
   | .tup _ | .int .. | .str _ => k (st.put o.dst .undef)
   | _ => A.bot
def setBoolK (st:St) (x:Operand) (b:Bool) (k:St -> α):α :=
 match x with
 | .tmp t => setK st.tmps t (.bool b) fun ts => k ⟨ts,st.rows⟩
 | _ => k st
def St.putK (st:St) (dst:Option Tmp) (v:AV) (k:St -> α):α:=Dc.putK st.tmps dst v fun ts => k ⟨ts,st.rows⟩
def stepOp (o:Oper) (st:St) (k:St -> α):α :=
 match o.op with
 | .pick c a b => match st.ev c with
  | .bool t => cond t (setBoolK st c true fun s => s.putK o.dst (st.ev a) k) (setBoolK st c false fun s => s.putK o.dst (st.ev b) k)
  | _ => A.bot
 | .call { callee:=.value f,args,.. } => match st.ev f with
  | .fn g first cap => forceL (first ++ (args.toList.map st.ev ++ cap)) fun as => call g as st.rows fun v rows => forceRows rows fun rows => Dc.putK st.tmps o.dst v fun ts => k ⟨ts,rows⟩
  | _ => A.bot
 | _ => match evQ E.T E.R st.rows st.ev o with
  | .ok v => st.putK o.dst v k
  | .ck c v => cond c (st.putK o.dst v k) A.bot
  | .no => match evW E.T E.R st.rows st.ev o with
   | .ok c v rows => cond c (forceRows rows fun rows => forceP v fun v => Dc.putK st.tmps o.dst v fun ts => k ⟨ts,rows⟩) A.bot
   | .no => A.bot
def guardOp (ops:List Oper) (o:Oper) (st:St) (k:St -> α):α :=
 match o.guard with
 | none => stepOp A E call o st k
 | some (j,want) => match (ops[j]?).bind (·.dst) with
  | none => A.bot
  | some d => match nthV st.tmps d with
   | .bool b => cond b
     (setK st.tmps d (.bool true) fun ts => cond want (stepOp A E call o ⟨ts,st.rows⟩ k) (St.putK ⟨ts,st.rows⟩ o.dst .undef k))
     (setK st.tmps d (.bool false) fun ts => cond want (St.putK ⟨ts,st.rows⟩ o.dst .undef k) (stepOp A E call o ⟨ts,st.rows⟩ k))
   | .tup _ | .int .. | .str _ => st.putK o.dst .undef k
   | _ => A.bot
def runOps (ops:List Oper):List Oper -> St -> (St -> α) -> α
 | [],st,k => k st
 | o :: rest,st,k => guardOp A E call ops o st fun st => runOps ops rest st k
end
section
variable {α:Type} {A:Ans α} {E:Env α} {call:FuncId -> List AV -> Rows -> (AV -> Rows -> α) -> α}
theorem setBoolK_eq (st:St) (x:Operand) (b:Bool) (k:St -> α):setBoolK st x b k = k (setBool st x b):=by
 cases x <;> simp only [setBoolK,setBool,setK_eq]
theorem St.putK_eq (st:St) (dst:Option Tmp) (v:AV) (k:St -> α):st.putK dst v k = k (st.put dst v):=by
 simp only [St.putK,St.put,Dc.putK_eq]
theorem stepOp_eq (o:Oper) (st:St) (k:St -> α):stepOp A E call o st k = stepOp0 A E call o st k:=by
 unfold stepOp stepOp0
 simp only [setBoolK_eq,St.putK_eq,Dc.putK_eq,forceP_eq]
theorem guardOp_eq (ops:List Oper) (o:Oper) (st:St) (k:St -> α):guardOp A E call ops o st k = guardOp0 A E call ops o st k:=by
 unfold guardOp guardOp0
 simp only [St.putK_eq,stepOp_eq,setK_eq,nthV_eq]
end
def Post (R:Nat -> RoRow) (Q:Exit -> St -> Prop) (m0:Map) (h0:Rows) (w0:World) (e:Exit) (a:Act) (w:World):Prop :=
 ∃ m st,(match e with | .normal | .exit _ | .ret => True | _ => False) /\ Q e st /\ Rel R m st a w /\ Step m0 h0 w0 m st.rows w
def Safe (P:Program) (R:Nat -> RoRow) (c:Code) (st:St) (Q:Exit -> St -> Prop):Prop :=
 ∀ m a w m0 h0 w0,Rel R m st a w -> Step m0 h0 w0 m st.rows w -> c.wp P (Post R Q m0 h0 w0) a w
def SafeCall (P:Program) (R:Nat -> RoRow) (f:FuncId) (args:List AV) (h:Rows) (Q:AV -> Rows -> Prop):Prop :=
 ∀ m w m0 h0 w0 (as:Array Value),DenL m h.length args as.toList -> WR R m h w -> Step m0 h0 w0 m h w ->
  Calls P f as w fun e w' => ∃ c v m' h',e = .returned c /\ Q v h' /\ Den m' h'.length v c /\ WR R m' h' w' /\ Step m0 h0 w0 m' h' w'
def CallOK {α:Type} (P:Program) (R:Nat -> RoRow) (hold:α -> Prop) (call:FuncId -> List AV -> Rows -> (AV -> Rows -> α) -> α):Prop :=
 ∀ f args h k, hold (call f args h k) → SafeCall P R f args h (fun v h' => hold (k v h')) ∧ ∃ fn, P.funcs[f]? = some fn ∧ fn.body.isSome = true ∧ (fn.name == "runtime.NumGoroutine") = false
section
variable {α:Type} {A:Ans α} {E:Env α} {call:FuncId -> List AV -> Rows -> (AV -> Rows -> α) -> α} {hold:α -> Prop} {P:Program}
theorem hold_cond (b:Bool) (x y:α) (h:hold (cond b x y)):(b = true /\ hold x) \/ (b = false /\ hold y):=by
 cases b
 ·exact .inr ⟨rfl,h⟩
 ·exact .inl ⟨rfl,h⟩
theorem forcedRows {h:Rows} {c:Rows -> α} (hh:hold (forceRows h c)):hold (c h):=by rw [forceRows_eq] at hh; exact hh
theorem forced {l:List AV} {c:List AV -> α} (h:hold (forceL l c)):hold (c l):=by rw [forceL_eq] at h; exact h
theorem stepOp0_ok (hA:Holds A hold) (hT:TabOK P E.T) (hcall:CallOK P E.R hold call) {o:Oper} {st:St} {k:St -> α} (h:hold (stepOp0 A E call o st k)) {m:Map} {a:Act} {w:World} (hr:Rel E.R m st a w)
  {m0:Map} {h0:Rows} {w0:World} (hs:Step m0 h0 w0 m st.rows w) (K:Act -> World -> Prop) (Q:Exit -> Act -> World -> Prop)
  (hK:∀ m' st' a' w',hold (k st') -> Rel E.R m' st' a' w' -> Step m0 h0 w0 m' st'.rows w' -> K a' w'):o.wp P a w K Q:=by
 have hev:=hr.ev
 have quiet:∀ v,(evQ E.T E.R st.rows st.ev o).has v -> hold (k (st.put o.dst v)) -> o.wp P a w K Q:=by
  intro v hv hk
  obtain ⟨c,hc,hd⟩:=evQ_ok hT hr.wr st.ev a.eval hev o v hv
  unfold Oper.wp
  rw [hc]
  exact hK m _ _ _ hk (hr.put (Step.refl _ _ _) hr.wr o.dst hd) hs
 have loud:∀ c v rows,evW E.T E.R st.rows st.ev o = .ok c v rows -> c = true -> hold (k ⟨putT st.tmps o.dst v,rows⟩) -> o.wp P a w K Q:=by
  intro c v rows hw hc hk
  have:=evW_ok hT hr.wr st.ev a.eval hev o
  rw [hw] at this
  obtain ⟨nx,cv,w',m',hrun,hn,hd,hW,hS⟩:=this hc
  unfold Oper.wp
  rw [hrun]
  cases nx <;> simp only [nextVal] at hn <;> try (cases hn; done)
  ·cases hn
   exact hK m' _ _ _ hk (hr.put hS hW o.dst hd) (hs.trans hS)
  ·cases hn
   exact hK m' _ _ _ hk (hr.put hS hW o.dst hd) (hs.trans hS)
 have both:hold (match evQ E.T E.R st.rows st.ev o with
  | .ok v => k (st.put o.dst v)
  | .ck c v => cond c (k (st.put o.dst v)) A.bot
  | .no => match evW E.T E.R st.rows st.ev o with
   | .ok c v rows => cond c (forceRows rows fun rows => k ⟨putT st.tmps o.dst v,rows⟩) A.bot
   | .no => A.bot) -> o.wp P a w K Q:=by
  intro h
  cases hq:evQ E.T E.R st.rows st.ev o with
  | ok v => rw [hq] at h; exact quiet v (by rw [hq]; rfl) h
  | ck c v =>
   rw [hq] at h
   rcases hold_cond c _ _ h with ⟨hc,hk⟩ | ⟨_,hk⟩
   ·exact quiet v (by rw [hq]; exact ⟨hc,rfl⟩) hk
   ·exact (hA.bot hk).elim
  | no =>
   rw [hq] at h
   cases hw:evW E.T E.R st.rows st.ev o with
   | no => rw [hw] at h; exact (hA.bot h).elim
   | ok c v rows =>
    rw [hw] at h
    rcases hold_cond c _ _ h with ⟨hc,hk⟩ | ⟨_,hk⟩
    ·exact loud c v rows hw hc (by rw [forceRows_eq] at hk; exact hk)
    ·exact (hA.bot hk).elim
 obtain ⟨dst,op,type,pos,after,guard⟩:=o
 cases op
 case pick c x y =>
  simp only [stepOp0] at h
  have hc:=hev c
  split at h
  ·rename_i t he
   rw [he] at hc
   simp only [Den] at hc
   have hset:Rel E.R m (setBool st c t) a w /\ (setBool st c t).rows = st.rows:=by
    cases c with
    | tmp d => exact ⟨hr.known (by simpa [St.ev,nthV_eq] using he),rfl⟩
    | _ => exact ⟨hr,rfl⟩
   have fin:∀ z,hold (k ((setBool st c t).put dst (st.ev z))) -> (execOp a.eval ⟨dst,.pick c x y,type,pos,after,guard⟩).run P w = .ok (.value (a.eval z)) w -> (⟨dst,.pick c x y,type,pos,after,guard⟩:Oper).wp P a w K Q:=by
    intro z hk hrun
    unfold Oper.wp
    rw [hrun]
    have hS:Step m (setBool st c t).rows w m (setBool st c t).rows w:=Step.refl _ _ _
    refine hK m _ _ _ hk (hset.1.put hS hset.1.wr dst ?_) ?_
    ·rw [hset.2]; exact hev z
    ·show Step m0 h0 w0 m (setBool st c t).rows w
     rw [hset.2]; exact hs
   rcases hold_cond t _ _ h with ⟨rfl,hk⟩ | ⟨rfl,hk⟩
   ·exact fin x hk (by simp [execOp,hc,asBool,pure,Sem.run])
   ·exact fin y hk (by simp [execOp,hc,asBool,pure,Sem.run])
  ·exact (hA.bot h).elim
 case call c =>
  obtain ⟨callee,args,argTypes⟩:=c
  cases callee
  case builtin b => exact both h
  case invoke r mm => exact both h
  case value f =>
   simp only [stepOp0] at h
   split at h
   ·rename_i g first cap he
    have hf:=hev f
    rw [he] at hf
    simp only [Den] at hf
    obtain ⟨us,vs,hfe,hus,hvs⟩:=hf
    have h:=forced h
    obtain ⟨hsafe,fn,hfn,hbody,hname⟩:=hcall g _ _ _ h
    have hrun:(execOp a.eval ⟨dst,.call ⟨.value f,args,argTypes⟩,type,pos,after,guard⟩).run P w = .ok (.enter g (us ++ args.map a.eval ++ vs)) w:=by
     simp only [execOp,resolve,Sem.run_bind,Deferred.ofValue,hfe,Sem.run_pure,Result.andThen_ok,invoke,callFunc]
     simp only [program,Sem.run,pure,Result.andThen_ok,hfn,Sem.bind]
     have hb:fn.body.isNone = false:=by cases hbb:fn.body <;> simp_all
     simp [hname,hb,Sem.run]
    unfold Oper.wp
    rw [hrun]
    have hargs:DenL m st.rows.length (first ++ (args.toList.map st.ev ++ cap)) (us ++ args.map a.eval ++ vs).toList:=by
     have app:∀ {l1 l2:List AV} {v1 v2:List Value},DenL m st.rows.length l1 v1 -> DenL m st.rows.length l2 v2 -> DenL m st.rows.length (l1 ++ l2) (v1 ++ v2):=by
      intro l1
      induction l1 with
      | nil => intro l2 v1 v2 h1 h2; simp only [DenL] at h1; subst h1; simpa using h2
      | cons x l1 ih =>
       intro l2 v1 v2 h1 h2
       simp only [DenL] at h1
       obtain ⟨u,us,rfl,hd,hl⟩:=h1
       simp only [List.cons_append,DenL]
       exact ⟨u,_,rfl,hd,ih hl h2⟩
     have hm:DenL m st.rows.length (args.toList.map st.ev) (args.map a.eval).toList:=by simpa using DenL.map_op hev args.toList
     have:=app hus (app hm hvs)
     simpa [List.append_assoc] using this
    refine (hsafe m w m st.rows w _ hargs hr.wr (Step.refl _ _ _)).mono ?_
    rintro e w' ⟨c,v,m',h',rfl,hk,hd,hW,hS⟩
    exact hK m' _ _ _ (forcedRows hk) (hr.put hS hW dst hd) (hs.trans hS)
   ·exact (hA.bot h).elim
 all_goals exact both h
theorem guardOp0_ok (hA:Holds A hold) (hT:TabOK P E.T) (hcall:CallOK P E.R hold call) {ops:Array Oper} {o:Oper} {st:St} {k:St -> α} (h:hold (guardOp0 A E call ops.toList o st k)) {m:Map} {a:Act} {w:World} (hr:Rel E.R m st a w)
  {m0:Map} {h0:Rows} {w0:World} (hs:Step m0 h0 w0 m st.rows w) (K:Act -> World -> Prop) (Q:Exit -> Act -> World -> Prop)
  (hK:∀ m' st' a' w',hold (k st') -> Rel E.R m' st' a' w' -> Step m0 h0 w0 m' st'.rows w' -> K a' w') :
  (Region.wanted o (yielded ops a.tmps) = true /\ o.wp P a w K Q) \/ (Region.wanted o (yielded ops a.tmps) = false /\ K (a.put o.dst undef) w):=by
 unfold guardOp0 at h
 have skip:∀ st':St,Rel E.R m st' a w -> st'.rows = st.rows -> hold (k (St.put st' o.dst .undef)) -> K (a.put o.dst undef) w:=by
  intro st' hr' he hk
  refine hK m _ _ _ hk (hr'.put (Step.refl _ _ _) hr'.wr o.dst (by simp [Den,DenL,undef])) ?_
  show Step m0 h0 w0 m st'.rows w
  rw [he]; exact hs
 cases hg:o.guard with
 | none =>
  rw [hg] at h
  exact .inl ⟨by simp [Region.wanted,hg],stepOp0_ok hA hT hcall h hr hs K Q hK⟩
 | some g =>
  obtain ⟨j,want⟩:=g
  rw [hg] at h
  simp only [] at h
  cases hd:(ops.toList[j]?).bind (·.dst) with
  | none => rw [hd] at h; exact (hA.bot h).elim
  | some d =>
   rw [hd] at h
   simp only [] at h
   have hd':(ops[j]?).bind (·.dst) = some d:=by simpa using hd
   have hev:=hr.ev (.tmp d)
   simp only [St.ev,Act.eval,nthV_eq] at hev
   have hy:∀ v:Value,a.tmps.getD d undef = v -> d < a.tmps.size -> yielded ops a.tmps j = (match v with | .bool b => some b | _ => none):=by
    intro v hv hlt
    unfold yielded
    rw [hd']
    simp only [Option.bind_some]
    rw [Array.getD_eq_getD_getElem?,Array.getElem?_eq_getElem hlt] at hv
    simp only [Option.getD_some] at hv
    rw [Array.getElem?_eq_getElem hlt,hv]
    cases v <;> rfl
   have hylt:¬ d < a.tmps.size -> yielded ops a.tmps j = none:=by
    intro hlt
    unfold yielded
    rw [hd']
    simp only [Option.bind_some]
    rw [Array.getElem?_eq_none (Nat.le_of_not_lt hlt)]
   have hno:∀ v:Value,a.tmps.getD d undef = v -> (∀ b,v ≠ .bool b) -> Region.wanted o (yielded ops a.tmps) = false:=by
    intro v hv hne
    unfold Region.wanted
    rw [hg]
    simp only []
    by_cases hlt:d < a.tmps.size
    ·rw [hy v hv hlt]
     cases v <;> first | rfl | exact absurd rfl (hne _)
    ·rw [hylt hlt]; rfl
   split at h
   ·rename_i b he
    rw [he] at hev
    simp only [Den] at hev
    have hlt:d < a.tmps.size:=by
     rcases Nat.lt_or_ge d a.tmps.size with h1 | h1
     ·exact h1
     ·rw [Array.getD_eq_getD_getElem?,Array.getElem?_eq_none h1] at hev
      simp [undef] at hev
    have hyb:=hy _ hev hlt
    simp only [] at hyb
    have hknown:=hr.known (by simpa [St.ev,nthV_eq] using he)
    have hw:Region.wanted o (yielded ops a.tmps) = (b == want):=by
     unfold Region.wanted
     rw [hg]
     simp only [hyb]
     cases b <;> cases want <;> rfl
    rw [hw]
    rcases hold_cond b _ _ h with ⟨rfl,hk⟩ | ⟨rfl,hk⟩
    ·rcases hold_cond want _ _ hk with ⟨rfl,hk⟩ | ⟨rfl,hk⟩
     ·exact .inl ⟨rfl,stepOp0_ok hA hT hcall hk hknown hs K Q hK⟩
     ·exact .inr ⟨rfl,skip _ hknown rfl hk⟩
    ·rcases hold_cond want _ _ hk with ⟨rfl,hk⟩ | ⟨rfl,hk⟩
     ·exact .inr ⟨rfl,skip _ hknown rfl hk⟩
     ·exact .inl ⟨rfl,stepOp0_ok hA hT hcall hk hknown hs K Q hK⟩
   ·rename_i he
    rw [he] at hev
    simp only [Den] at hev
    obtain ⟨vs,hv,_⟩:=hev
    exact .inr ⟨hno _ hv (by simp),skip st hr rfl h⟩
   ·rename_i he
    rw [he] at hev
    simp only [Den] at hev
    exact .inr ⟨hno _ hev (by simp),skip st hr rfl h⟩
   ·rename_i he
    rw [he] at hev
    simp only [Den] at hev
    exact .inr ⟨hno _ hev (by simp),skip st hr rfl h⟩
   ·exact (hA.bot h).elim
theorem runOps_ok (hA:Holds A hold) (hT:TabOK P E.T) (hcall:CallOK P E.R hold call) (ops:Array Oper):∀ (l:List Oper) (st:St) (k:St -> α),hold (runOps A E call ops.toList l st k) ->
  ∀ {m:Map} {a:Act} {w:World},Rel E.R m st a w -> ∀ {m0:Map} {h0:Rows} {w0:World},Step m0 h0 w0 m st.rows w ->
   ∀ (Q:Exit -> Act -> World -> Prop),(∀ m' st' a' w',hold (k st') -> Rel E.R m' st' a' w' -> Step m0 h0 w0 m' st'.rows w' -> Q .normal a' w') -> wpList P ops Q l a w
 | [],st,k,h,m,a,w,hr,m0,h0,w0,hs,Q,hQ => wpList_nil (hQ m st a w h hr hs)
 | o :: l,st,k,h,m,a,w,hr,m0,h0,w0,hs,Q,hQ => by
  simp only [runOps,guardOp_eq] at h
  have:=guardOp0_ok hA hT hcall h hr hs (wpList P ops Q l) Q (fun m' st' a' w' hk hr' hs' => runOps_ok hA hT hcall ops l st' k hk hr' hs' Q hQ)
  unfold wpList
  rcases this with ⟨hw,h1⟩ | ⟨hw,h1⟩
  ·rw [if_pos hw]; exact .inl h1
  ·rw [if_neg (by rw [hw]; simp)]; exact h1
end
section
variable {α:Type} (A:Ans α) (E:Env α)
def enterT (args:List AV) (n:Nat):List AV:=args ++ List.replicate (n - args.length) .undef
def resV (T:TypeId -> Option TI) (R:Nat -> RoRow) (st:St):ResultVar -> QR
 | .tmp t => .ok (nthV st.tmps t)
 | .cell x t => aload T R st.rows t (nthV st.tmps x)
def resL (T:TypeId -> Option TI) (R:Nat -> RoRow) (st:St):List ResultVar -> (List AV -> α) -> α
 | [],k => k []
 | r :: rs,k => match resV T R st r with
  | .ok v => resL T R st rs fun vs => k (v :: vs)
  | .ck c v => cond c (resL T R st rs fun vs => k (v :: vs)) A.bot
  | .no => A.bot
def tupOf:List AV -> AV
 | [v] => v
 | vs => .tup vs
def resK (st:St) (rs:List ResultVar) (k:AV -> α):α:=resL A E.T E.R st rs fun vs => k (tupOf vs)
abbrev Draw (α:Type):=(FuncId -> List AV -> Rows -> (AV -> Rows -> α) -> α) -> Array Oper -> St -> (St -> α) -> α
def code (draw:Draw α):Nat -> FuncId -> Code -> St -> (Exit -> St -> α) -> α
 | 0,_,_,_,_ => A.bot
 | n + 1,f,c,st,k =>
  let call:FuncId -> List AV -> Rows -> (AV -> Rows -> α) -> α:=fun g args rows k => match E.calls g with
   | some spec => spec args rows k
   | none => match E.F g with
    | none => A.bot
    | some fi => forceL (enterT args fi.ntmps) fun ts => code draw n g fi.body ⟨ts,rows⟩ fun e st => match e with
     | .normal | .ret => resK A E st fi.results fun v => k v st.rows
     | _ => A.bot
  match c with
  | .skip => k .normal st
  | .label _ => k .normal st
  | .seq x y => code draw n f x st fun e st => match e with | .normal => code draw n f y st k | e => k e st
  | .cond c x y => match st.ev c with
   | .bool b => cond b (setBoolK st c true fun st => code draw n f x st k) (setBoolK st c false fun st => code draw n f y st k)
   | _ => A.bot
  | .block id body => match E.loops f id with
   | some spec => spec st k
   | none => code draw n f body st fun e st => match e with
    | .exit id' => bif Nat.beq id' id then k .normal st else k (.exit id') st
    | e => k e st
  | .loop body => code draw n f body st fun e st => match e with | .normal => code draw n f (.loop body) st k | e => k e st
  | .exit id => k (.exit id) st
  | .ret => k .ret st
  | .region _ ops false => runOps A E call ops.toList ops.toList st fun st => k .normal st
  | .region _ ops true => draw call ops st fun st => k .normal st
  | _ => A.bot
end
end
end Go.Dc
end
section
namespace Go.Dc
def subs:Code -> List (Nat × Code)
 | .block id b => (id,b) :: subs b
 | .seq x y => subs x ++ subs y
 | .cond _ x y => subs x ++ subs y
 | .loop b => subs b
 | .rangeFunc _ _ a b => subs a ++ subs b
 | _ => []
def Env.subsOf {α:Type} (E:Env α) (f:FuncId):List (Nat × Code) :=
 match E.F f with
 | some fi => subs fi.body
 | none => []
structure FnOK (P:Program) (f:FuncId) (fi:FI):Prop where
 fn : ∃ fn, P.funcs[f]? = some fn ∧ fn.body = some fi.body ∧ fn.ntmps = fi.ntmps ∧ fn.results = fi.results.toArray ∧ (fn.name == "runtime.NumGoroutine") = false
structure EnvOK {α:Type} (P:Program) (E:Env α) (hold:α -> Prop):Prop where
 T:TabOK P E.T
 F:∀ f fi,E.F f = some fi -> FnOK P f fi
 calls : ∀ f spec, E.calls f = some spec → ∀ args h k, hold (spec args h k) → SafeCall P E.R f args h (fun v h' => hold (k v h')) ∧ ∃ fn, P.funcs[f]? = some fn ∧ fn.body.isSome = true ∧ (fn.name == "runtime.NumGoroutine") = false
 loops:∀ f id spec,E.loops f id = some spec -> ∀ body,(id,body) ∈ E.subsOf f -> ∀ st k,hold (spec st k) -> Safe P E.R (.block id body) st (fun e st' => hold (k e st'))
def DrawOK {α:Type} (P:Program) (E:Env α) (hold:α -> Prop) (draw:Draw α):Prop :=
 ∀ call,CallOK P E.R hold call -> ∀ id ops st (k:St -> α),hold (draw call ops st k) -> ∀ m a w m0 h0 w0,Rel E.R m st a w -> Step m0 h0 w0 m st.rows w ->
  (Code.region id ops true).wp P (Post E.R (fun e st' => e = .normal /\ hold (k st')) m0 h0 w0) a w
theorem Post.mono {R:Nat -> RoRow} {Q Q':Exit -> St -> Prop} {m0:Map} {h0:Rows} {w0:World} (hq:∀ e st,Q e st -> Q' e st) {e:Exit} {a:Act} {w:World} (h:Post R Q m0 h0 w0 e a w):Post R Q' m0 h0 w0 e a w:=by
 obtain ⟨m,st,h1,h2,h3,h4⟩:=h
 exact ⟨m,st,h1,hq _ _ h2,h3,h4⟩
theorem Safe.mono {P:Program} {R:Nat -> RoRow} {c:Code} {st:St} {Q Q':Exit -> St -> Prop} (h:Safe P R c st Q) (hq:∀ e st,Q e st -> Q' e st):Safe P R c st Q' :=
 fun m a w m0 h0 w0 hr hs => wp_mono (h m a w m0 h0 w0 hr hs) fun _ _ _ hp => hp.mono hq
theorem QR.sat_has {m:Map} {n:Nat} {P:Program} {w:World} {s:Sem Value} {q:QR} (h:q.sat m n P w s) {v:AV} (hv:q.has v):∃ c,s.run P w = .ok c w /\ Den m n v c:=by
 cases q with
 | no => exact hv.elim
 | ok u => cases hv; exact h
 | ck c u => obtain ⟨h1,rfl⟩:=hv; exact h h1
def ResOK (T:TypeId -> Option TI) (R:Nat -> RoRow) (st:St):List ResultVar -> List AV -> Prop
 | [],vs => vs = []
 | r :: rs,vs => ∃ v vs',vs = v :: vs' /\ (resV T R st r).has v /\ ResOK T R st rs vs'
theorem resL_ok {α:Type} {A:Ans α} {hold:α -> Prop} (hA:Holds A hold) {T:TypeId -> Option TI} {R:Nat -> RoRow} {st:St}:∀ {rs:List ResultVar} {k:List AV -> α},hold (resL A T R st rs k) -> ∃ vs,ResOK T R st rs vs /\ hold (k vs)
 | [],k,h => ⟨[],rfl,h⟩
 | r :: rs,k,h => by
  unfold resL at h
  split at h
  ·rename_i v hv
   obtain ⟨vs,h1,h2⟩:=resL_ok hA h
   exact ⟨v :: vs,⟨v,vs,rfl,by rw [hv]; rfl,h1⟩,h2⟩
  ·rename_i c v hv
   rcases hold_cond c _ _ h with ⟨hc,hk⟩ | ⟨_,hk⟩
   ·obtain ⟨vs,h1,h2⟩:=resL_ok hA hk
    exact ⟨v :: vs,⟨v,vs,rfl,by rw [hv]; exact ⟨hc,rfl⟩,h1⟩,h2⟩
   ·exact (hA.bot hk).elim
  ·exact (hA.bot h).elim
theorem res_run {P:Program} {T:TypeId -> Option TI} (hT:TabOK P T) {R:Nat -> RoRow} {m:Map} {st:St} {a:Act} {w:World} (hr:Rel R m st a w) (g:ResultVar -> Sem Value) (hg1:∀ t,g (.tmp t) = pure (a.tmps.getD t undef))
  (hg2:∀ x t,g (.cell x t) = do loadVar t (<- asAddr (a.tmps.getD x undef))):∀ {rs:List ResultVar} {vs:List AV},ResOK T R st rs vs -> ∃ cs,(rs.mapM (m:=Sem) g).run P w = .ok cs w /\ DenL m st.rows.length vs cs
 | [],vs,h => by
  simp only [ResOK] at h
  subst h
  exact ⟨[],rfl,by simp [DenL]⟩
 | r :: rs,vs,h => by
  simp only [ResOK] at h
  obtain ⟨v,vs',rfl,hv,hrest⟩:=h
  obtain ⟨cs,hcs,hd⟩:=res_run hT hr g hg1 hg2 hrest
  have one:∃ c,(g r).run P w = .ok c w /\ Den m st.rows.length v c:=by
   cases r with
   | tmp t =>
    simp only [resV] at hv
    cases hv
    exact ⟨_,by rw [hg1]; rfl,hr.ev (.tmp t)⟩
   | cell x t =>
    simp only [resV] at hv
    have hp:=hr.ev (.tmp x)
    obtain ⟨c,h1,h2⟩:=QR.sat_has (aload_ok hT hr.wr t _ _ hp) hv
    refine ⟨c,?_,h2⟩
    rw [hg2]
    have hptr:∃ ro b i o,nthV st.tmps x = .ptr ro b i o:=by
     unfold aload at hv
     split at hv
     ·rename_i ti ro b i o _ _; exact ⟨ro,b,i,o,by assumption⟩
     ·exact hv.elim
    obtain ⟨ro,b,i,o,he⟩:=hptr
    simp only [St.ev] at hp
    rw [he] at hp
    simp only [Den] at hp
    obtain ⟨_,_,hu⟩:=hp
    simp only [Act.eval] at hu h1
    rw [hu] at h1 ⊢
    exact h1
  obtain ⟨c,hc,hdc⟩:=one
  refine ⟨c :: cs,?_,?_⟩
  ·simp only [List.mapM_cons,Sem.run_bind,hc,Result.andThen_ok,hcs,Sem.run_pure]
  ·simp only [DenL]; exact ⟨c,cs,rfl,hdc,hd⟩
theorem SafeCall.of_body {P:Program} {T:TypeId -> Option TI} (hT:TabOK P T) {R:Nat -> RoRow} {f:FuncId} {fi:FI} (hF:FnOK P f fi) {args:List AV} {h:Rows} {Q:AV -> Rows -> Prop}
  (hb:Safe P R fi.body ⟨enterT args fi.ntmps,h⟩ fun e st => (e = .normal \/ e = .ret) /\ ∃ vs,ResOK T R st fi.results vs /\ Q (tupOf vs) st.rows):SafeCall P R f args h Q:=by
 obtain ⟨fn,hfn,hbody,hnt,hres,hname⟩:=hF.fn
 intro m w m0 h0 w0 as has hW hS
 refine calls_of_wp hfn hbody ?_
 have hlen:=has.length
 simp only [Array.length_toList] at hlen
 have hrel:Rel R m ⟨enterT args fi.ntmps,h⟩ { tmps:=as ++ Array.replicate (fn.ntmps - as.size) undef,defers:=[] } w:=by
  refine ⟨by simp [enterT,hnt,hlen],?_,rfl,hW⟩
  intro i x hx
  simp only [enterT] at hx
  by_cases hi:i < args.length
  ·rw [List.getElem?_append_left hi] at hx
   obtain ⟨c,hc,hd⟩:=has.get hx
   have hi2:i < as.size:=by omega
   refine ⟨c,?_,hd⟩
   rw [Array.getElem?_append_left hi2]
   simpa using hc
  ·rw [List.getElem?_append_right (by omega)] at hx
   have hx2:=List.getElem?_eq_some_iff.1 hx
   obtain ⟨hlt,hxe⟩:=hx2
   simp at hlt hxe
   subst hxe
   refine ⟨undef,?_,by simp [Den,DenL,undef]⟩
   rw [Array.getElem?_append_right (by omega)]
   rw [Array.getElem?_replicate]
   rw [if_pos (by omega)]
 refine wp_mono (hb m _ w m0 h0 w0 hrel hS) ?_
 rintro e a' w' ⟨m',st',hok,⟨he,vs,hvs,hq⟩,hr',hs'⟩
 obtain ⟨c,hfin,hden⟩:∃ c,(results fn a'.tmps).run P w' = .ok c w' /\ Den m' st'.rows.length (tupOf vs) c:=by
  have hres':∃ F:ResultVar -> Sem Value,(∀ t,F (.tmp t) = pure (a'.tmps.getD t undef)) /\ (∀ x t,F (.cell x t) = do loadVar t (<- asAddr (a'.tmps.getD x undef))) /\
    results fn a'.tmps = (do let vs <- fn.results.mapM F; pure (if h:vs.size = 1 then vs[0] else .tuple vs)):=⟨_,fun _ => rfl,fun _ _ => rfl,rfl⟩
  obtain ⟨F,hF1,hF2,hres'⟩:=hres'
  rw [hres',hres]
  simp only [Sem.run_bind]
  rw [List.mapM_toArray]
  simp only [Sem.run_map]
  obtain ⟨cs,hcs,hd⟩:=res_run hT hr' F hF1 hF2 hvs
  rw [hcs]
  simp only [Result.andThen_ok,Sem.run_pure]
  refine ⟨_,rfl,?_⟩
  cases vs with
  | nil =>
   simp only [DenL] at hd
   subst hd
   simp [tupOf,Den,DenL]
  | cons v vs =>
   simp only [DenL] at hd
   obtain ⟨u,us,rfl,h1,h2⟩:=hd
   cases vs with
   | nil =>
    simp only [DenL] at h2
    subst h2
    simpa [tupOf] using h1
   | cons v2 vs =>
    simp only [DenL] at h2
    obtain ⟨u2,us,rfl,h2,h3⟩:=h2
    simp only [tupOf,Den]
    refine ⟨(u :: u2 :: us).toArray,by simp,?_⟩
    simp only [DenL]
    exact ⟨u,_,rfl,h1,u2,us,rfl,h2,h3⟩
 have hR:∃ c' v m' h',(Ending.returned c) = .returned c' /\ Q v h' /\ Den m' h'.length v c' /\ WR R m' h' w' /\ Step m0 h0 w0 m' h' w' :=
  ⟨_,_,m',st'.rows,rfl,hq,hden,hr'.wr,hs'⟩
 rcases he with rfl | rfl
 ·exact ⟨hr'.defers,_,hfin,hR⟩
 ·exact ⟨hr'.defers,_,hfin,hR⟩
section
variable {α:Type} {A:Ans α} {E:Env α} {draw:Draw α} {hold:α -> Prop} {P:Program}
theorem code_ok (hA : Holds A hold) (hE : EnvOK P E hold) (hD : DrawOK P E hold draw) : ∀ (n : Nat) (f : FuncId) (c : Code) (st : St) (k : Exit → St → α), (∀ p ∈ subs c, p ∈ E.subsOf f) → hold (code A E draw n f c st k) →
    Safe P E.R c st fun e st' => hold (k e st') := by
  intro n
  induction n using Nat.strongRecOn with
  | ind n IH =>
   cases n with
   | zero => intro f c st k _ h; exact (hA.bot h).elim
   | succ n =>
    have ih := IH n (Nat.lt_succ_self n)
    intro f c st k hsub h
    -- the calls
    have hcall : CallOK P E.R hold (fun g args rows k => match E.calls g with
      | some spec => spec args rows k
      | none => match E.F g with
        | none => A.bot
        | some fi => forceL (enterT args fi.ntmps) fun ts => code A E draw n g fi.body ⟨ts, rows⟩ fun e st => match e with
          | .normal | .ret => resK A E st fi.results fun v => k v st.rows
          | _ => A.bot) := by
      intro g args rows k hk
      simp only [] at hk
      cases hc : E.calls g with
      | some spec => rw [hc] at hk; exact hE.calls g spec hc args rows k hk
      | none =>
        rw [hc] at hk
        simp only [] at hk
        cases hf : E.F g with
        | none => rw [hf] at hk; exact (hA.bot hk).elim
        | some fi =>
          rw [hf] at hk
          have hk := forced hk
          have hF := hE.F g fi hf
          have hb := ih g fi.body _ _ (fun p hp => by unfold Env.subsOf; rw [hf]; exact hp) hk
          obtain ⟨fn, h1, h2, h3, h4, h5⟩ := hF.fn
          refine ⟨SafeCall.of_body hE.T hF (hb.mono ?_), fn, h1, by rw [h2]; rfl, h5⟩
          intro e st' he
          cases e <;> first
            | exact ⟨.inl rfl, resL_ok hA he⟩
            | exact ⟨.inr rfl, resL_ok hA he⟩
            | exact (hA.bot he).elim
    intro m a w m0 h0 w0 hr hs
    cases c with
    | skip => exact wp_skip ⟨m, st, trivial, h, hr, hs⟩
    | label l => exact wp_label ⟨m, st, trivial, h, hr, hs⟩
    | exit id => exact wp_exit ⟨m, st, trivial, h, hr, hs⟩
    | ret => exact wp_ret ⟨m, st, trivial, h, hr, hs⟩
    | seq x y =>
      have hx := ih f x st _ (fun p hp => hsub p (by simp [subs, hp])) h
      refine wp_seq (wp_mono (hx m a w m0 h0 w0 hr hs) ?_)
      rintro e a' w' ⟨m', st', hok, hq, hr', hs'⟩
      cases e <;> first
        | exact hok.elim
        | exact ⟨m', st', trivial, hq, hr', hs'⟩
        | exact ih f y st' k (fun p hp => hsub p (by simp [subs, hp])) hq m' a' w' m0 h0 w0 hr' hs'
    | cond x y z =>
      have hev := hr.ev x
      simp only [code, setBoolK_eq] at h
      split at h
      · rename_i b he
        rw [he] at hev
        simp only [Den] at hev
        have hset : Rel E.R m (setBool st x b) a w ∧ (setBool st x b).rows = st.rows := by
          cases x with
          | tmp d => exact ⟨hr.known (by simpa [St.ev, nthV_eq] using he), rfl⟩
          | _ => exact ⟨hr, rfl⟩
        rcases hold_cond b _ _ h with ⟨rfl, hk⟩ | ⟨rfl, hk⟩
        · exact wp_cond_true hev (ih f y _ k (fun p hp => hsub p (by simp [subs, hp])) hk m a w m0 h0 w0 hset.1 (by rw [hset.2]; exact hs))
        · exact wp_cond_false hev (ih f z _ k (fun p hp => hsub p (by simp [subs, hp])) hk m a w m0 h0 w0 hset.1 (by rw [hset.2]; exact hs))
      · exact (hA.bot h).elim
    | block id body =>
      simp only [code] at h
      cases hl : E.loops f id with
      | some spec =>
        rw [hl] at h
        exact hE.loops f id spec hl body (hsub _ (by simp [subs])) st k h m a w m0 h0 w0 hr hs
      | none =>
        rw [hl] at h
        have hb := ih f body st _ (fun p hp => hsub p (by simp [subs, hp])) h
        refine wp_block (wp_mono (hb m a w m0 h0 w0 hr hs) ?_)
        rintro e a' w' ⟨m', st', hok, hq, hr', hs'⟩
        cases e with
        | normal => exact ⟨m', st', trivial, hq, hr', hs'⟩
        | ret => exact ⟨m', st', trivial, hq, hr', hs'⟩
        | exit id' =>
          simp only [Exit.inBlock]
          by_cases hid : id' = id
          · rw [if_pos hid]
            subst hid
            simp only [Nat.beq_refl, cond_true] at hq
            exact ⟨m', st', trivial, hq, hr', hs'⟩
          · rw [if_neg hid]
            have : Nat.beq id' id = false := by rw [Bool.eq_false_iff]; exact fun e => hid (Nat.eq_of_beq_eq_true e)
            simp only [this, cond_false] at hq
            exact ⟨m', st', trivial, hq, hr', hs'⟩
        | goto l => exact hok.elim
        | panic ch => exact hok.elim
        | outgrown => exact hok.elim
    | loop body =>
      -- rounds
      have key : ∀ (j : Nat), j ≤ n + 1 → ∀ (st : St), hold (code A E draw j f (.loop body) st k) → ∀ m a w, Rel E.R m st a w → Step m0 h0 w0 m st.rows w →
          Code.rounds P body (Post E.R (fun e st' => hold (k e st')) m0 h0 w0) j a w := by
        intro j
        induction j with
        | zero => intro _ st h m a w _ _; exact (hA.bot h).elim
        | succ j ihj =>
          intro hj st h m a w hr hs
          rw [rounds_succ]
          simp only [code] at h
          refine wp_mono (IH j (by omega) f body st _ (fun p hp => hsub p (by simpa [subs] using hp)) h m a w m0 h0 w0 hr hs) ?_
          rintro e a' w' ⟨m', st', hok, hq, hr', hs'⟩
          cases e with
          | normal => exact ihj (by omega) st' hq m' a' w' hr' hs'
          | _ => first | exact hok.elim | exact ⟨m', st', trivial, hq, hr', hs'⟩
      exact wp_loop_rounds (n + 1) (key (n + 1) (Nat.le_refl _) st h m a w hr hs)
    | region id ops d =>
      cases d with
      | false =>
        refine wp_region_list ?_
        exact runOps_ok hA hE.T hcall ops ops.toList st _ h hr hs _ (fun m' st' a' w' hk hr' hs' => ⟨m', st', trivial, hk, hr', hs'⟩)
      | true =>
        refine wp_mono (hD _ hcall id ops st _ h m a w m0 h0 w0 hr hs) fun e a' w' hp => hp.mono ?_
        rintro e st' ⟨rfl, hk⟩
        exact hk
    | scope b => exact (hA.bot h).elim
    | goto l => exact (hA.bot h).elim
    | refuse why => exact (hA.bot h).elim
    | rangeFunc g ps as' b => exact (hA.bot h).elim
end
end Go.Dc
end
section
namespace Go.Dc
mutual
def ren (f:Nat -> Nat):AV -> AV
 | .any => .any
 | .bool b => .bool b
 | .int k x => .int k x
 | .str l => .str l
 | .ptr ro b i o => .ptr ro (cond ro b (f b)) i o
 | .nilp => .nilp
 | .sl ro b i len full => .sl ro (cond ro b (f b)) i len full
 | .nils => .nils
 | .fn g a c => .fn g (renL f a) (renL f c)
 | .nilf => .nilf
 | .ifc t x => .ifc t (ren f x)
 | .nili => .nili
 | .agg cs => .agg (renL f cs)
 | .tup cs => .tup (renL f cs)
def renL (f:Nat -> Nat):List AV -> List AV
 | [] => []
 | x :: xs => ren f x :: renL f xs
end
def Cp.le (c u:Cp):Prop:=∀ len cap,CpOK u len cap -> CpOK c len cap
theorem Cp.le_refl (c:Cp):Cp.le c c:=fun _ _ h => h
theorem Cp.no_le (u:Cp):Cp.le .no u:=fun _ _ _ => trivial
mutual
/-- 'x',told with inner numbers,is 'y',told with outer ones; or it tells less. An inner row without an outer one is empty. -/
def Vw (f:Nat -> Option Nat) (n:Nat):AV -> AV -> Prop
 | .any,_ => True
 | .bool b,y => y = .bool b
 | .int k x,y => y = .int k x
 | .str l,y => y = .str l
 | .ptr true b i o,y => y = .ptr true b i o
 | .ptr false b i o,y => b < n /\ ∃ b',f b = some b' /\ y = .ptr false b' i o
 | .nilp,y => y = .nilp
 | .sl true b i len full,y => ∃ u,y = .sl true b i len u /\ Cp.le full u
 | .sl false b i len full,y => b < n /\ ((∃ b' u,f b = some b' /\ y = .sl false b' i len u /\ Cp.le full u) \/ (f b = none /\ len = 0 /\ CpOK full 0 0 /\ y = .nils))
 | .nils,y => y = .nils
 | .fn g a c,y => ∃ a' c',y = .fn g a' c' /\ VwL f n a a' /\ VwL f n c c'
 | .nilf,y => y = .nilf
 | .ifc t x,y => ∃ x',y = .ifc t x' /\ Vw f n x x'
 | .nili,y => y = .nili
 | .agg cs,y => ∃ cs',y = .agg cs' /\ VwL f n cs cs'
 | .tup cs,y => ∃ cs',y = .tup cs' /\ VwL f n cs cs'
def VwL (f:Nat -> Option Nat) (n:Nat):List AV -> List AV -> Prop
 | [],l => l = []
 | x :: xs,l => ∃ y ys,l = y :: ys /\ Vw f n x y /\ VwL f n xs ys
end
def Map.view (m:Map) (f:Nat -> Option Nat) (es:Nat -> Nat):Map:=⟨fun c => match f c with | some b => m.mu b | none => ⟨0,0,es c,0,true⟩,m.ro⟩
theorem view_some {m:Map} {f:Nat -> Option Nat} {es:Nat -> Nat} {c b:Nat} (h:f c = some b):(m.view f es).mu c = m.mu b:=by
 simp [Map.view,h]
theorem view_none {m:Map} {f:Nat -> Option Nat} {es:Nat -> Nat} {c:Nat} (h:f c = none):(m.view f es).mu c = ⟨0,0,es c,0,true⟩:=by
 simp [Map.view,h]
mutual
theorem Vw.den {m:Map} {f:Nat -> Option Nat} {es:Nat -> Nat} {n N:Nat}:∀ (x y:AV) (v:Value),Vw f n x y -> Den m N y v -> Den (m.view f es) n x v
 | .any,_,_,_,_ => by simp [Den]
 | .bool b,y,v,h,hd => by simp only [Vw] at h; subst h; simpa [Den] using hd
 | .int k x,y,v,h,hd => by simp only [Vw] at h; subst h; simpa [Den] using hd
 | .str l,y,v,h,hd => by simp only [Vw] at h; subst h; simpa [Den] using hd
 | .ptr true b i o,y,v,h,hd => by
  simp only [Vw] at h
  subst h
  simp only [Den,Map.loc,if_true] at hd ⊢
  exact ⟨by simp,hd.2⟩
 | .ptr false b i o,y,v,h,hd => by
  simp only [Vw] at h
  obtain ⟨hlt,b',hb,rfl⟩:=h
  simp only [Den,Map.loc,Bool.false_eq_true,if_false] at hd ⊢
  rw [view_some hb]
  exact ⟨fun _ => hlt,hd.2⟩
 | .nilp,y,v,h,hd => by simp only [Vw] at h; subst h; simpa [Den] using hd
 | .sl true b i len full,y,v,h,hd => by
  simp only [Vw] at h
  obtain ⟨u,rfl,hu⟩:=h
  simp only [Den,Map.loc,if_true] at hd ⊢
  refine ⟨by simp,?_⟩
  have h2:=hd.2
  have e:(m.view f es).ro = m.ro:=rfl
  rw [e]
  unfold SlDen at h2 ⊢
  split
  ·rename_i hv; rw [if_pos hv] at h2; obtain ⟨h1,ao,h3,h4⟩:=h2; exact ⟨h1,ao,h3,hu _ _ h4⟩
  ·rename_i hv
   rw [if_neg hv] at h2
   obtain ⟨a,cap,h1,h3,h4,h5,h6⟩:=h2
   exact ⟨a,cap,h1,h3,h4,hu _ _ h5,h6⟩
 | .sl false b i len full,y,v,h,hd => by
  simp only [Vw] at h
  obtain ⟨hlt,⟨b',u,hb,rfl,hu⟩ | ⟨hb,rfl,hcp,rfl⟩⟩:=h
  ·simp only [Den,Map.loc,Bool.false_eq_true,if_false] at hd ⊢
   refine ⟨fun _ => hlt,?_⟩
   rw [view_some hb]
   have h2:=hd.2
   unfold SlDen at h2 ⊢
   split
   ·rename_i hv; rw [if_pos hv] at h2; obtain ⟨h1,ao,h3,h4⟩:=h2; exact ⟨h1,ao,h3,hu _ _ h4⟩
   ·rename_i hv
    rw [if_neg hv] at h2
    obtain ⟨a,cap,h1,h3,h4,h5,h6⟩:=h2
    exact ⟨a,cap,h1,h3,h4,hu _ _ h5,h6⟩
  ·simp only [Den,Map.loc,Bool.false_eq_true,if_false] at hd ⊢
   refine ⟨fun _ => hlt,?_⟩
   rw [view_none hb]
   unfold SlDen
   rw [if_pos rfl]
   exact ⟨rfl,none,hd,hcp⟩
 | .nils,y,v,h,hd => by simp only [Vw] at h; subst h; simpa [Den] using hd
 | .fn g a c,y,v,h,hd => by
  simp only [Vw] at h
  obtain ⟨a',c',rfl,h1,h2⟩:=h
  simp only [Den] at hd ⊢
  obtain ⟨us,vs,e,hu,hc⟩:=hd
  exact ⟨us,vs,e,VwL.den a a' _ h1 hu,VwL.den c c' _ h2 hc⟩
 | .nilf,y,v,h,hd => by simp only [Vw] at h; subst h; simpa [Den] using hd
 | .ifc t x,y,v,h,hd => by
  simp only [Vw] at h
  obtain ⟨x',rfl,h1⟩:=h
  simp only [Den] at hd ⊢
  obtain ⟨u,e,hu⟩:=hd
  exact ⟨u,e,Vw.den x x' _ h1 hu⟩
 | .nili,y,v,h,hd => by simp only [Vw] at h; subst h; simpa [Den] using hd
 | .agg cs,y,v,h,hd => by
  simp only [Vw] at h
  obtain ⟨cs',rfl,h1⟩:=h
  simp only [Den] at hd ⊢
  obtain ⟨u,e,hu⟩:=hd
  exact ⟨u,e,VwL.den cs cs' _ h1 hu⟩
 | .tup cs,y,v,h,hd => by
  simp only [Vw] at h
  obtain ⟨cs',rfl,h1⟩:=h
  simp only [Den] at hd ⊢
  obtain ⟨u,e,hu⟩:=hd
  exact ⟨u,e,VwL.den cs cs' _ h1 hu⟩
theorem VwL.den {m:Map} {f:Nat -> Option Nat} {es:Nat -> Nat} {n N:Nat}:∀ (x y:List AV) (v:List Value),VwL f n x y -> DenL m N y v -> DenL (m.view f es) n x v
 | [],y,v,h,hd => by simp only [VwL] at h; subst h; simpa [DenL] using hd
 | x :: xs,y,v,h,hd => by
  simp only [VwL] at h
  obtain ⟨y,ys,rfl,h1,h2⟩:=h
  simp only [DenL] at hd ⊢
  obtain ⟨u,us,e,hu,hus⟩:=hd
  exact ⟨u,us,e,Vw.den x y _ h1 hu,VwL.den xs ys _ h2 hus⟩
end
mutual
theorem Vw.ren {f:Nat -> Option Nat} {g:Nat -> Nat} {n:Nat}:∀ (x y:AV),Vw f n x y -> Vw (fun c => (f c).map g) n x (ren g y)
 | .any,_,_ => by simp [Vw]
 | .bool b,y,h => by simp only [Vw] at h; subst h; simp [Vw,Dc.ren]
 | .int k x,y,h => by simp only [Vw] at h; subst h; simp [Vw,Dc.ren]
 | .str l,y,h => by simp only [Vw] at h; subst h; simp [Vw,Dc.ren]
 | .ptr true b i o,y,h => by simp only [Vw] at h; subst h; simp [Vw,Dc.ren]
 | .ptr false b i o,y,h => by
  simp only [Vw] at h
  obtain ⟨hlt,b',hb,rfl⟩:=h
  simp [Vw,Dc.ren,hlt,hb]
 | .nilp,y,h => by simp only [Vw] at h; subst h; simp [Vw,Dc.ren]
 | .sl true b i len full,y,h => by
  simp only [Vw] at h
  obtain ⟨u,rfl,hu⟩:=h
  simpa [Vw,Dc.ren] using hu
 | .sl false b i len full,y,h => by
  simp only [Vw] at h
  obtain ⟨hlt,⟨b',u,hb,rfl,hu⟩ | ⟨hb,rfl,hcp,rfl⟩⟩:=h
  ·simp only [Vw,Dc.ren,cond_false]
   exact ⟨hlt,.inl ⟨_,u,by rw [hb]; rfl,rfl,hu⟩⟩
  ·simp only [Vw,Dc.ren]
   exact ⟨hlt,.inr ⟨by rw [hb]; rfl,trivial,hcp,trivial⟩⟩
 | .nils,y,h => by simp only [Vw] at h; subst h; simp [Vw,Dc.ren]
 | .fn t a c,y,h => by
  simp only [Vw] at h
  obtain ⟨a',c',rfl,h1,h2⟩:=h
  simp only [Vw,Dc.ren]
  exact ⟨_,_,rfl,VwL.ren a a' h1,VwL.ren c c' h2⟩
 | .nilf,y,h => by simp only [Vw] at h; subst h; simp [Vw,Dc.ren]
 | .ifc t x,y,h => by
  simp only [Vw] at h
  obtain ⟨x',rfl,h1⟩:=h
  simp only [Vw,Dc.ren]
  exact ⟨_,rfl,Vw.ren x x' h1⟩
 | .nili,y,h => by simp only [Vw] at h; subst h; simp [Vw,Dc.ren]
 | .agg cs,y,h => by
  simp only [Vw] at h
  obtain ⟨cs',rfl,h1⟩:=h
  simp only [Vw,Dc.ren]
  exact ⟨_,rfl,VwL.ren cs cs' h1⟩
 | .tup cs,y,h => by
  simp only [Vw] at h
  obtain ⟨cs',rfl,h1⟩:=h
  simp only [Vw,Dc.ren]
  exact ⟨_,rfl,VwL.ren cs cs' h1⟩
theorem VwL.ren {f:Nat -> Option Nat} {g:Nat -> Nat} {n:Nat}:∀ (x y:List AV),VwL f n x y -> VwL (fun c => (f c).map g) n x (renL g y)
 | [],y,h => by simp only [VwL] at h; subst h; simp [VwL,renL]
 | x :: xs,y,h => by
  simp only [VwL] at h
  obtain ⟨y,ys,rfl,h1,h2⟩:=h
  simp only [VwL,renL]
  exact ⟨_,_,rfl,Vw.ren x y h1,VwL.ren xs ys h2⟩
end
mutual
/-- Numbers changed on the way out. -/
theorem ren_den {m m':Map} {g:Nat -> Nat} {n N:Nat} (hg:∀ c,c < n -> g c < N /\ m'.mu (g c) = m.mu c) (hro:m'.ro = m.ro):∀ (x:AV) (v:Value),Den m n x v -> Den m' N (ren g x) v
 | .any,_,_ => by simp [ren,Den]
 | .bool b,v,h => by simpa [ren,Den] using h
 | .int k x,v,h => by simpa [ren,Den] using h
 | .str l,v,h => by simpa [ren,Den] using h
 | .ptr ro b i o,v,h => by
  cases ro with
  | true => simp only [ren,Den,Map.loc,cond_true,if_true,hro] at h ⊢; exact ⟨by simp,h.2⟩
  | false =>
   simp only [ren,Den,Map.loc,cond_false] at h ⊢
   obtain ⟨h1,h2⟩:=h
   have:=hg b (h1 trivial)
   simp only [Bool.false_eq_true,if_false] at h2 ⊢
   rw [this.2]; exact ⟨fun _ => this.1,h2⟩
 | .nilp,v,h => by simpa [ren,Den] using h
 | .sl ro b i len full,v,h => by
  cases ro with
  | true => simp only [ren,Den,Map.loc,cond_true,if_true,hro] at h ⊢; exact ⟨by simp,h.2⟩
  | false =>
   simp only [ren,Den,Map.loc,cond_false] at h ⊢
   obtain ⟨h1,h2⟩:=h
   have:=hg b (h1 trivial)
   simp only [Bool.false_eq_true,if_false] at h2 ⊢
   rw [this.2]; exact ⟨fun _ => this.1,h2⟩
 | .nils,v,h => by simpa [ren,Den] using h
 | .fn t a c,v,h => by
  simp only [ren,Den] at h ⊢
  obtain ⟨us,vs,e,hu,hc⟩:=h
  exact ⟨us,vs,e,renL_den hg hro a _ hu,renL_den hg hro c _ hc⟩
 | .nilf,v,h => by simpa [ren,Den] using h
 | .ifc t x,v,h => by
  simp only [ren,Den] at h ⊢
  obtain ⟨u,e,hu⟩:=h
  exact ⟨u,e,ren_den hg hro x _ hu⟩
 | .nili,v,h => by simpa [ren,Den] using h
 | .agg cs,v,h => by
  simp only [ren,Den] at h ⊢
  obtain ⟨u,e,hu⟩:=h
  exact ⟨u,e,renL_den hg hro cs _ hu⟩
 | .tup cs,v,h => by
  simp only [ren,Den] at h ⊢
  obtain ⟨u,e,hu⟩:=h
  exact ⟨u,e,renL_den hg hro cs _ hu⟩
theorem renL_den {m m':Map} {g:Nat -> Nat} {n N:Nat} (hg:∀ c,c < n -> g c < N /\ m'.mu (g c) = m.mu c) (hro:m'.ro = m.ro):∀ (x:List AV) (v:List Value),DenL m n x v -> DenL m' N (renL g x) v
 | [],v,h => by simpa [renL,DenL] using h
 | x :: xs,v,h => by
  simp only [renL,DenL] at h ⊢
  obtain ⟨u,us,e,hu,hus⟩:=h
  exact ⟨u,us,e,ren_den hg hro x _ hu,renL_den hg hro xs _ hus⟩
end
theorem renL_eq (f:Nat -> Nat):∀ l,renL f l = l.map (ren f)
 | [] => rfl
 | x :: xs => by simp [renL,renL_eq f xs]
theorem ren_cells (f:Nat -> Nat) (x:AV):(ren f x).cells = x.cells.map (ren f):=by
 cases x <;> simp [ren,AV.cells,renL_eq]
theorem ren_one (f:Nat -> Nat) (x:AV):(ren f x).one = x.one:=by
 cases x <;> simp [ren,AV.one]
theorem VwL.length {f:Nat -> Option Nat} {n:Nat}:∀ {x y:List AV},VwL f n x y -> x.length = y.length
 | [],y,h => by simp only [VwL] at h; subst h; rfl
 | x :: xs,y,h => by
  simp only [VwL] at h
  obtain ⟨y,ys,rfl,_,h2⟩:=h
  simp [VwL.length h2]
theorem VwL.get {f:Nat -> Option Nat} {n:Nat}:∀ {x y:List AV},VwL f n x y -> ∀ {i:Nat} {a:AV},x[i]? = some a -> ∃ b,y[i]? = some b /\ Vw f n a b
 | [],_,_,_,_,h => by simp at h
 | x :: xs,_,h,i,b,hi => by
  simp only [VwL] at h
  obtain ⟨y,ys,rfl,hd,hl⟩:=h
  cases i with
  | zero => simp at hi; subst hi; exact ⟨y,by simp,hd⟩
  | succ i => simp at hi; simpa using VwL.get hl hi
theorem Vw.cells {f:Nat -> Option Nat} {n:Nat} {x y:AV} (h:Vw f n x y) (hx:x ≠ .any):VwL f n x.cells y.cells:=by
 have one:∀ {x y:AV},Vw f n x y -> (x.cells = [x]) -> y.cells = [y] -> VwL f n x.cells y.cells:=by
  intro x y h h1 h2
  rw [h1,h2]
  simp only [VwL]
  exact ⟨_,_,rfl,h,rfl⟩
 cases x with
 | any => exact absurd rfl hx
 | agg cs =>
  simp only [Vw] at h
  obtain ⟨cs',rfl,h1⟩:=h
  exact h1
 | ptr ro b i o =>
  refine one h rfl ?_
  cases ro with
  | true => simp only [Vw] at h; subst h; rfl
  | false => simp only [Vw] at h; obtain ⟨_,_,_,rfl⟩:=h; rfl
 | sl ro b i len u =>
  refine one h rfl ?_
  cases ro with
  | true => simp only [Vw] at h; obtain ⟨_,rfl,_⟩:=h; rfl
  | false => simp only [Vw] at h; obtain ⟨_,⟨_,_,_,rfl,_⟩ | ⟨_,_,_,rfl⟩⟩:=h <;> rfl
 | _ =>
  refine one h rfl ?_
  simp only [Vw] at h
  first
   | (subst h; rfl)
   | (obtain ⟨_,rfl⟩:=h; rfl)
   | (obtain ⟨_,rfl,_⟩:=h; rfl)
   | (obtain ⟨_,_,rfl,_⟩:=h; rfl)
end Go.Dc
end
section
namespace Go.Dc
structure RowV (f:Nat -> Option Nat) (n:Nat) (r r':Row):Prop where
 ty:r.ty = r'.ty
 esz:r.esz = r'.esz
 len:r.len = r'.len
 get:∀ i e,r.get? i = some e -> (∀ a ∈ e.cells,a.one = true) /\ ∃ e',r'.get? i = some e' /\ Vw f n e e'
structure View (f:Nat -> Option Nat) (hL h:Rows):Prop where
 lt:∀ c b,c < hL.length -> f c = some b -> b < h.length
 inj:∀ c c' b,c < hL.length -> c' < hL.length -> f c = some b -> f c' = some b -> c = c'
 row:∀ c r,hL.live c = some r -> (∃ b r',f c = some b /\ h.live b = some r' /\ RowV f hL.length r r') \/ (f c = none /\ r.len = 0)
def Rows.es (h:Rows) (c:Nat):Nat:=match h.live c with | some r => r.esz | none => 0
theorem Den.ground {m m':Map} {n:Nat} (hr:m'.ro = m.ro) {a:AV} {v:Value} (h:Den m 0 a v):Den m' n a v :=
 h.mono (Nat.zero_le _) (fun b hb => absurd hb (Nat.not_lt_zero b)) hr
theorem one_ne_any {a:AV} (h:∀ x ∈ a.cells,x.one = true):a ≠ .any:=by
 rintro rfl
 have:=h .any (by simp [AV.cells])
 simp [AV.one] at this
theorem RowOK.view {m:Map} {f:Nat -> Option Nat} {es:Nat -> Nat} {n N:Nat} {l:Loc} {r r':Row} {w:World} (h:RowOK m N l r' w) (hv:RowV f n r r'):RowOK (m.view f es) n l r w:=by
 obtain ⟨h1,h2,h3⟩:=h
 refine ⟨h1.trans hv.esz.symm,by rw [hv.len]; exact h2,?_⟩
 split
 ·rename_i hvir
  rw [if_pos hvir] at h3
  exact ⟨hv.len.trans h3.1,h3.2⟩
 ·rename_i hvir
  rw [if_neg hvir] at h3
  obtain ⟨c,fz,hc,hsz,hfz,hel⟩:=h3
  refine ⟨c,fz,by rw [hv.ty]; exact hc,hsz,hfz,?_⟩
  intro i e he
  obtain ⟨hone,e',he',hvw⟩:=hv.get i e he
  obtain ⟨hlen,hcell⟩:=hel i e' he'
  have hcs:=hvw.cells (one_ne_any hone)
  refine ⟨hcs.length.trans hlen,?_⟩
  intro o a ha
  obtain ⟨b,hb,hab⟩:=hcs.get ha
  obtain ⟨_,v,hv1,hv2⟩:=hcell o b hb
  exact ⟨hone a (List.mem_of_getElem? ha),v,hv1,hab.den _ _ _ hv2⟩
theorem View.real {m:Map} {f:Nat -> Option Nat} {hL h:Rows} (hV:View f hL h) {c:Nat} {r:Row} (hc:hL.live c = some r) (hv:((m.view f hL.es).mu c).vir = false) :
  ∃ b r',f c = some b /\ h.live b = some r' /\ RowV f hL.length r r' /\ (m.view f hL.es).mu c = m.mu b:=by
 rcases hV.row c r hc with ⟨b,r',h1,h2,h3⟩ | ⟨h1,h2⟩
 ·exact ⟨b,r',h1,h2,h3,view_some h1⟩
 ·rw [view_none h1] at hv; simp at hv
theorem WR.view {R:Nat -> RoRow} {m:Map} {f:Nat -> Option Nat} {hL h:Rows} {w:World} (hW:WR R m h w) (hV:View f hL h):WR R (m.view f hL.es) hL w where
 row:=fun c r hc => by
  rcases hV.row c r hc with ⟨b,r',h1,h2,h3⟩ | ⟨h1,h2⟩
  ·rw [view_some h1]; exact (hW.row _ _ h2).view h3
  ·rw [view_none h1]
   refine ⟨?_,by rw [h2]; exact Nat.zero_le _,?_⟩
   ·show hL.es c = r.esz
    unfold Rows.es
    rw [hc]
   ·rw [if_pos rfl]; exact ⟨h2,rfl⟩
 apart:=fun b b' r r' hb hb' hv hv' he => by
  obtain ⟨d,r1,h1,h2,_,e1⟩:=hV.real hb hv
  obtain ⟨d',r2,h1',h2',_,e2⟩:=hV.real hb' hv'
  rw [e1] at hv he; rw [e2] at hv' he
  have:=hW.apart _ _ _ _ h2 h2' hv hv' he
  subst this
  exact hV.inj b b' _ (live_lt hb) (live_lt hb') h1 h1'
 ro:=fun i => by
  obtain ⟨h1,h2,h3⟩:=hW.ro i
  refine ⟨h1,h2,?_⟩
  have e:(m.view f hL.es).ro = m.ro:=rfl
  rw [e]
  split
  ·rename_i hv; rw [if_pos hv] at h3; exact h3
  ·rename_i hv
   rw [if_neg hv] at h3
   intro hn
   obtain ⟨c,fz,hc,hel⟩:=h3 hn
   refine ⟨c,fz,hc,fun j hj => ?_⟩
   obtain ⟨hlen,hcell⟩:=hel j hj
   refine ⟨hlen,fun o a ha => ?_⟩
   obtain ⟨h4,v,h5,h6⟩:=hcell o a ha
   exact ⟨h4,v,h5,Den.ground (m:=m) (m':=m.view f hL.es) rfl h6⟩
 roApart:=fun i b r hb hv hr hn => by
  obtain ⟨d,r1,h1,h2,_,e1⟩:=hV.real hb hv
  rw [e1] at hv ⊢
  exact hW.roApart i _ _ h2 hv hr hn
structure StV (f:Nat -> Option Nat) (stL st:St):Prop where
 rows:View f stL.rows st.rows
 tmps:VwL f stL.rows.length stL.tmps st.tmps
theorem Rel.view {R:Nat -> RoRow} {m:Map} {f:Nat -> Option Nat} {stL st:St} {a:Act} {w:World} (h:Rel R m st a w) (hV:StV f stL st):Rel R (m.view f stL.rows.es) stL a w where
 size:=h.size.trans hV.tmps.length.symm
 tmps:=fun i x hx => by
  obtain ⟨y,hy,hxy⟩:=hV.tmps.get hx
  obtain ⟨c,hc,hd⟩:=h.tmps i y hy
  exact ⟨c,hc,hxy.den _ _ _ hd⟩
 defers:=h.defers
 wr:=h.wr.view hV.rows
theorem Step.forget {m0 m:Map} {h0 h hE:Rows} {w0 w:World} {f:Nat -> Option Nat} (hs:Step m0 h0 w0 m h w) (hV:View f hE h) (hf:∀ c,c < h0.length -> f c = some c) (hl:h0.length <= hE.length):Step m0 h0 w0 (m.view f hE.es) hE w where
 os:=hs.os
 tape:=hs.tape
 output:=hs.output
 size:=hs.size
 block:=hs.block
 len:=hl
 mu:=fun b hb => by rw [view_some (hf b hb),hs.mu b hb]
 ro:=hs.ro
 new:=fun b r hb hv => by
  obtain ⟨d,r1,h1,h2,_,e1⟩:=hV.real hb hv
  rw [e1] at hv ⊢
  exact hs.new _ _ h2 hv
def renRow (f:Nat -> Nat):Row -> Row
 | .lst t s l => .lst t s (l.map (ren f))
 | .gen t s n a => .gen t s n fun i => ren f (a i)
 | .byt t l => .byt t l
theorem renRow_ty (f:Nat -> Nat) (r:Row):(renRow f r).ty = r.ty:=by cases r <;> rfl
theorem renRow_esz (f:Nat -> Nat) (r:Row):(renRow f r).esz = r.esz:=by cases r <;> rfl
theorem renRow_len (f:Nat -> Nat) (r:Row):(renRow f r).len = r.len:=by cases r <;> simp [renRow,Row.len]
theorem renRow_get (f:Nat -> Nat) (r:Row) (i:Nat):(renRow f r).get? i = (r.get? i).map (ren f):=by
 cases r with
 | lst t s l => simp [renRow,Row.get?]
 | gen t s n a => simp only [renRow,Row.get?]; cases Nat.blt i n <;> rfl
 | byt t l => simp only [renRow,Row.get?,Option.map_map]; rfl
theorem blt_t {a b:Nat} (h:a < b):Nat.blt a b = true:=by rw [Nat.blt_eq]; exact h
theorem blt_of {a b:Nat} (h:Nat.blt a b = true):a < b:=by rwa [Nat.blt_eq] at h
def ext (f:Nat -> Option Nat) (nL N:Nat):Nat -> Nat:=fun c => bif Nat.blt c nL then (match f c with | some b => b | none => N + c) else N + c
theorem ext_some {f:Nat -> Option Nat} {nL N c b:Nat} (h:c < nL) (hf:f c = some b):ext f nL N c = b:=by
 simp [ext,blt_t h,hf]
theorem ext_none {f:Nat -> Option Nat} {nL N c:Nat} (hf:f c = none):ext f nL N c = N + c:=by
 unfold ext
 cases Nat.blt c nL <;> simp [hf]
theorem ext_ge {f:Nat -> Option Nat} {nL N c:Nat} (h:nL <= c):ext f nL N c = N + c:=by
 have:Nat.blt c nL = false:=by
  rw [Bool.eq_false_iff]; intro e; have:=blt_of e; omega
 simp [ext,this]
def findC (g:Nat -> Nat) (b:Nat):Nat -> Option Nat
 | 0 => none
 | n + 1 => bif Nat.beq (g n) b then some n else findC g b n
theorem findC_some {g:Nat -> Nat} {b:Nat}:∀ {n c:Nat},findC g b n = some c -> c < n /\ g c = b
 | 0,_,h => by simp [findC] at h
 | n + 1,c,h => by
  simp only [findC] at h
  cases hb:Nat.beq (g n) b with
  | true => rw [hb] at h; simp at h; subst h; exact ⟨Nat.lt_succ_self _,Nat.eq_of_beq_eq_true hb⟩
  | false => rw [hb] at h; have:=findC_some h; exact ⟨Nat.lt_succ_of_lt this.1,this.2⟩
theorem findC_none {g:Nat -> Nat} {b:Nat}:∀ {n:Nat},findC g b n = none -> ∀ c,c < n -> g c ≠ b
 | 0,_,_,h => absurd h (Nat.not_lt_zero _)
 | n + 1,h,c,hc => by
  simp only [findC] at h
  cases hb:Nat.beq (g n) b with
  | true => rw [hb] at h; simp at h
  | false =>
   rw [hb] at h
   rcases Nat.lt_succ_iff_lt_or_eq.1 hc with h1 | rfl
   ·exact findC_none h c h1
   ·intro e; rw [e] at hb; simp at hb
theorem findC_inj {g:Nat -> Nat} {c n:Nat} (hc:c < n) (hi:∀ c',c' < n -> g c' = g c -> c' = c):findC g (g c) n = some c:=by
 cases h:findC g (g c) n with
 | none => exact absurd rfl (findC_none h c hc)
 | some d => have:=findC_some h; rw [hi d this.1 this.2]
def seen (f:Nat -> Option Nat) (b:Nat):Nat -> Bool
 | 0 => false
 | n + 1 => match f n with
  | some b' => bif Nat.beq b' b then true else seen f b n
  | none => seen f b n
theorem seen_of {f:Nat -> Option Nat} {b c:Nat}:∀ {n:Nat},c < n -> f c = some b -> seen f b n = true
 | 0,h,_ => absurd h (Nat.not_lt_zero _)
 | n + 1,h,hf => by
  unfold seen
  rcases Nat.lt_succ_iff_lt_or_eq.1 h with h1 | rfl
  ·have ih:=seen_of h1 hf
   split
   ·rename_i b' hb'
    cases Nat.beq b' b <;> simp [ih]
   ·exact ih
  ·rw [hf]; simp
def merged (f:Nat -> Option Nat) (nk nL:Nat) (h h':Rows):Rows :=
 (List.range (h.length + h'.length)).map fun b => match findC (ext f nk h.length) b h'.length with
  | some c => (h'.live c).map (renRow (ext f nk h.length))
  | none => bif seen f b nL then none else h.live b
theorem merged_length (f:Nat -> Option Nat) (nk nL:Nat) (h h':Rows):(merged f nk nL h h').length = h.length + h'.length:=by
 simp [merged]
theorem merged_live {f:Nat -> Option Nat} {nk nL:Nat} {h h':Rows} {b:Nat} {r:Row} (hb:(merged f nk nL h h').live b = some r) :
  b < h.length + h'.length /\ ((∃ c r',c < h'.length /\ ext f nk h.length c = b /\ h'.live c = some r' /\ r = renRow (ext f nk h.length) r') \/ (h.live b = some r /\ seen f b nL = false)):=by
 have hlt:=live_lt hb
 rw [merged_length] at hlt
 refine ⟨hlt,?_⟩
 unfold merged Rows.live at hb
 rw [List.getElem?_map,List.getElem?_range hlt] at hb
 simp only [Option.map_some,Option.join_some] at hb
 cases hf:findC (ext f nk h.length) b h'.length with
 | none =>
  rw [hf] at hb
  simp only [] at hb
  cases hs:seen f b nL with
  | true => rw [hs] at hb; simp at hb
  | false => rw [hs] at hb; exact .inr ⟨hb,rfl⟩
 | some c =>
  rw [hf] at hb
  obtain ⟨h1,h2⟩:=findC_some hf
  simp only [] at hb
  obtain ⟨r',h3,h4⟩:=Option.map_eq_some_iff.1 hb
  exact .inl ⟨c,r',h1,h2,h3,h4.symm⟩
structure StepK (nk:Nat) (m:Map) (h:Rows) (w:World) (m':Map) (h':Rows) (w':World):Prop where
 os:w'.os = w.os
 tape:w'.tape = w.tape
 output:w'.output = w.output
 size:w.heap.size <= w'.heap.size
 block:∀ k,k < w.heap.size -> (∀ b r,h.live b = some r -> (m.mu b).vir = false -> (m.mu b).blk ≠ k) -> w'.heap[k]? = w.heap[k]?
 kept:nk <= h.length
 len:nk <= h'.length
 mu:∀ b,b < nk -> m'.mu b = m.mu b
 ro:m'.ro = m.ro
 new:∀ b r,h'.live b = some r -> (m'.mu b).vir = false -> w.heap.size <= (m'.mu b).blk \/ ∃ c r',h.live c = some r' /\ (m.mu c).vir = false /\ (m.mu c).blk = (m'.mu b).blk
theorem Step.toK {m m':Map} {h h':Rows} {w w':World} (s:Step m h w m' h' w'):StepK h.length m h w m' h' w' :=
 ⟨s.os,s.tape,s.output,s.size,s.block,Nat.le_refl _,s.len,s.mu,s.ro,s.new⟩
theorem View.ext_lt {f:Nat -> Option Nat} {hL h:Rows} (hV:View f hL h) {nk:Nat} (hk:nk <= hL.length) {n:Nat} {c:Nat} (hc:c < n):ext f nk h.length c < h.length + n:=by
 rcases Nat.lt_or_ge c nk with h1 | h1
 ·cases hf:f c with
  | some b => rw [ext_some h1 hf]; have:=hV.lt c b (Nat.lt_of_lt_of_le h1 hk) hf; omega
  | none => rw [ext_none hf]; omega
 ·rw [ext_ge h1]; omega
theorem View.ext_cs {f:Nat -> Option Nat} {hL h:Rows} (hV:View f hL h) {nk:Nat} (hk:nk <= hL.length) (c:Nat) :
  (∃ b,c < nk /\ f c = some b /\ ext f nk h.length c = b /\ b < h.length) \/ ext f nk h.length c = h.length + c:=by
 rcases Nat.lt_or_ge c nk with h1 | h1
 ·cases hf:f c with
  | some b => exact .inl ⟨b,h1,rfl,ext_some h1 hf,hV.lt c b (Nat.lt_of_lt_of_le h1 hk) hf⟩
  | none => exact .inr (ext_none hf)
 ·exact .inr (ext_ge h1)
theorem View.ext_inj {f:Nat -> Option Nat} {hL h:Rows} (hV:View f hL h) {nk:Nat} (hk:nk <= hL.length) {c c':Nat} (he:ext f nk h.length c' = ext f nk h.length c):c' = c:=by
 rcases hV.ext_cs hk c with ⟨b,h1,h2,h3,h4⟩ | h3 <;> rcases hV.ext_cs hk c' with ⟨b',h1',h2',h3',h4'⟩ | h3'
 ·have:b' = b:=by omega
  subst this
  exact hV.inj c' c _ (Nat.lt_of_lt_of_le h1' hk) (Nat.lt_of_lt_of_le h1 hk) h2' h2
 ·omega
 ·omega
 ·omega
theorem merged_in {f:Nat -> Option Nat} {nk:Nat} {hL h h':Rows} (hV:View f hL h) (hk:nk <= hL.length) {c:Nat} {r:Row} (hc:h'.live c = some r):(merged f nk hL.length h h').live (ext f nk h.length c) = some (renRow (ext f nk h.length) r):=by
 have hlt:=live_lt hc
 unfold merged Rows.live
 rw [List.getElem?_map,List.getElem?_range (hV.ext_lt hk hlt)]
 simp only [Option.map_some,Option.join_some]
 rw [findC_inj hlt (fun c' _ he => hV.ext_inj hk he)]
 have hc':h'[c]?.join = some r:=hc
 simp only []
 rw [hc']; rfl
theorem merge_ok {R:Nat -> RoRow} {m m':Map} {f:Nat -> Option Nat} {nk:Nat} {hL h h':Rows} {w w':World} (hV:View f hL h) (hW:WR R m h w) (hW':WR R m' h' w') (hs:StepK nk (m.view f hL.es) hL w m' h' w') :
  ∃ m'',(∀ c,c < h'.length -> ext f nk h.length c < (merged f nk hL.length h h').length /\ m''.mu (ext f nk h.length c) = m'.mu c) /\ m''.ro = m'.ro /\
   WR R m'' (merged f nk hL.length h h') w' /\ Step m h w m'' (merged f nk hL.length h h') w':=by
 have hlen:=hs.len
 have hk:=hs.kept
 let g:=ext f nk h.length
 have hg:∀ c,c < h'.length -> g c < (merged f nk hL.length h h').length:=by
  intro c hc
  rw [merged_length]
  exact hV.ext_lt hk hc
 let m'':Map:=⟨fun b => bif Nat.blt b h.length then m.mu b else m'.mu (b - h.length),m'.ro⟩
 have hold:∀ b,b < h.length -> m''.mu b = m.mu b:=by
  intro b hb
  show (bif Nat.blt b h.length then m.mu b else m'.mu (b - h.length)) = m.mu b
  simp [blt_t hb]
 have hnew:∀ c,m''.mu (h.length + c) = m'.mu c:=by
  intro c
  have:Nat.blt (h.length + c) h.length = false:=by
   rw [Bool.eq_false_iff]; intro e; have:=blt_of e; omega
  show (bif Nat.blt (h.length + c) h.length then m.mu (h.length + c) else m'.mu (h.length + c - h.length)) = m'.mu c
  rw [this]
  simp only [cond_false]
  congr 1
  omega
 have hmu:∀ c,c < h'.length -> m''.mu (g c) = m'.mu c:=by
  intro c hc
  rcases Nat.lt_or_ge c nk with h1 | h1
  ·cases hf:f c with
   | some b =>
    have e:g c = b:=ext_some h1 hf
    rw [e,hold _ (hV.lt c b (Nat.lt_of_lt_of_le h1 hk) hf),hs.mu c h1,view_some hf]
   | none =>
    have e:g c = h.length + c:=ext_none hf
    rw [e,hnew]
  ·have e:g c = h.length + c:=ext_ge h1
   rw [e,hnew]
 have hcs:∀ c,c < h'.length -> g c < (merged f nk hL.length h h').length /\ m''.mu (g c) = m'.mu c:=fun c hc => ⟨hg c hc,hmu c hc⟩
 have hro:m''.ro = m'.ro:=rfl
 have hro0:m'.ro = m.ro:=hs.ro
 have old:∀ b r,h.live b = some r -> seen f b hL.length = false -> (∀ c r1,hL.live c = some r1 -> f c ≠ some b):=by
  intro b r hb hn c r1 hc e
  rw [seen_of (live_lt hc) e] at hn
  exact absurd hn (by simp)
 have oldBlk:∀ b r,h.live b = some r -> (∀ c r1,hL.live c = some r1 -> f c ≠ some b) -> (m.mu b).vir = false -> w'.heap[(m.mu b).blk]? = w.heap[(m.mu b).blk]?:=by
  intro b r hb hn hv
  refine hs.block _ (hW.blk_lt hb hv) ?_
  intro c r1 hc hcv he
  obtain ⟨d,r2,h1,h2,_,e1⟩:=hV.real hc hcv
  rw [e1] at hcv he
  have:=hW.apart _ _ _ _ h2 hb hcv hv he
  subst this
  exact hn c r1 hc h1
 have inner:∀ c r',h'.live c = some r' -> (m'.mu c).vir = false -> ∀ b r,h.live b = some r -> (∀ c r1,hL.live c = some r1 -> f c ≠ some b) -> (m.mu b).vir = false -> (m'.mu c).blk ≠ (m.mu b).blk:=by
  intro c r' hc hcv b r hb hn hv he
  rcases hs.new c r' hc hcv with h1 | ⟨d,r1,hd,hdv,hde⟩
  ·have:=hW.blk_lt hb hv; omega
  ·obtain ⟨d',r2,h1,h2,_,e1⟩:=hV.real hd hdv
   rw [e1] at hdv hde
   have:=hW.apart _ _ _ _ h2 hb hdv hv (hde.trans he)
   subst this
   exact hn d r1 hd h1
 refine ⟨m'',hcs,hro,?_,?_⟩
 ·constructor
  ·intro b r hb
   obtain ⟨hblt,⟨c,r',hc,hcb,hlc,rfl⟩ | ⟨hlb,hn⟩⟩:=merged_live hb
   ·subst hcb
    obtain ⟨h1,h2,h3⟩:=hW'.row c r' hlc
    have e1:m''.mu (ext f nk h.length c) = m'.mu c:=hmu c hc
    unfold RowOK
    rw [e1,renRow_esz,renRow_len,renRow_ty]
    refine ⟨h1,h2,?_⟩
    split
    ·rename_i hv; rw [if_pos hv] at h3; exact h3
    ·rename_i hv
     rw [if_neg hv] at h3
     obtain ⟨cc,fz,hcc,hsz,hfz,hel⟩:=h3
     refine ⟨cc,fz,hcc,hsz,hfz,?_⟩
     intro i e he
     rw [renRow_get] at he
     obtain ⟨e',he',rfl⟩:=Option.map_eq_some_iff.1 he
     obtain ⟨hl,hcell⟩:=hel i e' he'
     rw [ren_cells]
     refine ⟨by simpa using hl,?_⟩
     intro o a ha
     rw [List.getElem?_map] at ha
     obtain ⟨a',ha',rfl⟩:=Option.map_eq_some_iff.1 ha
     obtain ⟨ho,v,hv1,hv2⟩:=hcell o a' ha'
     exact ⟨by rw [ren_one]; exact ho,v,hv1,ren_den hcs hro a' v hv2⟩
   ·have hn2:=old b r hlb hn
    have hblt2:=live_lt hlb
    obtain ⟨h1,h2,h3⟩:=hW.row b r hlb
    unfold RowOK
    rw [hold b hblt2]
    refine ⟨h1,h2,?_⟩
    split
    ·rename_i hv; rw [if_pos hv] at h3; exact h3
    ·rename_i hv
     rw [if_neg hv] at h3
     obtain ⟨cc,fz,hcc,hsz,hfz,hel⟩:=h3
     refine ⟨cc,fz,by rw [oldBlk b r hlb hn2 (by simpa using hv)]; exact hcc,hsz,hfz,?_⟩
     intro i e he
     obtain ⟨hl,hcell⟩:=hel i e he
     refine ⟨hl,fun o a ha => ?_⟩
     obtain ⟨ho,v,hv1,hv2⟩:=hcell o a ha
     exact ⟨ho,v,hv1,hv2.mono (by rw [merged_length]; omega) hold (hro.trans hro0)⟩
  ·intro b b' r r' hb hb' hv hv' he
   obtain ⟨hblt,⟨c,r1,hc,hcb,hlc,rfl⟩ | ⟨hlb,hn⟩⟩:=merged_live hb <;>
    obtain ⟨hblt',⟨c',r1',hc',hcb',hlc',rfl⟩ | ⟨hlb',hn'⟩⟩:=merged_live hb'
   ·subst hcb; subst hcb'
    have e1:m''.mu (ext f nk h.length c) = m'.mu c:=hmu c hc
    have e2:m''.mu (ext f nk h.length c') = m'.mu c':=hmu c' hc'
    rw [e1] at hv he; rw [e2] at hv' he
    rw [hW'.apart c c' _ _ hlc hlc' hv hv' he]
   ·subst hcb
    have e1:m''.mu (ext f nk h.length c) = m'.mu c:=hmu c hc
    rw [e1] at hv he; rw [hold b' (live_lt hlb')] at hv' he
    exact absurd he (inner c _ hlc hv b' _ hlb' (old b' _ hlb' hn') hv')
   ·subst hcb'
    have e1:m''.mu (ext f nk h.length c') = m'.mu c':=hmu c' hc'
    rw [e1] at hv' he; rw [hold b (live_lt hlb)] at hv he
    exact absurd he.symm (inner c' _ hlc' hv' b _ hlb (old b _ hlb hn) hv)
   ·rw [hold b (live_lt hlb)] at hv he; rw [hold b' (live_lt hlb')] at hv' he
    exact hW.apart _ _ _ _ hlb hlb' hv hv' he
  ·intro i
   obtain ⟨h1,h2,h3⟩:=hW'.ro i
   refine ⟨h1,h2,?_⟩
   rw [hro]
   split
   ·rename_i hv; rw [if_pos hv] at h3; exact h3
   ·rename_i hv
    rw [if_neg hv] at h3
    intro hn
    obtain ⟨c,fz,hc,hel⟩:=h3 hn
    refine ⟨c,fz,hc,fun j hj => ?_⟩
    obtain ⟨hl,hcell⟩:=hel j hj
    refine ⟨hl,fun o a ha => ?_⟩
    obtain ⟨h4,v,h5,h6⟩:=hcell o a ha
    exact ⟨h4,v,h5,Den.ground (m:=m') (m':=m'') hro h6⟩
  ·intro i b r hb hv hr hn
   obtain ⟨hblt,⟨c,r1,hc,hcb,hlc,rfl⟩ | ⟨hlb,hnn⟩⟩:=merged_live hb
   ·subst hcb
    have e1:m''.mu (ext f nk h.length c) = m'.mu c:=hmu c hc
    rw [e1] at hv ⊢
    exact hW'.roApart i c _ hlc hv hr hn
   ·rw [hold b (live_lt hlb)] at hv ⊢
    rw [hro,hro0] at hr ⊢
    exact hW.roApart i b _ hlb hv hr hn
 ·constructor
  ·exact hs.os
  ·exact hs.tape
  ·exact hs.output
  ·exact hs.size
  ·intro k hk hn
   refine hs.block k hk ?_
   intro c r hc hv
   obtain ⟨d,r2,h1,h2,_,e1⟩:=hV.real hc hv
   rw [e1] at hv ⊢
   exact hn _ _ h2 hv
  ·rw [merged_length]; omega
  ·exact hold
  ·exact hro.trans hro0
  ·intro b r hb hv
   obtain ⟨hblt,⟨c,r1,hc,hcb,hlc,rfl⟩ | ⟨hlb,hnn⟩⟩:=merged_live hb
   ·subst hcb
    have e1:m''.mu (ext f nk h.length c) = m'.mu c:=hmu c hc
    rw [e1] at hv ⊢
    rcases hs.new c _ hlc hv with h1 | ⟨d,r3,hd,hdv,hde⟩
    ·exact .inl h1
    ·obtain ⟨d',r2,h1,h2,_,e2⟩:=hV.real hd hdv
     rw [e2] at hdv hde
     exact .inr ⟨_,_,h2,hdv,hde⟩
   ·rw [hold b (live_lt hlb)] at hv ⊢
    exact .inr ⟨b,r,hlb,hv,rfl⟩
end Go.Dc
end
section
namespace Go.Dc
def St.out (f:Nat -> Option Nat) (nk nL:Nat) (h:Rows) (st':St):St:=⟨renL (ext f nk h.length) st'.tmps,merged f nk nL h st'.rows⟩
theorem renL_get (g:Nat -> Nat) (l:List AV) (i:Nat):(renL g l)[i]? = (l[i]?).map (ren g):=by
 rw [renL_eq]; simp
theorem Rel.outK {R:Nat -> RoRow} {f:Nat -> Option Nat} {nk:Nat} {stL st st':St} {m m':Map} {a':Act} {w w':World} (hV:View f stL.rows st.rows) (hW:WR R m st.rows w) (hr':Rel R m' st' a' w')
  (hs:StepK nk (m.view f stL.rows.es) stL.rows w m' st'.rows w'):∃ m'',Rel R m'' (st'.out f nk stL.rows.length st.rows) a' w' /\ Step m st.rows w m'' (st'.out f nk stL.rows.length st.rows).rows w':=by
 obtain ⟨m'',hg,hro,hW,hS⟩:=merge_ok hV hW hr'.wr hs
 refine ⟨m'',⟨?_,?_,hr'.defers,hW⟩,hS⟩
 ·simp only [St.out,renL_eq,List.length_map]; exact hr'.size
 ·intro i x hx
  simp only [St.out,renL_get] at hx
  obtain ⟨y,hy,rfl⟩:=Option.map_eq_some_iff.1 hx
  obtain ⟨v,hv,hd⟩:=hr'.tmps i y hy
  exact ⟨v,hv,ren_den hg hro y v hd⟩
theorem Safe.focus {P:Program} {R:Nat -> RoRow} {c:Code} {f:Nat -> Option Nat} {stL st:St} {Q:Exit -> St -> Prop} (hV:StV f stL st) (hs:Safe P R c stL Q) :
  Safe P R c st fun e st'' => ∃ st',Q e st' /\ st'' = st'.out f stL.rows.length stL.rows.length st.rows:=by
 intro m a w m0 h0 w0 hr hstep
 refine wp_mono (hs _ a w _ _ w (hr.view hV) (Step.refl _ _ _)) ?_
 rintro e a' w' ⟨m',st',hok,hq,hr',hs'⟩
 obtain ⟨m'',hR,hS⟩:=Rel.outK hV.rows hr.wr hr' hs'.toK
 exact ⟨m'',_,hok,⟨st',hq,rfl⟩,hR,hstep.trans hS⟩
theorem SafeCall.focus {P:Program} {R:Nat -> RoRow} {fn:FuncId} {f:Nat -> Option Nat} {argsL args:List AV} {hL h:Rows} {Q:AV -> Rows -> Prop} (hV:View f hL h) (hA:VwL f hL.length argsL args) (hs:SafeCall P R fn argsL hL Q) :
  SafeCall P R fn args h fun v'' h'' => ∃ v' h',Q v' h' /\ v'' = ren (ext f hL.length h.length) v' /\ h'' = merged f hL.length hL.length h h':=by
 intro m w m0 h0 w0 as has hW hstep
 refine (hs _ w _ _ w as (hA.den _ _ _ has) (hW.view hV) (Step.refl _ _ _)).mono ?_
 rintro e w' ⟨c,v,m',h',rfl,hq,hd,hW',hs'⟩
 obtain ⟨m'',hg,hro,hW2,hS⟩:=merge_ok hV hW hW' hs'.toK
 exact ⟨c,_,m'',_,rfl,⟨v,h',hq,rfl,rfl⟩,ren_den hg hro v c hd,hW2,hstep.trans hS⟩
def Fit (n:Nat) (stE st:St):Prop:=∃ f,StV f stE st /\ (∀ c,c < n -> f c = some c) /\ n <= stE.rows.length
theorem Safe.fit {P:Program} {R:Nat -> RoRow} {c:Code} {st:St} {Q Q':Exit -> St -> Prop} (hs:Safe P R c st Q) (hq:∀ e st',Q e st' -> ∃ stE,Fit st.rows.length stE st' /\ Q' e stE):Safe P R c st Q':=by
 intro m a w m0 h0 w0 hr hstep
 refine wp_mono (hs m a w m0 h0 w0 hr hstep) ?_
 rintro e a' w' ⟨m',st',hok,hq1,hr',hs'⟩
 obtain ⟨stE,⟨f,hV,hf,hl⟩,hq2⟩:=hq e st' hq1
 exact ⟨_,stE,hok,hq2,hr'.view hV,hs'.forget hV.rows (fun c hc => hf c (Nat.lt_of_lt_of_le hc hstep.len)) (Nat.le_trans hstep.len hl)⟩
def FitV (n:Nat) (vE:AV) (hE:Rows) (v:AV) (h:Rows):Prop:=∃ f,View f hE h /\ Vw f hE.length vE v /\ (∀ c,c < n -> f c = some c) /\ n <= hE.length
theorem SafeCall.fit {P:Program} {R:Nat -> RoRow} {fn:FuncId} {args:List AV} {h:Rows} {Q Q':AV -> Rows -> Prop} (hs:SafeCall P R fn args h Q) (hq:∀ v h',Q v h' -> ∃ vE hE,FitV h.length vE hE v h' /\ Q' vE hE):SafeCall P R fn args h Q':=by
 intro m w m0 h0 w0 as has hW hstep
 refine (hs m w m0 h0 w0 as has hW hstep).mono ?_
 rintro e w' ⟨c,v,m',h',rfl,hq1,hd,hW',hs'⟩
 obtain ⟨vE,hE,⟨f,hV,hv,hf,hl⟩,hq2⟩:=hq v h' hq1
 exact ⟨c,vE,_,hE,rfl,hq2,hv.den _ _ _ hd,hW'.view hV,hs'.forget hV (fun c hc => hf c (Nat.lt_of_lt_of_le hc hstep.len)) (Nat.le_trans hstep.len hl)⟩
theorem SafeCall.mono {P:Program} {R:Nat -> RoRow} {fn:FuncId} {args:List AV} {h:Rows} {Q Q':AV -> Rows -> Prop} (hs:SafeCall P R fn args h Q) (hq:∀ v h',Q v h' -> Q' v h'):SafeCall P R fn args h Q':=by
 intro m w m0 h0 w0 as has hW hstep
 refine (hs m w m0 h0 w0 as has hW hstep).mono ?_
 rintro e w' ⟨c,v,m',h',rfl,hq1,hd,hW',hs'⟩
 exact ⟨c,v,m',h',rfl,hq _ _ hq1,hd,hW',hs'⟩
theorem StV.out {f:Nat -> Option Nat} {stL st stE st':St} (hV:View f stL.rows st.rows) {g:Nat -> Option Nat} (hE:StV g stE st'):StV (fun c => (g c).map (ext f stL.rows.length st.rows.length)) stE (st'.out f stL.rows.length stL.rows.length st.rows):=by
 refine ⟨⟨?_,?_,?_⟩,?_⟩
 ·intro c b hc hb
  obtain ⟨d,hd,rfl⟩:=Option.map_eq_some_iff.1 hb
  show _ < (merged _ _ _ _ _).length
  rw [merged_length]
  exact hV.ext_lt (Nat.le_refl _) (hE.rows.lt c d hc hd)
 ·intro c c' b hc hc' hb hb'
  obtain ⟨d,hd,rfl⟩:=Option.map_eq_some_iff.1 hb
  obtain ⟨d',hd',he⟩:=Option.map_eq_some_iff.1 hb'
  have:=hV.ext_inj (Nat.le_refl _) he
  subst this
  exact hE.rows.inj c c' _ hc hc' hd hd'
 ·intro c r hc
  rcases hE.rows.row c r hc with ⟨b,r',h1,h2,h3⟩ | ⟨h1,h2⟩
  ·refine .inl ⟨_,_,by rw [h1]; rfl,merged_in hV (Nat.le_refl _) h2,?_⟩
   refine ⟨by rw [renRow_ty]; exact h3.ty,by rw [renRow_esz]; exact h3.esz,by rw [renRow_len]; exact h3.len,?_⟩
   intro i e he
   obtain ⟨hone,e',he',hvw⟩:=h3.get i e he
   exact ⟨hone,_,by rw [renRow_get,he']; rfl,Vw.ren _ _ hvw⟩
  ·exact .inr ⟨by rw [h1]; rfl,h2⟩
 ·exact VwL.ren _ _ hE.tmps
mutual
theorem Den.vw {m:Map} {n:Nat}:∀ (x:AV) (v:Value),Den m n x v -> Vw some n x x
 | .any,_,_ => by simp [Vw]
 | .bool b,_,_ => by simp [Vw]
 | .int k x,_,_ => by simp [Vw]
 | .str l,_,_ => by simp [Vw]
 | .ptr true b i o,_,_ => by simp [Vw]
 | .ptr false b i o,v,h => by
  simp only [Den] at h
  simp only [Vw]
  exact ⟨h.1 trivial,b,rfl,rfl⟩
 | .nilp,_,_ => by simp [Vw]
 | .sl true b i l u,_,_ => by simp only [Vw]; exact ⟨u,rfl,Cp.le_refl u⟩
 | .sl false b i l u,v,h => by
  simp only [Den] at h
  simp only [Vw]
  exact ⟨h.1 trivial,.inl ⟨b,u,rfl,rfl,Cp.le_refl u⟩⟩
 | .nils,_,_ => by simp [Vw]
 | .fn g a c,v,h => by
  simp only [Den] at h
  obtain ⟨us,vs,_,h1,h2⟩:=h
  simp only [Vw]
  exact ⟨a,c,rfl,DenL.vw a _ h1,DenL.vw c _ h2⟩
 | .nilf,_,_ => by simp [Vw]
 | .ifc t x,v,h => by
  simp only [Den] at h
  obtain ⟨u,_,h1⟩:=h
  simp only [Vw]
  exact ⟨x,rfl,Den.vw x _ h1⟩
 | .nili,_,_ => by simp [Vw]
 | .agg cs,v,h => by
  simp only [Den] at h
  obtain ⟨u,_,h1⟩:=h
  simp only [Vw]
  exact ⟨cs,rfl,DenL.vw cs _ h1⟩
 | .tup cs,v,h => by
  simp only [Den] at h
  obtain ⟨u,_,h1⟩:=h
  simp only [Vw]
  exact ⟨cs,rfl,DenL.vw cs _ h1⟩
theorem DenL.vw {m:Map} {n:Nat}:∀ (x:List AV) (v:List Value),DenL m n x v -> VwL some n x x
 | [],_,_ => by simp [VwL]
 | x :: xs,v,h => by
  simp only [DenL] at h
  obtain ⟨u,us,_,h1,h2⟩:=h
  simp only [VwL]
  exact ⟨x,xs,rfl,Den.vw x _ h1,DenL.vw xs _ h2⟩
end
theorem VwL.of {f:Nat -> Option Nat} {n:Nat}:∀ {x:List AV},(∀ (i:Nat) (a:AV),x[i]? = some a -> Vw f n a a) -> VwL f n x x
 | [],_ => by simp [VwL]
 | x :: xs,h => by
  simp only [VwL]
  exact ⟨x,xs,rfl,h 0 x (by simp),VwL.of fun i a hi => h (i + 1) a (by simpa using hi)⟩
theorem WR.idView {R:Nat -> RoRow} {m:Map} {h:Rows} {w:World} (hW:WR R m h w):View some h h where
 lt:=fun c b hc hb => by simp at hb; omega
 inj:=fun c c' b _ _ h1 h2 => by simp at h1 h2; omega
 row:=fun c r hc => by
  refine .inl ⟨c,r,rfl,hc,rfl,rfl,rfl,?_⟩
  obtain ⟨h1,h2,h3⟩:=hW.row c r hc
  intro i e he
  split at h3
  ·exfalso
   have h0:=h3.1
   cases r with
   | lst t s l => simp [Row.len] at h0; subst h0; simp [Row.get?] at he
   | gen t s n a =>
    simp [Row.len] at h0; subst h0
    simp only [Row.get?] at he
    have:Nat.blt i 0 = false:=by rw [Bool.eq_false_iff]; intro e; exact absurd (blt_of e) (Nat.not_lt_zero _)
    rw [this] at he; simp at he
   | byt t l => simp [Row.len] at h0; subst h0; simp [Row.get?] at he
  ·obtain ⟨cc,fz,_,_,_,hel⟩:=h3
   obtain ⟨_,hcell⟩:=hel i e he
   have hone:∀ a ∈ e.cells,a.one = true:=by
    intro a ha
    obtain ⟨o,ho⟩:=List.getElem?_of_mem ha
    exact (hcell o a ho).1
   refine ⟨hone,e,he,?_⟩
   have hv:∀ (o:Nat) (a:AV),e.cells[o]? = some a -> Vw some h.length a a:=by
    intro o a ha
    obtain ⟨_,v,_,hd⟩:=hcell o a ha
    exact Den.vw a v hd
   cases e with
   | agg cs => simp only [Vw]; exact ⟨cs,rfl,VwL.of hv⟩
   | _ => exact hv 0 _ rfl
theorem Rel.idView {R:Nat -> RoRow} {m:Map} {st:St} {a:Act} {w:World} (h:Rel R m st a w):StV some st st:=by
 refine ⟨h.wr.idView,VwL.of ?_⟩
 intro i x hx
 obtain ⟨c,_,hd⟩:=h.tmps i x hx
 exact Den.vw x c hd
theorem loop_rule {P:Program} {R:Nat -> RoRow} {body:Code} {I:Type} (fam:I -> St) (mu:I -> Nat) (nk:Nat) (X:Exit -> St -> Prop)
  (hnk:∀ i,nk <= (fam i).rows.length)
  (hround:∀ i,Safe P R body (fam i) fun e st' => match e with
   | .normal => ∃ i',mu i' < mu i /\ Fit nk (fam i') st'
   | e => ∃ stE,Fit nk stE st' /\ X e stE) :
  ∀ i,Safe P R (.loop body) (fam i) fun e st' => ∃ stE,Fit nk stE st' /\ X e stE:=by
 intro i0 m0' a0 w0' m0 h0 w0 hr0 hs0
 have key:∀ n i,mu i < n -> ∀ f st m a w,StV f (fam i) st -> (∀ c,c < nk -> f c = some c) -> Rel R m st a w -> Step m0 h0 w0 m st.rows w ->
   Code.rounds P body (Post R (fun e st' => ∃ stE,Fit nk stE st' /\ X e stE) m0 h0 w0) n a w:=by
  intro n
  induction n with
  | zero => intro i hi; omega
  | succ n ih =>
   intro i hi f st m a w hV hf hr hs
   rw [rounds_succ]
   refine wp_mono ((hround i).focus hV m a w m0 h0 w0 hr hs) ?_
   rintro e a' w' ⟨m',st',hok,⟨st2,hq,rfl⟩,hr',hs'⟩
   have hfix:∀ {stE},Fit nk stE st2 -> ∃ g,StV g stE (st2.out f (fam i).rows.length (fam i).rows.length st.rows) /\ (∀ c,c < nk -> g c = some c) /\ nk <= stE.rows.length:=by
    rintro stE ⟨g,hg,hgf,hgl⟩
    refine ⟨_,hg.out hV.rows,?_,hgl⟩
    intro c hc
    simp only [hgf c hc,Option.map_some]
    exact congrArg some (ext_some (Nat.lt_of_lt_of_le hc (hnk i)) (hf c hc))
   cases e with
   | normal =>
    obtain ⟨i',h1,hfit⟩:=hq
    obtain ⟨g,hg,hgf,_⟩:=hfix hfit
    exact ih i' (by omega) _ _ m' a' w' hg hgf hr' hs'
   | exit id =>
    obtain ⟨stE,hfit,hx⟩:=hq
    exact ⟨m',_,trivial,⟨stE,hfix hfit,hx⟩,hr',hs'⟩
   | ret =>
    obtain ⟨stE,hfit,hx⟩:=hq
    exact ⟨m',_,trivial,⟨stE,hfix hfit,hx⟩,hr',hs'⟩
   | _ => exact hok.elim
 exact wp_loop_rounds _ (key (mu i0 + 1) i0 (Nat.lt_succ_self _) some _ m0' a0 w0' hr0.idView (fun _ _ => rfl) hr0 hs0)
end Go.Dc
end
section
namespace Go.Dc
open Go.RowKit (Below)
def kdOf (P:Program):TypeDesc -> Kd
 | .int k => .int k
 | .bool => .bool
 | .string => .str
 | .pointer e => .ptr e
 | .slice e => .slice e
 | .struct a => .struct (a.toList.map (fun f => (f.type,f.offset,((P.info? f.type).map (·.size)).getD 0)))
 | .array n e => .array n e
 | .func _ _ _ => .func
 | .interface _ => .iface
 | _ => .other
theorem kdOf_ok (P:Program) (d:TypeDesc):KdOK P (kdOf P d) d:=by
 cases d <;> simp [kdOf,KdOK]
def eqsOf (P:Program) (t:TypeId) (d:TypeDesc):Bool :=
 match d with
 | .struct a => !(P.stoodInHeld t) && !(P.eqGuardType P.depth t) && a.toList.all fun f => !(f.name == "_")
 | .array _ _ => !(P.stoodInHeld t) && !(P.eqGuardType P.depth t)
 | _ => false
def isAny:AV -> Bool
 | .any => true
 | _ => false
def tiOf (P:Program) (t:TypeId):Option TI :=
 match P.info? t,P.underlying t with
 | some i,some d => match i.zero with
  | some z => bif isAny (ofConst z) then none else some ⟨kdOf P d,i.size,i.bytes,ofConst z,eqsOf P t d⟩
  | none => none
 | _,_ => none
theorem tiOf_ok {P:Program} {t:TypeId} {ti:TI} (h:tiOf P t = some ti):TOK P t ti:=by
 unfold tiOf at h
 split at h
 ·rename_i i d hi hd
  split at h
  ·rename_i z hz
   cases ha:isAny (ofConst z) with
   | true => rw [ha] at h; simp at h
   | false =>
    rw [ha] at h
    simp only [cond_false,Option.some.injEq] at h
    subst h
    refine ⟨⟨i,hi,rfl,rfl,z,hz,fun m n => ofConst_den m n z⟩,⟨d,hd,kdOf_ok P d⟩,?_,?_⟩
    ·intro e; simp only [] at e; rw [e] at ha; simp [isAny] at ha
    ·intro e
     simp only [eqsOf] at e
     split at e
     ·simp only [Bool.and_eq_true,Bool.not_eq_true',List.all_eq_true,beq_eq_false_iff_ne,ne_eq] at e
      rename_i a
      refine ⟨e.1.1,e.1.2,?_⟩
      intro a' ha' f hf
      rw [hd] at ha'
      obtain rfl:a = a':=by simpa using ha'
      simpa using e.2 f hf
     ·simp only [Bool.and_eq_true,Bool.not_eq_true'] at e
      refine ⟨e.1,e.2,?_⟩
      intro a' ha' f hf
      rw [hd] at ha'
      simp at ha'
     ·exact absurd e (by simp)
  ·exact absurd h (by simp)
 ·exact absurd h (by simp)
def lookT:List (Nat × TI) -> TypeId -> Option TI
 | [],_ => none
 | p :: l,t => bif Nat.beq p.1 t then some p.2 else lookT l t
theorem lookT_ok {P:Program}:∀ {l:List (Nat × TI)},l.map (fun p => tiOf P p.1) = l.map (fun p => some p.2) -> TabOK P (lookT l)
 | [],_ => by intro t ti h; simp [lookT] at h
 | p :: l,h => by
  simp only [List.map_cons,List.cons.injEq] at h
  intro t ti ht
  simp only [lookT] at ht
  cases hb:Nat.beq p.1 t with
  | true =>
   rw [hb] at ht
   simp only [cond_true,Option.some.injEq] at ht
   have:=Nat.eq_of_beq_eq_true hb
   subst this; subst ht
   exact tiOf_ok h.1
  | false =>
   rw [hb] at ht
   exact lookT_ok h.2 t ti ht
def fiOf (fn:Func):Option FI :=
 match fn.body with
 | none => none
 | some b => bif fn.name == "runtime.NumGoroutine" then none else some ⟨b, fn.ntmps, fn.results.toList⟩
theorem fiOf_ok {P:Program} {f:FuncId} {fn:Func} {fi:FI} (hf:P.funcs[f]? = some fn) (h:fiOf fn = some fi):FnOK P f fi:=by
 unfold fiOf at h
 split at h
 ·exact absurd h (by simp)
 ·rename_i b hb
  cases hn : (fn.name == "runtime.NumGoroutine") with
  | true => rw [hn] at h; simp at h
  | false =>
   rw [hn] at h
   simp only [cond_false,Option.some.injEq] at h
   subst h
   exact ⟨fn,hf,hb,rfl,by simp,hn⟩
def noDraw {α:Type} (A:Ans α):Draw α:=fun _ _ _ _ => A.bot
theorem SafeCall.run {P:Program} {E:Env Prop} {draw:Draw Prop} (hE:EnvOK P E id) (hD:DrawOK P E id draw) {f:FuncId} {fi:FI} (hF:E.F f = some fi) {args:List AV} {h:Rows} {Q:AV -> Rows -> Prop} (n:Nat)
  (hk:code propAns E draw n f fi.body ⟨enterT args fi.ntmps,h⟩ fun e st => match e with
   | .normal | .ret => resK propAns E st fi.results fun v => Q v st.rows
   | _ => False):SafeCall P E.R f args h Q:=by
 refine SafeCall.of_body hE.T (hE.F f fi hF) ((code_ok propHolds hE hD n f fi.body _ _ (fun p hp => by unfold Env.subsOf; rw [hF]; exact hp) hk).mono ?_)
 intro e st he
 cases e <;> first
  | exact ⟨.inl rfl,resL_ok propHolds he⟩
  | exact ⟨.inr rfl,resL_ok propHolds he⟩
  | exact he.elim
end Go.Dc
end
section
namespace Go.Dc
def lookF:List (Nat × FI) -> FuncId -> Option FI
 | [],_ => none
 | p :: l,f => bif Nat.beq p.1 f then some p.2 else lookF l f
theorem lookF_ok {P:Program}:∀ {l:List (Nat × FI)},(∀ p ∈ l,FnOK P p.1 p.2) -> ∀ f fi,lookF l f = some fi -> FnOK P f fi
 | [],_,f,fi,h => by simp [lookF] at h
 | p :: l,hl,f,fi,h => by
  simp only [lookF] at h
  cases hb:Nat.beq p.1 f with
  | true =>
   rw [hb] at h
   simp only [cond_true,Option.some.injEq] at h
   have:=Nat.eq_of_beq_eq_true hb
   subst this; subst h
   exact hl p (by simp)
  | false =>
   rw [hb] at h
   exact lookF_ok (fun q hq => hl q (by simp [hq])) f fi h
abbrev CallSpec:=List AV -> Rows -> (AV -> Rows -> Prop) -> Prop
abbrev LoopSp:=St -> (Exit -> St -> Prop) -> Prop
def Env.base (T:TypeId -> Option TI) (F:FuncId -> Option FI) (R:Nat -> RoRow):Env Prop:=⟨T,R,F,fun _ => none,fun _ _ => none⟩
theorem EnvOK.base {P:Program} {T:TypeId -> Option TI} {F:FuncId -> Option FI} {R:Nat -> RoRow} (hT:TabOK P T) (hF:∀ f fi,F f = some fi -> FnOK P f fi):EnvOK P (Env.base T F R) id :=
 ⟨hT,hF,fun f spec h => by simp [Env.base] at h,fun f i spec h => by simp [Env.base] at h⟩
def Env.addCall (E:Env Prop) (f:FuncId) (spec:CallSpec):Env Prop :=
 { E with calls:=fun g => bif Nat.beq f g then some spec else E.calls g }
theorem EnvOK.addCall {P:Program} {E:Env Prop} (h:EnvOK P E id) {f:FuncId} {spec:CallSpec} {fi:FI} (hF:E.F f = some fi) (hs:∀ args h k,spec args h k -> SafeCall P E.R f args h k):EnvOK P (E.addCall f spec) id where
 T:=h.T
 F:=h.F
 calls:=fun g sp hg args rows k hk => by
  simp only [Env.addCall] at hg
  cases hb:Nat.beq f g with
  | true =>
   rw [hb] at hg
   simp only [cond_true,Option.some.injEq] at hg
   have:=Nat.eq_of_beq_eq_true hb
   subst this; subst hg
   obtain ⟨fn,h1,h2,_,_,h5⟩:=(h.F f fi hF).fn
   exact ⟨hs args rows k hk,fn,h1,by rw [h2]; rfl,h5⟩
  | false =>
   rw [hb] at hg
   exact h.calls g sp hg args rows k hk
 loops:=h.loops
def Env.addLoop (E:Env Prop) (f:FuncId) (id:Nat) (spec:LoopSp):Env Prop :=
 { E with loops:=fun g i => bif Nat.beq f g && Nat.beq id i then some spec else E.loops g i }
def blockOf (fi:FI) (id:Nat):Option Code :=
 match (subs fi.body).filter fun p => Nat.beq p.1 id with
 | [(_,b)] => some b
 | _ => none
theorem EnvOK.addLoop {P:Program} {E:Env Prop} (h:EnvOK P E id) {f:FuncId} {i:Nat} {spec:LoopSp} {fi:FI} (hF:E.F f = some fi) {body:Code} (hb:blockOf fi i = some body)
  (hs:∀ st k,spec st k -> Safe P E.R (.block i body) st k):EnvOK P (E.addLoop f i spec) id where
 T:=h.T
 F:=h.F
 calls:=h.calls
 loops:=fun g j sp hg b hmem st k hk => by
  simp only [Env.addLoop] at hg
  cases hbb:(Nat.beq f g && Nat.beq i j) with
  | true =>
   rw [hbb] at hg
   simp only [cond_true,Option.some.injEq] at hg
   simp only [Bool.and_eq_true] at hbb
   have e1:=Nat.eq_of_beq_eq_true hbb.1
   have e2:=Nat.eq_of_beq_eq_true hbb.2
   subst e1; subst e2; subst hg
   have hm:(i,b) ∈ subs fi.body:=by
    have:(i,b) ∈ E.subsOf f:=hmem
    unfold Env.subsOf at this
    rwa [hF] at this
   have:b = body:=by
    unfold blockOf at hb
    have hf:(i,b) ∈ (subs fi.body).filter fun p => Nat.beq p.1 i:=by simp [hm]
    split at hb
    ·rename_i j' b' he
     rw [he] at hf
     simp at hf hb
     exact hf.2.trans hb
    ·exact absurd hb (by simp)
   subst this
   exact hs st k hk
  | false =>
   rw [hbb] at hg
   exact h.loops g j sp hg b hmem st k hk
theorem Safe.run {P:Program} {E:Env Prop} {draw:Draw Prop} (hE:EnvOK P E id) (hD:DrawOK P E id draw) {f:FuncId} {fi:FI} (hF:E.F f = some fi) {i:Nat} {b c:Code} (hb:blockOf fi i = some b) (hc:subs c = subs b) {st:St} {k:Exit -> St -> Prop} (n:Nat)
  (hk:code propAns E draw n f c st k):Safe P E.R c st k:=by
 refine code_ok propHolds hE hD n f c st k ?_ hk
 have key:∀ (c:Code) (p:Nat × Code),p ∈ subs c -> ∀ q ∈ subs p.2,q ∈ subs c:=by
  intro c
  induction c with
  | block id b ih =>
   intro p hp q hq
   simp only [subs,List.mem_cons] at hp ⊢
   rcases hp with rfl | hp
   ·exact .inr hq
   ·exact .inr (ih p hp q hq)
  | seq x y ihx ihy =>
   intro p hp q hq
   simp only [subs,List.mem_append] at hp ⊢
   rcases hp with hp | hp
   ·exact .inl (ihx p hp q hq)
   ·exact .inr (ihy p hp q hq)
  | cond x y z ihx ihy =>
   intro p hp q hq
   simp only [subs,List.mem_append] at hp ⊢
   rcases hp with hp | hp
   ·exact .inl (ihx p hp q hq)
   ·exact .inr (ihy p hp q hq)
  | loop b ih => exact ih
  | rangeFunc g ps x y ihx ihy =>
   intro p hp q hq
   simp only [subs,List.mem_append] at hp ⊢
   rcases hp with hp | hp
   ·exact .inl (ihx p hp q hq)
   ·exact .inr (ihy p hp q hq)
  | _ => intro p hp; simp [subs] at hp
 intro p hp
 unfold Env.subsOf
 rw [hF]
 rw [hc] at hp
 have hm:(i,b) ∈ subs fi.body:=by
  unfold blockOf at hb
  split at hb
  ·rename_i j' b' he
   simp only [Option.some.injEq] at hb
   subst hb
   have:(j',b') ∈ (subs fi.body).filter fun p => Nat.beq p.1 i:=by rw [he]; simp
   simp only [List.mem_filter] at this
   obtain ⟨h1,h2⟩:=this
   have:=Nat.eq_of_beq_eq_true h2
   subst this
   exact h1
  ·exact absurd hb (by simp)
 exact key fi.body (i,b) hm p hp
def blockExit (id:Nat):Exit -> Exit
 | .exit id' => bif Nat.beq id' id then .normal else .exit id'
 | e => e
end Go.Dc
end
section
namespace Go.Dc
def vc (E:Env Prop) (n:Nat) (f:FuncId) (fi:FI) (args:List AV) (h:Rows) (Q:AV -> Rows -> Prop):Prop :=
 code propAns E (noDraw propAns) n f fi.body ⟨enterT args fi.ntmps,h⟩ fun e st => match e with
  | .normal | .ret => resK propAns E st fi.results fun v => Q v st.rows
  | _ => False
theorem SafeCall.none {P:Program} {R:Nat -> RoRow} {f:FuncId} {args:List AV} {Q:AV -> Prop} (hs:SafeCall P R f args [] fun v _ => Q v) (hg:∀ v,Q v -> Vw (fun _ => none) 0 v v):SafeCall P R f args [] fun v h => Q v /\ h = [] :=
 hs.fit fun v h' hq => ⟨v,[],⟨fun _ => .none,⟨fun c b hc => absurd hc (Nat.not_lt_zero _),fun c c' b hc => absurd hc (Nat.not_lt_zero _),fun c r hc => by simp [Rows.live] at hc⟩,hg v hq,fun c hc => absurd hc (Nat.not_lt_zero _),Nat.le_refl _⟩,hq,rfl⟩
end Go.Dc
end
section
namespace Go.Dc
theorem evQ_congr {T:TypeId -> Option TI} {R:Nat -> RoRow} {h:Rows} {ev ev':Operand -> AV} (o:Oper) (he:∀ x ∈ o.op.operands,ev x = ev' x):evQ T R h ev o = evQ T R h ev' o:=by
 obtain ⟨dst,op,type,pos,after,guard⟩:=o
 have arr:∀ as:Array Operand,(∀ x ∈ as,ev x = ev' x) -> as.toList.map ev = as.toList.map ev':=fun as hp =>
  List.map_congr_left fun x hx => hp x (by simpa using hx)
 cases op <;> (try simp only [Op.operands] at he) <;> simp only [evQ]
 case build t ps =>
  congr 1
  refine List.map_congr_left fun p hp => ?_
  rw [he p.2 (List.mem_toArray.2 (List.mem_map.2 ⟨p,hp,rfl⟩))]
 case makeFunc fn first cap =>
  have h1:=arr first fun x hx => he x (by simp [hx])
  have h2:=arr cap fun x hx => he x (by simp [hx])
  cases fn <;> simp [h1,h2]
 case slice t x lo hi mx => cases lo <;> cases hi <;> cases mx <;> simp_all
 case call c =>
  obtain ⟨callee,args,ats⟩:=c
  simp only [Call.operands] at he
  have ha:=arr args fun x hx => he x (by simp [hx])
  cases callee <;> try rfl
  rename_i b
  cases b <;> try rfl
  ·dsimp only
   cases hts:ats.toList with
   | nil => rfl
   | cons t ts =>
    cases hal:args.toList with
    | nil => rfl
    | cons x xs =>
     rw [hal] at ha
     simp only [List.map_cons,List.cons.injEq] at ha
     dsimp only
     rw [ha.1]
  ·dsimp only; rw [ha]
  ·dsimp only; rw [ha]
 all_goals (first | rfl | (simp_all; done))
theorem evW_congr {T:TypeId -> Option TI} {R:Nat -> RoRow} {h:Rows} {ev ev':Operand -> AV} (o:Oper) (he:∀ x ∈ o.op.operands,ev x = ev' x):evW T R h ev o = evW T R h ev' o:=by
 obtain ⟨dst,op,type,pos,after,guard⟩:=o
 have arr:∀ as:Array Operand,(∀ x ∈ as,ev x = ev' x) -> as.toList.map ev = as.toList.map ev':=fun as hp =>
  List.map_congr_left fun x hx => hp x (by simpa using hx)
 cases op <;> (try simp only [Op.operands] at he) <;> simp only [evW]
 case buildSlice t n ps =>
  congr 1
  refine List.map_congr_left fun p hp => ?_
  rw [he p.2 (List.mem_toArray.2 (List.mem_map.2 ⟨p,hp,rfl⟩))]
 case call c =>
  obtain ⟨callee,args,ats⟩:=c
  simp only [Call.operands] at he
  have ha:=arr args fun x hx => he x (by simp [hx])
  cases callee <;> try rfl
  rename_i b
  cases b <;> try rfl
  all_goals
   dsimp only
   cases hts:ats.toList with
   | nil => rfl
   | cons t ts =>
    cases hal:args.toList with
    | nil => cases ts <;> rfl
    | cons x xs =>
     rw [hal] at ha
     simp only [List.map_cons,List.cons.injEq] at ha
     cases ts <;> cases xs <;> simp_all
 all_goals (first | rfl | (simp_all; done))
def memFree (o:Oper):Bool :=
 match o.op with
 | .move _ | .pick .. | .nilCheck _ | .binOp .. | .unOp .. | .makeInterface .. | .makeFunc .. | .fieldAddr .. | .field .. | .index .. | .extract .. | .build .. => true
 | .call { callee:=.builtin .len,.. } | .call { callee:=.builtin .min,.. } | .call { callee:=.builtin .max,.. } => true
 | _ => false
theorem evQ_mem {T:TypeId -> Option TI} {R:Nat -> RoRow} {h h':Rows} {ev:Operand -> AV} (o:Oper) (hm:memFree o = true):evQ T R h ev o = evQ T R h' ev o:=by
 obtain ⟨dst,op,type,pos,after,guard⟩:=o
 cases op
 case call c =>
  obtain ⟨callee,args,ats⟩:=c
  cases callee
  case builtin b => cases b <;> first | rfl | (simp [memFree] at hm)
  all_goals simp [memFree] at hm
 case makeFunc fn first cap => cases fn <;> rfl
 all_goals first
  | rfl
  | (simp [memFree] at hm; done)
end Go.Dc
end
section
namespace Go.Dc
noncomputable section
section defs
variable {α:Type} (A:Ans α) (E:Env α) (call:FuncId -> List AV -> Rows -> (AV -> Rows -> α) -> α) (ops:Array Oper)
def deps (o:Oper):List Nat:=(o.after.toList.filter fun e => Region.binds .any e).map (·.on)
def hasN (l:List Nat) (i:Nat):Bool :=
 match l with
 | [] => false
 | x :: xs => bif Nat.beq x i then true else hasN xs i
def ahead:Nat -> Nat -> Nat -> Bool
 | 0,_,_ => false
 | n + 1,i,j => match ops[j]? with
  | some o => (deps o).any fun d => bif Nat.beq d i then true else ahead n i d
  | none => false
def isAssign (o:Oper):Bool:=match o.op with | .assign _ => true | _ => false
def neat:Bool :=
 (List.range ops.size).all fun i => match ops[i]? with
  | none => true
  | some o => match o.dst with
   | none => true
   | some d => isAssign o || (List.range ops.size).all fun j => match ops[j]? with
    | none => true
    | some p => (!(hasN (p.looksAt ops) d) || hasN (deps p) i) && (Nat.beq i j || !(match p.dst with | some d' => Nat.beq d' d | none => false) || hasN (deps p) i)
def qpick (st:St) (o:Oper):QR :=
 match o.op with
 | .assign _ => .no
 | .pick c a b => match st.ev c with
  | .bool true => .ok (st.ev a)
  | .bool false => .ok (st.ev b)
  | _ => .no
 | _ => evQ E.T E.R st.rows st.ev o
def qeval0 (st:St) (o:Oper):QR :=
 match o.guard with
 | none => qpick E st o
 | some (j,want) => match (ops[j]?).bind (·.dst) with
  | none => .no
  | some d => match st.tmps.getD d .undef with
   | .bool true => bif want then qpick E st o else .ok .undef
   | .bool false => bif want then .ok .undef else qpick E st o
   | .tup _ | .int .. | .str _ => .ok .undef
   | _ => .no
def qeval (st:St) (o:Oper):QR:=bif isAssign o then .no else qeval0 E ops st o
def split1 (st:St) (d:Tmp) (k:St -> α):α :=
 match st.tmps.getD d .undef with
 | .bool b => cond b (k ⟨st.tmps.set d (.bool true),st.rows⟩) (k ⟨st.tmps.set d (.bool false),st.rows⟩)
 | _ => k st
def splitG (o:Oper) (st:St) (k:St -> α):α :=
 match o.guard with
 | none => k st
 | some (j,_) => match (ops[j]?).bind (·.dst) with
  | none => k st
  | some d => split1 st d k
def splitP (o:Oper) (st:St) (k:St -> α):α :=
 match o.op with
 | .pick (.tmp d) _ _ => split1 st d k
 | _ => k st
def stepW (o:Oper) (st:St) (k:AV -> Rows -> α):α :=
 match o.op with
 | .assign x => k (st.ev x) st.rows
 | .call { callee:=.value f,args,.. } => match st.ev f with
  | .fn g first cap => forceL (first ++ (args.toList.map st.ev ++ cap)) fun as => call g as st.rows fun v rows => forceRows rows fun rows => k v rows
  | _ => A.bot
 | _ => match evW E.T E.R st.rows st.ev o with
  | .ok c v rows => cond c (forceRows rows fun rows => k v rows) A.bot
  | .no => A.bot
def guardW (o:Oper) (st:St) (k:AV -> Rows -> α):α :=
 match o.guard with
 | none => stepW A E call o st k
 | some (j,want) => match (ops[j]?).bind (·.dst) with
  | none => A.bot
  | some d => match st.tmps.getD d .undef with
   | .bool true => cond want (stepW A E call o st k) (k .undef st.rows)
   | .bool false => cond want (k .undef st.rows) (stepW A E call o st k)
   | .tup _ | .int .. | .str _ => k .undef st.rows
   | _ => A.bot
def readyL (La:List Nat):List Nat :=
 (List.range ops.size).filter fun i => !(hasN La i) && (match ops[i]? with | some o => (deps o).all (hasN La) | none => false)
def recheck (j:Nat) (dst:Option Tmp) (st:St):List (Nat × AV) -> α -> α
 | [],k => k
 | (i,v) :: l,k => match ops[i]? with
  | none => A.bot
  | some o => cond (ahead ops ops.size i j || (memFree o && !(match dst with | some d => hasN (o.looksAt ops) d | none => false))) (recheck j dst st l k)
   (match qeval E ops st o with
    | .ok u => A.eqv u v (recheck j dst st l k)
    | .ck c u => cond c (A.eqv u v (recheck j dst st l k)) A.bot
    | .no => A.bot)
def tryL (onQ:Nat -> Oper -> St -> AV -> α) (onNone:St -> α):List Nat -> St -> α
 | [],st => onNone st
 | i :: is,st => match ops[i]? with
  | none => A.bot
  | some o => splitG ops o st fun st => splitP o st fun st => match qeval E ops st o with
   | .ok v => onQ i o st v
   | .ck c v => cond c (onQ i o st v) A.bot
   | .no => tryL onQ onNone is st
def wAll (f:Nat -> α):List Nat -> α
 | [] => A.bot
 | [i] => f i
 | i :: is => A.both (f i) (wAll f is)
def drawGo (k:St -> α):Nat -> List Nat -> List (Nat × AV) -> St -> α
 | 0,_,_,_ => A.bot
 | n + 1,La,done,st => match readyL ops La with
  | [] => k st
  | i :: is => tryL A E ops
    (fun i o st v => putK st.tmps o.dst v fun ts => drawGo k n (i :: La) ((i,v) :: done) ⟨ts,st.rows⟩)
    (fun st => wAll A (fun i => match ops[i]? with
     | none => A.bot
     | some o => guardW A E call ops o st fun v rows => putK st.tmps o.dst v fun ts => recheck A E ops i o.dst ⟨ts,rows⟩ done (drawGo k n (i :: La) done ⟨ts,rows⟩)) (i :: is))
    (i :: is) st
end defs
def drawAll {α:Type} (A:Ans α) (E:Env α):Draw α:=fun call ops st k => bif neat ops then drawGo A E call ops k (ops.size + 1) [] [] st else A.bot
theorem hasN_iff {l:List Nat} {i:Nat}:hasN l i = true ↔ i ∈ l:=by
 induction l with
 | nil => simp [hasN]
 | cons x xs ih =>
  unfold hasN
  cases hb:Nat.beq x i with
  | true => have:=Nat.eq_of_beq_eq_true hb; subst this; simp
  | false =>
   have hne:x ≠ i:=fun e => by subst e; simp at hb
   simp only [cond_false,ih,List.mem_cons]
   exact ⟨.inr,fun h => h.resolve_left fun e => hne e.symm⟩
section
variable {α:Type} {A:Ans α} {E:Env α} {call:FuncId -> List AV -> Rows -> (AV -> Rows -> α) -> α} {hold:α -> Prop} {P:Program} {ops:Array Oper}
theorem set_same {l:List AV} {d:Nat} {b:Bool} (h:l.getD d .undef = .bool b):l.set d (.bool b) = l:=by
 rcases Nat.lt_or_ge d l.length with h1 | h1
 ·refine List.ext_getElem (by simp) ?_
  intro i h2 h3
  rw [List.getElem_set]
  split
  ·rename_i e
   subst e
   simp only [List.getD,List.getElem?_eq_getElem h1,Option.getD_some] at h
   exact h.symm
  ·rfl
 ·exact List.set_eq_of_length_le h1
theorem split1_ok {st:St} {d:Tmp} {k:St -> α} (h:hold (split1 st d k)):hold (k st):=by
 unfold split1 at h
 split at h
 ·rename_i b hb
  rcases hold_cond b _ _ h with ⟨rfl,hk⟩ | ⟨rfl,hk⟩
  ·rwa [set_same hb] at hk
  ·rwa [set_same hb] at hk
 ·exact h
theorem splitG_ok {o:Oper} {st:St} {k:St -> α} (h:hold (splitG ops o st k)):hold (k st):=by
 unfold splitG at h
 split at h
 ·exact h
 ·split at h
  ·exact h
  ·exact split1_ok h
theorem splitP_ok {o:Oper} {st:St} {k:St -> α} (h:hold (splitP o st k)):hold (k st):=by
 unfold splitP at h
 split at h
 ·exact split1_ok h
 ·exact h
theorem tryL_ok (hA:Holds A hold) {onQ:Nat -> Oper -> St -> AV -> α} {onNone:St -> α}:∀ {l:List Nat} {st:St},hold (tryL A E ops onQ onNone l st) ->
  (∃ i ∈ l,∃ o v,ops[i]? = some o /\ (qeval E ops st o).has v /\ hold (onQ i o st v)) \/ hold (onNone st)
 | [],st,h => .inr h
 | i :: is,st,h => by
  unfold tryL at h
  split at h
  ·exact (hA.bot h).elim
  ·rename_i o ho
   have h:=splitP_ok (splitG_ok h)
   split at h
   ·rename_i v hv
    exact .inl ⟨i,by simp,o,v,ho,by rw [hv]; rfl,h⟩
   ·rename_i c v hv
    rcases hold_cond c _ _ h with ⟨hc,hk⟩ | ⟨_,hk⟩
    ·exact .inl ⟨i,by simp,o,v,ho,by rw [hv]; exact ⟨hc,rfl⟩,hk⟩
    ·exact (hA.bot hk).elim
   ·rcases tryL_ok hA h with ⟨j,hj,r⟩ | hn
    ·exact .inl ⟨j,by simp [hj],r⟩
    ·exact .inr hn
theorem wAll_ok (hA:Holds A hold) {f:Nat -> α}:∀ {l:List Nat},hold (wAll A f l) -> ∀ i ∈ l,hold (f i)
 | [],h,_,_ => (hA.bot h).elim
 | [j],h,i,hi => by
  simp only [List.mem_singleton] at hi
  subst hi; exact h
 | j :: j2 :: js,h,i,hi => by
  unfold wAll at h
  obtain ⟨h1,h2⟩:=hA.both _ _ h
  rcases List.mem_cons.1 hi with rfl | hi
  ·exact h1
  ·exact wAll_ok hA h2 i hi
theorem recheck_ok (hA:Holds A hold) {j:Nat} {dst:Option Tmp} {st:St} {k:α}:∀ {l:List (Nat × AV)},hold (recheck A E ops j dst st l k) ->
  hold k /\ ∀ i v,(i,v) ∈ l -> ∃ o,ops[i]? = some o /\ (ahead ops ops.size i j = true \/ (memFree o = true /\ ∀ d,dst = some d -> d ∉ o.looksAt ops) \/ (qeval E ops st o).has v)
 | [],h => ⟨h,fun i v hm => by simp at hm⟩
 | (i,v) :: l,h => by
  unfold recheck at h
  split at h
  ·exact (hA.bot h).elim
  ·rename_i o ho
   have put:∀ {X:Prop},hold (recheck A E ops j dst st l k) -> (ahead ops ops.size i j = true \/ (memFree o = true /\ ∀ d,dst = some d -> d ∉ o.looksAt ops) \/ (qeval E ops st o).has v) ->
     hold k /\ ∀ i' v',(i',v') ∈ (i,v) :: l -> ∃ o,ops[i']? = some o /\ (ahead ops ops.size i' j = true \/ (memFree o = true /\ ∀ d,dst = some d -> d ∉ o.looksAt ops) \/ (qeval E ops st o).has v'):=by
    intro X h1 h2
    have ih:=recheck_ok hA h1
    refine ⟨ih.1,fun i' v' hm => ?_⟩
    rcases List.mem_cons.1 hm with e | hm
    ·cases e; exact ⟨o,ho,h2⟩
    ·exact ih.2 i' v' hm
   rcases hold_cond _ _ _ h with ⟨hc,hk⟩ | ⟨_,hk⟩
   ·refine put (X:=True) hk ?_
    simp only [Bool.or_eq_true,Bool.and_eq_true,Bool.not_eq_true'] at hc
    rcases hc with hc | ⟨hc1,hc2⟩
    ·exact .inl hc
    ·refine .inr (.inl ⟨hc1,?_⟩)
     rintro d rfl hd
     simp only [] at hc2
     rw [hasN_iff.2 hd] at hc2
     exact absurd hc2 (by simp)
   ·split at hk
    ·rename_i u hu
     obtain ⟨e,hk⟩:=hA.eqv _ _ _ hk
     exact put (X:=True) hk (.inr (.inr (by rw [hu]; exact e)))
    ·rename_i c u hu
     rcases hold_cond c _ _ hk with ⟨hc,hk⟩ | ⟨_,hk⟩
     ·obtain ⟨e,hk⟩:=hA.eqv _ _ _ hk
      exact put (X:=True) hk (.inr (.inr (by rw [hu]; exact ⟨hc,e⟩)))
     ·exact (hA.bot hk).elim
    ·exact (hA.bot hk).elim
end
end
end Go.Dc
end
section
namespace Go.Dc
section
variable {α:Type} {A:Ans α} {E:Env α} {call:FuncId -> List AV -> Rows -> (AV -> Rows -> α) -> α} {hold:α -> Prop} {P:Program} {ops:Array Oper}
theorem wanted_bool {R:Nat -> RoRow} {m:Map} {st:St} {a:Act} {w:World} (hr:Rel R m st a w) {o:Oper} {j:Nat} {want b:Bool} {d:Tmp} (hg:o.guard = some (j,want)) (hd:(ops[j]?).bind (·.dst) = some d)
  (he:st.tmps.getD d .undef = .bool b):Region.wanted o (yielded ops a.tmps) = (b == want):=by
 have hev:=hr.ev (.tmp d)
 simp only [St.ev,Act.eval,nthV_eq] at hev
 rw [he] at hev
 simp only [Den] at hev
 have hlt:d < a.tmps.size:=by
  rcases Nat.lt_or_ge d a.tmps.size with h1 | h1
  ·exact h1
  ·rw [Array.getD_eq_getD_getElem?,Array.getElem?_eq_none h1] at hev
   simp [undef] at hev
 have hy:yielded ops a.tmps j = some b:=by
  unfold yielded
  rw [hd]
  simp only [Option.bind_some]
  rw [Array.getD_eq_getD_getElem?,Array.getElem?_eq_getElem hlt] at hev
  simp only [Option.getD_some] at hev
  rw [Array.getElem?_eq_getElem hlt,hev]
 unfold Region.wanted
 rw [hg]
 simp only [hy]
 cases b <;> cases want <;> rfl
theorem wanted_not {R:Nat -> RoRow} {m:Map} {st:St} {a:Act} {w:World} (hr:Rel R m st a w) {o:Oper} {j:Nat} {want:Bool} {d:Tmp} (hg:o.guard = some (j,want)) (hd:(ops[j]?).bind (·.dst) = some d)
  {x:AV} (he:st.tmps.getD d .undef = x) (hx:match x with | .tup _ | .int .. | .str _ => True | _ => False):Region.wanted o (yielded ops a.tmps) = false:=by
 have hev:=hr.ev (.tmp d)
 simp only [St.ev,Act.eval,nthV_eq] at hev
 rw [he] at hev
 have hne:∀ b,a.tmps.getD d undef ≠ .bool b:=by
  intro b hb
  rw [hb] at hev
  cases x <;> simp only [] at hx <;> simp [Den] at hev
 have hy:yielded ops a.tmps j = none:=by
  unfold yielded
  rw [hd]
  simp only [Option.bind_some]
  rcases Nat.lt_or_ge d a.tmps.size with h1 | h1
  ·have:a.tmps.getD d undef = a.tmps[d]:=by rw [Array.getD_eq_getD_getElem?,Array.getElem?_eq_getElem h1]; rfl
   rw [this] at hne
   rw [Array.getElem?_eq_getElem h1]
   split
   ·rename_i b hb
    simp only [Option.some.injEq] at hb
    exact absurd hb (hne b)
   ·rfl
  ·rw [Array.getElem?_eq_none h1]
 unfold Region.wanted
 rw [hg]
 simp only [hy]
 rfl
def Quiet (P:Program) (ops:Array Oper) (o:Oper) (a:Act) (w:World) (c:Value):Prop :=
 (Region.wanted o (yielded ops a.tmps) = true /\ (execOp a.eval o).run P w = .ok (.value c) w) \/ (Region.wanted o (yielded ops a.tmps) = false /\ c = undef)
theorem qpick_run (hT:TabOK P E.T) {m:Map} {st:St} {a:Act} {w:World} (hr:Rel E.R m st a w) {o:Oper} {v:AV} (h:(qpick E st o).has v):∃ c,Den m st.rows.length v c /\ (execOp a.eval o).run P w = .ok (.value c) w:=by
 have main:(evQ E.T E.R st.rows st.ev o).has v -> ∃ c,Den m st.rows.length v c /\ (execOp a.eval o).run P w = .ok (.value c) w:=by
  intro h
  obtain ⟨c,h1,h2⟩:=evQ_ok hT hr.wr st.ev a.eval hr.ev o v h
  exact ⟨c,h2,h1⟩
 obtain ⟨dst,op,type,pos,after,guard⟩:=o
 cases op
 case assign x => exact h.elim
 case pick c x y =>
  have hc:=hr.ev c
  simp only [qpick] at h
  split at h
  ·rename_i he
   rw [he] at hc
   simp only [Den] at hc
   cases h
   exact ⟨a.eval x,hr.ev x,by simp [execOp,hc,asBool,pure,Sem.run]⟩
  ·rename_i he
   rw [he] at hc
   simp only [Den] at hc
   cases h
   exact ⟨a.eval y,hr.ev y,by simp [execOp,hc,asBool,pure,Sem.run]⟩
  ·exact h.elim
 all_goals exact main h
theorem qeval_has {st:St} {o:Oper} {v:AV} (h:(qeval E ops st o).has v):isAssign o = false /\ (qeval0 E ops st o).has v:=by
 unfold qeval at h
 cases ha:isAssign o with
 | true => rw [ha] at h; exact h.elim
 | false => rw [ha] at h; exact ⟨rfl,h⟩
theorem qeval_run (hT : TabOK P E.T) {m : Map} {st : St} {a : Act} {w : World} (hr : Rel E.R m st a w) {o : Oper} {v : AV} (h : (qeval E ops st o).has v) : ∃ c, Den m st.rows.length v c ∧ Quiet P ops o a w c := by
  have h := (qeval_has h).2
  unfold qeval0 at h
  cases hg : o.guard with
  | none =>
    rw [hg] at h
    obtain ⟨c, h1, h2⟩ := qpick_run hT hr h
    exact ⟨c, h1, .inl ⟨by simp [Region.wanted, hg], h2⟩⟩
  | some g =>
    obtain ⟨j, want⟩ := g
    rw [hg] at h
    simp only [] at h
    cases hd : (ops[j]?).bind (·.dst) with
    | none => rw [hd] at h; exact h.elim
    | some d =>
      rw [hd] at h
      simp only [] at h
      have und : ∀ {q : AV}, (QR.ok q).has v → q = .undef → ∃ c, Den m st.rows.length v c ∧ c = undef := by
        intro q h1 h2
        subst h2
        cases h1
        exact ⟨undef, by simp [Den, DenL, undef], rfl⟩
      split at h
      · rename_i he
        have hw := wanted_bool hr hg hd he
        cases want with
        | true =>
          simp only [cond_true] at h
          obtain ⟨c, h1, h2⟩ := qpick_run hT hr h
          exact ⟨c, h1, .inl ⟨by rw [hw]; rfl, h2⟩⟩
        | false =>
          simp only [cond_false] at h
          obtain ⟨c, h1, h2⟩ := und h rfl
          exact ⟨c, h1, .inr ⟨by rw [hw]; rfl, h2⟩⟩
      · rename_i he
        have hw := wanted_bool hr hg hd he
        cases want with
        | false =>
          simp only [cond_false] at h
          obtain ⟨c, h1, h2⟩ := qpick_run hT hr h
          exact ⟨c, h1, .inl ⟨by rw [hw]; rfl, h2⟩⟩
        | true =>
          simp only [cond_true] at h
          obtain ⟨c, h1, h2⟩ := und h rfl
          exact ⟨c, h1, .inr ⟨by rw [hw]; rfl, h2⟩⟩
      all_goals first
        | exact h.elim
        | (rename_i he
           obtain ⟨c, h1, h2⟩ := und h rfl
           exact ⟨c, h1, .inr ⟨wanted_not hr hg hd he trivial, h2⟩⟩)
def Agree (ops:Array Oper) (o:Oper) (x y:List AV):Prop:=∀ t ∈ o.looksAt ops,x.getD t .undef = y.getD t .undef
theorem Agree.ev {o:Oper} {x y:List AV} (h:Agree ops o x y) (rows rows':Rows):∀ z ∈ o.op.operands,(⟨x,rows⟩:St).ev z = (⟨y,rows'⟩:St).ev z:=by
 intro z hz
 cases z with
 | tmp t => simp only [St.ev,nthV_eq]; exact h t (by unfold Oper.looksAt; exact List.mem_append_left _ (List.mem_filterMap.2 ⟨.tmp t,by simpa using hz,rfl⟩))
 | _ => rfl
theorem Agree.guard {o:Oper} {x y:List AV} (h:Agree ops o x y) {j:Nat} {want:Bool} {d:Tmp} (hg:o.guard = some (j,want)) (hd:(ops[j]?).bind (·.dst) = some d):x.getD d .undef = y.getD d .undef :=
 h d (by unfold Oper.looksAt; rw [hg]; simp [hd])
theorem qpick_congr {o:Oper} {x y:List AV} (h:Agree ops o x y) (rows:Rows):qpick E ⟨x,rows⟩ o = qpick E ⟨y,rows⟩ o:=by
 have hev:=h.ev rows rows
 have main:evQ E.T E.R rows (⟨x,rows⟩:St).ev o = evQ E.T E.R rows (⟨y,rows⟩:St).ev o:=evQ_congr o hev
 obtain ⟨dst,op,type,pos,after,guard⟩:=o
 cases op
 case assign x => rfl
 case pick c p q =>
  simp only [qpick]
  rw [hev c (by simp [Op.operands]),hev p (by simp [Op.operands]),hev q (by simp [Op.operands])]
 all_goals exact main
theorem qeval_congr {o:Oper} {x y:List AV} (h:Agree ops o x y) (rows:Rows):qeval E ops ⟨x,rows⟩ o = qeval E ops ⟨y,rows⟩ o:=by
 unfold qeval qeval0
 congr 1
 cases hg:o.guard with
 | none => exact qpick_congr h rows
 | some g =>
  obtain ⟨j,want⟩:=g
  simp only []
  cases hd:(ops[j]?).bind (·.dst) with
  | none => rfl
  | some d =>
   simp only []
   rw [h.guard hg hd,qpick_congr h rows]
theorem qpick_mem {o:Oper} {x:List AV} (hm:memFree o = true) (rows rows':Rows):qpick E ⟨x,rows⟩ o = qpick E ⟨x,rows'⟩ o:=by
 have main:evQ E.T E.R rows (⟨x,rows⟩:St).ev o = evQ E.T E.R rows' (⟨x,rows'⟩:St).ev o:=(evQ_mem o hm).trans (evQ_congr o fun z _ => by cases z <;> rfl)
 obtain ⟨dst,op,type,pos,after,guard⟩:=o
 cases op
 case assign x => rfl
 case pick c p q => rfl
 all_goals exact main
theorem qeval_mem {o:Oper} {x:List AV} (hm:memFree o = true) (rows rows':Rows):qeval E ops ⟨x,rows⟩ o = qeval E ops ⟨x,rows'⟩ o:=by
 unfold qeval qeval0
 rw [qpick_mem hm rows rows']
theorem stepW_congr {o:Oper} {x y:List AV} (h:Agree ops o x y) (rows:Rows) (k:AV -> Rows -> α):stepW A E call o ⟨x,rows⟩ k = stepW A E call o ⟨y,rows⟩ k:=by
 have hev:=h.ev rows rows
 have main:evW E.T E.R rows (⟨x,rows⟩:St).ev o = evW E.T E.R rows (⟨y,rows⟩:St).ev o:=evW_congr o hev
 obtain ⟨dst,op,type,pos,after,guard⟩:=o
 cases op
 case assign z =>
  simp only [stepW]
  rw [hev z (by simp [Op.operands])]
 case call c =>
  obtain ⟨callee,args,ats⟩:=c
  cases callee
  case value f =>
   simp only [stepW]
   have ha:args.toList.map (⟨x,rows⟩:St).ev = args.toList.map (⟨y,rows⟩:St).ev:=List.map_congr_left fun z hz => hev z (by simp [Op.operands,Call.operands]; exact .inr (by simpa using hz))
   rw [hev f (by simp [Op.operands,Call.operands]),ha]
  all_goals
   simp only [stepW]
   rw [main]
 all_goals
  simp only [stepW]
  rw [main]
theorem guardW_congr {o:Oper} {x y:List AV} (h:Agree ops o x y) (rows:Rows) (k:AV -> Rows -> α):guardW A E call ops o ⟨x,rows⟩ k = guardW A E call ops o ⟨y,rows⟩ k:=by
 unfold guardW
 cases hg:o.guard with
 | none => exact stepW_congr h rows k
 | some g =>
  obtain ⟨j,want⟩:=g
  simp only []
  cases hd:(ops[j]?).bind (·.dst) with
  | none => rfl
  | some d =>
   simp only []
   rw [h.guard hg hd,stepW_congr h rows k]
theorem stepW_ok (hA:Holds A hold) (hT:TabOK P E.T) (hcall:CallOK P E.R hold call) {o:Oper} {st:St} {k:AV -> Rows -> α} (h:hold (stepW A E call o st k)) {m:Map} {a:Act} {w:World} (hr:Rel E.R m st a w)
  {m0:Map} {h0:Rows} {w0:World} (hs:Step m0 h0 w0 m st.rows w) (K:Act -> World -> Prop) (Q:Exit -> Act -> World -> Prop)
  (hK:∀ m' v rows a' w',hold (k v rows) -> Rel E.R m' ⟨putT st.tmps o.dst v,rows⟩ a' w' -> Step m0 h0 w0 m' rows w' -> K a' w'):o.wp P a w K Q:=by
 have hev:=hr.ev
 have both:hold (match evW E.T E.R st.rows st.ev o with
   | .ok c v rows => cond c (forceRows rows fun rows => k v rows) A.bot
   | .no => A.bot) -> o.wp P a w K Q:=by
  intro h
  cases hw:evW E.T E.R st.rows st.ev o with
  | no => rw [hw] at h; exact (hA.bot h).elim
  | ok c v rows =>
   rw [hw] at h
   rcases hold_cond c _ _ h with ⟨hc,hk⟩ | ⟨_,hk⟩
   ·have hk:=forcedRows hk
    have:=evW_ok hT hr.wr st.ev a.eval hev o
    rw [hw] at this
    obtain ⟨nx,cv,w',m',hrun,hn,hd,hW,hS⟩:=this hc
    unfold Oper.wp
    rw [hrun]
    cases nx <;> simp only [nextVal] at hn <;> try (cases hn; done)
    ·cases hn
     exact hK m' _ _ _ _ hk (hr.put hS hW o.dst hd) (hs.trans hS)
    ·cases hn
     exact hK m' _ _ _ _ hk (hr.put hS hW o.dst hd) (hs.trans hS)
   ·exact (hA.bot hk).elim
 obtain ⟨dst,op,type,pos,after,guard⟩:=o
 cases op
 case assign x =>
  simp only [stepW] at h
  have hrun:(execOp a.eval ⟨dst,.assign x,type,pos,after,guard⟩).run P w = .ok (.value (a.eval x)) w:=rfl
  unfold Oper.wp
  rw [hrun]
  exact hK m _ _ _ _ h (hr.put (Step.refl _ _ _) hr.wr dst (hev x)) hs
 case call c =>
  obtain ⟨callee,args,argTypes⟩:=c
  cases callee
  case builtin b => exact both h
  case invoke r mm => exact both h
  case value f =>
   simp only [stepW] at h
   split at h
   ·rename_i g first cap he
    have hf:=hev f
    rw [he] at hf
    simp only [Den] at hf
    obtain ⟨us,vs,hfe,hus,hvs⟩:=hf
    have h:=forced h
    obtain ⟨hsafe,fn,hfn,hbody,hname⟩:=hcall g _ _ _ h
    have hrun:(execOp a.eval ⟨dst,.call ⟨.value f,args,argTypes⟩,type,pos,after,guard⟩).run P w = .ok (.enter g (us ++ args.map a.eval ++ vs)) w:=by
     simp only [execOp,resolve,Sem.run_bind,Deferred.ofValue,hfe,Sem.run_pure,Result.andThen_ok,invoke,callFunc]
     simp only [program,Sem.run,pure,Result.andThen_ok,hfn,Sem.bind]
     have hb:fn.body.isNone = false:=by cases hbb:fn.body <;> simp_all
     simp [hname,hb,Sem.run]
    unfold Oper.wp
    rw [hrun]
    have hargs:DenL m st.rows.length (first ++ (args.toList.map st.ev ++ cap)) (us ++ args.map a.eval ++ vs).toList:=by
     have app:∀ {l1 l2:List AV} {v1 v2:List Value},DenL m st.rows.length l1 v1 -> DenL m st.rows.length l2 v2 -> DenL m st.rows.length (l1 ++ l2) (v1 ++ v2):=by
      intro l1
      induction l1 with
      | nil => intro l2 v1 v2 h1 h2; simp only [DenL] at h1; subst h1; simpa using h2
      | cons x l1 ih =>
       intro l2 v1 v2 h1 h2
       simp only [DenL] at h1
       obtain ⟨u,us,rfl,hd,hl⟩:=h1
       simp only [List.cons_append,DenL]
       exact ⟨u,_,rfl,hd,ih hl h2⟩
     have hm:DenL m st.rows.length (args.toList.map st.ev) (args.map a.eval).toList:=by simpa using DenL.map_op hev args.toList
     have:=app hus (app hm hvs)
     simpa [List.append_assoc] using this
    refine (hsafe m w m st.rows w _ hargs hr.wr (Step.refl _ _ _)).mono ?_
    rintro e w' ⟨c,v,m',h',rfl,hk,hd,hW,hS⟩
    exact hK m' _ _ _ _ (forcedRows hk) (hr.put hS hW dst hd) (hs.trans hS)
   ·exact (hA.bot h).elim
 all_goals exact both h
theorem guardW_ok (hA : Holds A hold) (hT : TabOK P E.T) (hcall : CallOK P E.R hold call) {o : Oper} {st : St} {k : AV → Rows → α} (h : hold (guardW A E call ops o st k)) {m : Map} {a : Act} {w : World} (hr : Rel E.R m st a w)
    {m0 : Map} {h0 : Rows} {w0 : World} (hs : Step m0 h0 w0 m st.rows w) (K : Act → World → Prop) (Q : Exit → Act → World → Prop)
    (hK : ∀ m' v rows a' w', hold (k v rows) → Rel E.R m' ⟨putT st.tmps o.dst v, rows⟩ a' w' → Step m0 h0 w0 m' rows w' → K a' w') {i : Nat} (hi : ops[i]? = some o) : wpOp P ops Q i K a w := by
  unfold wpOp
  rw [hi]
  simp only []
  have skip : Region.wanted o (yielded ops a.tmps) = false → hold (k .undef st.rows) → (if Region.wanted o (yielded ops a.tmps) = true then o.wp P a w K Q ∨ (o.asks P a w ∧ LetsOut Q) else K (a.put o.dst undef) w) := by
    intro hw hk
    rw [hw]
    simp only [Bool.false_eq_true, if_false]
    exact hK m _ _ _ _ hk (hr.put (Step.refl _ _ _) hr.wr o.dst (by simp [Den, DenL, undef])) hs
  have run : Region.wanted o (yielded ops a.tmps) = true → hold (stepW A E call o st k) → (if Region.wanted o (yielded ops a.tmps) = true then o.wp P a w K Q ∨ (o.asks P a w ∧ LetsOut Q) else K (a.put o.dst undef) w) := by
    intro hw hk
    rw [if_pos hw]
    exact .inl (stepW_ok hA hT hcall hk hr hs K Q hK)
  unfold guardW at h
  cases hg : o.guard with
  | none =>
    rw [hg] at h
    exact run (by simp [Region.wanted, hg]) h
  | some g =>
    obtain ⟨j, want⟩ := g
    rw [hg] at h
    simp only [] at h
    cases hd : (ops[j]?).bind (·.dst) with
    | none => rw [hd] at h; exact (hA.bot h).elim
    | some d =>
      rw [hd] at h
      simp only [] at h
      split at h
      · rename_i he
        have hw := wanted_bool hr hg hd he
        rcases hold_cond want _ _ h with ⟨rfl, hk⟩ | ⟨rfl, hk⟩
        · exact run (by rw [hw]; rfl) hk
        · exact skip (by rw [hw]; rfl) hk
      · rename_i he
        have hw := wanted_bool hr hg hd he
        rcases hold_cond want _ _ h with ⟨rfl, hk⟩ | ⟨rfl, hk⟩
        · exact skip (by rw [hw]; rfl) hk
        · exact run (by rw [hw]; rfl) hk
      all_goals first
        | exact (hA.bot h).elim
        | (rename_i he
           exact skip (wanted_not hr hg hd he trivial) h)
end
end Go.Dc
end
section
namespace Go.Dc
section
variable {α:Type} {A:Ans α} {E:Env α} {call:FuncId -> List AV -> Rows -> (AV -> Rows -> α) -> α} {hold:α -> Prop} {P:Program} {ops:Array Oper}
def OrdOK (ops:Array Oper):List Nat -> Prop
 | [] => True
 | i :: L => (∃ o,ops[i]? = some o /\ ∀ d ∈ deps o,d ∈ L) /\ OrdOK ops L
structure DInv (E:Env α) (ops:Array Oper) (La:List Nat) (done:List (Nat × AV)) (st:St) (listed:Array Bool) (m:Map) (a:Act) (w:World) (m0:Map) (h0:Rows) (w0:World):Prop where
 sub:∀ i,listed.getD i false = true -> i ∈ La
 size:listed.size = ops.size
 inb:∀ i ∈ La,i < ops.size
 closed:∀ i o,listed.getD i false = true -> ops[i]? = some o -> ∀ d ∈ deps o,listed.getD d false = true
 ord:OrdOK ops La
 pend:∀ i ∈ La,listed.getD i false = false -> ∃ o v,ops[i]? = some o /\ (i,v) ∈ done /\ (qeval E ops st o).has v /\ ∀ d,o.dst = some d -> d < st.tmps.length -> st.tmps[d]? = some v
 rel:∃ tb,tb.length = st.tmps.length /\ (∀ t,(∀ i o,i ∈ La -> listed.getD i false = false -> ops[i]? = some o -> o.dst ≠ some t) -> tb[t]? = st.tmps[t]?) /\ Rel E.R m ⟨tb,st.rows⟩ a w
 step:Step m0 h0 w0 m st.rows w
theorem mem_deps {o:Oper} {d:Nat}:d ∈ deps o ↔ ∃ e ∈ o.after,Region.binds .any e = true /\ e.on = d:=by
 unfold deps
 simp only [List.mem_map,List.mem_filter,Array.mem_toList_iff]
 constructor
 ·rintro ⟨e,⟨h1,h2⟩,h3⟩; exact ⟨e,h1,h2,h3⟩
 ·rintro ⟨e,h1,h2,h3⟩; exact ⟨e,⟨h1,h2⟩,h3⟩
theorem mem_readyL {La:List Nat} {i:Nat}:i ∈ readyL ops La ↔ i < ops.size /\ i ∉ La /\ ∃ o,ops[i]? = some o /\ ∀ d ∈ deps o,d ∈ La:=by
 unfold readyL
 simp only [List.mem_filter,List.mem_range,Bool.and_eq_true,Bool.not_eq_true']
 constructor
 ·rintro ⟨h1,h2,h3⟩
  refine ⟨h1,fun h => ?_,?_⟩
  ·rw [hasN_iff.2 h] at h2; exact absurd h2 (by simp)
  ·split at h3
   ·rename_i o ho
    exact ⟨o,ho,fun d hd => hasN_iff.1 (List.all_eq_true.1 h3 d hd)⟩
   ·exact absurd h3 (by simp)
 ·rintro ⟨h1,h2,o,ho,h3⟩
  refine ⟨h1,?_,?_⟩
  ·cases hh:hasN La i with
   | true => exact absurd (hasN_iff.1 hh) h2
   | false => rfl
  ·rw [ho]
   exact List.all_eq_true.2 fun d hd => hasN_iff.2 (h3 d hd)
theorem ready_spec {listed:Array Bool} {i:Nat} (h:i ∈ Region.ready .any ops listed):listed.getD i true = false /\ listed.getD i false = false /\ ∃ o,ops[i]? = some o /\ ∀ d ∈ deps o,listed.getD d false = true:=by
 obtain ⟨h1,o,ho,h2⟩:=mem_ready.1 h
 refine ⟨h1,?_,o,ho,?_⟩
 ·rw [Array.getD_eq_getD_getElem?] at h1 ⊢
  cases hl:listed[i]? with
  | none => rw [hl] at h1; simp at h1
  | some b => rw [hl] at h1; simpa using h1
 ·intro d hd
  obtain ⟨e,he,hb,rfl⟩:=mem_deps.1 hd
  exact h2 e he hb
theorem neat_look (hn:neat ops = true) {i j:Nat} {o p:Oper} (hi:ops[i]? = some o) (hj:ops[j]? = some p) {d:Tmp} (hd:o.dst = some d) (ha:isAssign o = false) :
  (d ∈ p.looksAt ops -> i ∈ deps p) /\ (i ≠ j -> p.dst = some d -> i ∈ deps p):=by
 have lt:∀ {i:Nat} {o:Oper},ops[i]? = some o -> i < ops.size:=fun h => (Array.getElem?_eq_some_iff.1 h).1
 unfold neat at hn
 have h1:=List.all_eq_true.1 hn i (List.mem_range.2 (lt hi))
 rw [hi] at h1
 simp only [hd,ha,Bool.false_or] at h1
 have h2:=List.all_eq_true.1 h1 j (List.mem_range.2 (lt hj))
 rw [hj] at h2
 simp only [Bool.and_eq_true,Bool.or_eq_true,Bool.not_eq_true'] at h2
 obtain ⟨h3,h4⟩:=h2
 constructor
 ·intro hl
  rcases h3 with h3 | h3
  ·rw [hasN_iff.2 hl] at h3; exact absurd h3 (by simp)
  ·exact hasN_iff.1 h3
 ·intro hne hp
  rcases h4 with (h4 | h4) | h4
  ·exact absurd (Nat.eq_of_beq_eq_true h4) hne
  ·rw [hp] at h4
   simp at h4
  ·exact hasN_iff.1 h4
theorem ahead_mem {listed:Array Bool} (hc:∀ i o,listed.getD i false = true -> ops[i]? = some o -> ∀ d ∈ deps o,listed.getD d false = true):∀ (n i j:Nat),(∀ o,ops[j]? = some o -> ∀ d ∈ deps o,listed.getD d false = true) -> ahead ops n i j = true -> listed.getD i false = true
 | 0,i,j,_,h => by simp [ahead] at h
 | n + 1,i,j,hj,h => by
  unfold ahead at h
  cases ho:ops[j]? with
  | none => rw [ho] at h; simp at h
  | some o =>
   rw [ho] at h
   simp only [List.any_eq_true] at h
   obtain ⟨d,hd,h⟩:=h
   have hl:=hj o ho d hd
   cases hb:Nat.beq d i with
   | true => have:=Nat.eq_of_beq_eq_true hb; subst this; exact hl
   | false =>
    rw [hb] at h
    exact ahead_mem hc n i d (fun o' ho' => hc d o' hl ho') h
theorem DInv.noPend {La:List Nat} {done:List (Nat × AV)} {st:St} {listed:Array Bool} {m:Map} {a:Act} {w:World} {m0:Map} {h0:Rows} {w0:World} (D:DInv E ops La done st listed m a w m0 h0 w0) (hr:Region.ready .any ops listed = []) :
  ∀ i ∈ La,listed.getD i false = true:=by
 have key:∀ L:List Nat,OrdOK ops L -> (∀ i ∈ L,i ∈ La) -> ∀ i ∈ L,listed.getD i false = true:=by
  intro L
  induction L with
  | nil => intro _ _ i hi; simp at hi
  | cons j L ih =>
   rintro ⟨⟨o,ho,hd⟩,hL⟩ hsub i hi
   have hrest:=ih hL fun x hx => hsub x (by simp [hx])
   rcases List.mem_cons.1 hi with rfl | hi
   ·cases hl:listed.getD i false with
    | true => rfl
    | false =>
     have hlt:i < listed.size:=by rw [D.size]; exact D.inb i (hsub i (by simp))
     have:i ∈ Region.ready .any ops listed:=by
      refine mem_ready.2 ⟨?_,o,ho,fun e he hb => hrest _ (hd _ (mem_deps.2 ⟨e,he,hb,rfl⟩))⟩
      rw [Array.getD_eq_getD_getElem?,Array.getElem?_eq_getElem hlt] at hl ⊢
      simpa using hl
     rw [hr] at this
     simp at this
   ·exact hrest i hi
 exact key La D.ord fun _ h => h
theorem DInv.done_rel {La:List Nat} {done:List (Nat × AV)} {st:St} {listed:Array Bool} {m:Map} {a:Act} {w:World} {m0:Map} {h0:Rows} {w0:World} (D:DInv E ops La done st listed m a w m0 h0 w0) (hr:Region.ready .any ops listed = []) :
  Rel E.R m st a w:=by
 obtain ⟨tb,h1,h2,h3⟩:=D.rel
 have:tb = st.tmps:=by
  refine List.ext_getElem? fun t => ?_
  refine h2 t fun i o hi hl => ?_
  rw [D.noPend hr i hi] at hl
  exact absurd hl (by simp)
 subst this
 exact h3
theorem DInv.agree {La:List Nat} {done:List (Nat × AV)} {st:St} {listed:Array Bool} {m:Map} {a:Act} {w:World} {m0:Map} {h0:Rows} {w0:World} (D:DInv E ops La done st listed m a w m0 h0 w0) (hn:neat ops = true)
  {j:Nat} {p:Oper} (hj:ops[j]? = some p) (hd:∀ d ∈ deps p,listed.getD d false = true) {tb:List AV}
  (htb:∀ t,(∀ i o,i ∈ La -> listed.getD i false = false -> ops[i]? = some o -> o.dst ≠ some t) -> tb[t]? = st.tmps[t]?):Agree ops p tb st.tmps:=by
 intro t ht
 have:=htb t (fun i o hi hl ho hdst => by
  obtain ⟨o',v,ho',_,hq,_⟩:=D.pend i hi hl
  rw [ho] at ho'
  cases ho'
  have hdep:=(neat_look hn ho hj hdst (qeval_has hq).1).1 ht
  rw [hd i hdep] at hl
  exact absurd hl (by simp))
 simp only [List.getD,this]
theorem putT_length (l:List AV) (d:Option Tmp) (v:AV):(putT l d v).length = l.length:=by
 cases d <;> simp [putT]
theorem putT_get {l:List AV} {d:Option Tmp} {v:AV} {t:Tmp} (h:d ≠ some t):(putT l d v)[t]? = l[t]?:=by
 cases d with
 | none => rfl
 | some d =>
  simp only [putT]
  rw [List.getElem?_set_ne]
  intro e; exact h (by rw [e])
theorem getD_set {listed:Array Bool} {i j:Nat} (hi:i < listed.size):(listed.setIfInBounds i true).getD j false = if j = i then true else listed.getD j false:=by
 by_cases h:j = i
 ·subst h; simp [hi]
 ·rw [if_neg h,getD_set_ne false (Ne.symm h)]
theorem DInv.pendStep (hT:TabOK P E.T) {La:List Nat} {done:List (Nat × AV)} {st:St} {listed:Array Bool} {m:Map} {a:Act} {w:World} {m0:Map} {h0:Rows} {w0:World} (D:DInv E ops La done st listed m a w m0 h0 w0) (hn:neat ops = true)
  {Q:Exit -> Act -> World -> Prop} {K:Act -> World -> Prop} {i:Nat} (hr:i ∈ Region.ready .any ops listed) (hi:i ∈ La) (hK:∀ a',DInv E ops La done st (listed.setIfInBounds i true) m a' w m0 h0 w0 -> K a' w):wpOp P ops Q i K a w:=by
 obtain ⟨hl1,hl,o,ho,hdep⟩:=ready_spec hr
 obtain ⟨o',v,ho',hdone,hq,hdst⟩:=D.pend i hi hl
 rw [ho] at ho'
 cases ho'
 obtain ⟨tb,hlen,htb,hrel⟩:=D.rel
 have hag:=D.agree hn ho hdep htb
 have hq':(qeval E ops ⟨tb,st.rows⟩ o).has v:=by rw [qeval_congr hag st.rows]; exact hq
 obtain ⟨c,hden,hquiet⟩:=qeval_run hT hrel hq'
 have hsz:i < listed.size:=by rw [D.size]; exact D.inb i hi
 have hput:K (a.put o.dst c) w:=by
  refine hK _ ?_
  constructor
  ·intro j hj
   rw [getD_set hsz] at hj
   by_cases e:j = i
   ·subst e; exact hi
   ·rw [if_neg e] at hj; exact D.sub j hj
  ·simp [D.size]
  ·exact D.inb
  ·intro j p hj hp d hd
   rw [getD_set hsz] at hj ⊢
   by_cases e:d = i
   ·rw [if_pos e]
   ·rw [if_neg e]
    by_cases e2:j = i
    ·subst e2
     rw [ho] at hp; cases hp
     exact hdep d hd
    ·rw [if_neg e2] at hj
     exact D.closed j p hj hp d hd
  ·exact D.ord
  ·intro j hj hlj
   rw [getD_set hsz] at hlj
   by_cases e:j = i
   ·rw [if_pos e] at hlj; exact absurd hlj (by simp)
   ·rw [if_neg e] at hlj; exact D.pend j hj hlj
  ·refine ⟨putT tb o.dst v,by rw [putT_length,hlen],?_,hrel.put (Step.refl _ _ _) hrel.wr o.dst hden⟩
   intro t ht
   by_cases e:o.dst = some t
   ·rw [e]
    simp only [putT]
    rcases Nat.lt_or_ge t st.tmps.length with h1 | h1
    ·rw [List.getElem?_set_self (by rw [hlen]; exact h1),hdst t e h1]
    ·rw [List.getElem?_eq_none (by simp [hlen]; exact h1),List.getElem?_eq_none h1]
   ·rw [putT_get e]
    refine htb t fun j p hj hlj hp => ?_
    by_cases e2:j = i
    ·subst e2
     rw [ho] at hp; cases hp
     exact e
    ·exact ht j p hj (by rw [getD_set hsz,if_neg e2]; exact hlj) hp
  ·exact D.step
 unfold wpOp
 rw [ho]
 simp only []
 rcases hquiet with ⟨hw,hrun⟩ | ⟨hw,rfl⟩
 ·rw [if_pos hw]
  refine .inl ?_
  unfold Oper.wp
  rw [hrun]
  exact hput
 ·rw [hw]
  simp only [Bool.false_eq_true,if_false]
  exact hput
end
end Go.Dc
end
section
namespace Go.Dc
section
variable {α:Type} {A:Ans α} {E:Env α} {call:FuncId -> List AV -> Rows -> (AV -> Rows -> α) -> α} {hold:α -> Prop} {P:Program} {ops:Array Oper}
def cnt (listed:Array Bool):Nat:=listed.toList.countP fun b => !b
theorem cnt_set {listed:Array Bool} {i:Nat} (h:listed.getD i true = false):cnt (listed.setIfInBounds i true) + 1 = cnt listed:=by
 have hlt:i < listed.size:=by
  rcases Nat.lt_or_ge i listed.size with h1 | h1
  ·exact h1
  ·rw [Array.getD_eq_getD_getElem?,Array.getElem?_eq_none h1] at h; simp at h
 have hv:listed.toList[i]'(by simpa using hlt) = false:=by
  rw [Array.getD_eq_getD_getElem?,Array.getElem?_eq_getElem hlt] at h
  simpa using h
 unfold cnt
 rw [Array.toList_setIfInBounds,List.countP_set (by simpa using hlt)]
 have hpos:0 < listed.toList.countP fun b => !b:=List.countP_pos_iff.2 ⟨false,by rw [<- hv]; exact List.getElem_mem _,rfl⟩
 rw [hv]
 simp only [Bool.not_false,Bool.not_true,if_true,Bool.false_eq_true,if_false]
 omega
theorem any_intro {Q:Exit -> Act -> World -> Prop} {fuel:Nat} {listed:Array Bool} {a:Act} {w:World} (hc:cnt listed <= fuel) (h0:Region.ready .any ops listed = [] -> Q .normal a w)
  (h1:∀ i ∈ Region.ready .any ops listed,∀ f',fuel = f' + 1 -> cnt (listed.setIfInBounds i true) <= f' -> wpOp P ops Q i (wpAny P .any ops Q f' (listed.setIfInBounds i true)) a w):wpAny P .any ops Q fuel listed a w:=by
 cases fuel with
 | zero =>
  have:Region.ready .any ops listed = []:=by
   cases hr:Region.ready .any ops listed with
   | nil => rfl
   | cons i is =>
    have:=cnt_set (ready_spec (ops:=ops) (listed:=listed) (i:=i) (by rw [hr]; simp)).1
    omega
  exact ⟨this,h0 this⟩
 | succ f =>
  refine ⟨h0,fun i hi => h1 i hi f rfl ?_⟩
  have:=cnt_set (ready_spec hi).1
  omega
theorem qeval_drop (hn:neat ops = true) {La:List Nat} (hord:OrdOK ops La) {i q:Nat} {o p:Oper} (hi:ops[i]? = some o) (hLa:i ∈ La) (hq:ops[q]? = some p) (hqn:q ∉ La) (hpa:isAssign p = false) :
  ∀ d,p.dst = some d -> d ∉ o.looksAt ops /\ o.dst ≠ some d:=by
 intro d hd
 have hdeps:∀ x ∈ deps o,x ∈ La:=by
  have key:∀ L:List Nat,OrdOK ops L -> i ∈ L -> ∀ x ∈ deps o,x ∈ L:=by
   intro L
   induction L with
   | nil => intro _ h; simp at h
   | cons j L ih =>
    rintro ⟨⟨o',ho',hd'⟩,hL⟩ hm x hx
    rcases List.mem_cons.1 hm with rfl | hm
    ·rw [hi] at ho'; cases ho'
     exact List.mem_cons_of_mem _ (hd' x hx)
    ·exact List.mem_cons_of_mem _ (ih hL hm x hx)
  exact key La hord hLa
 have h:=neat_look hn hq hi hd hpa
 refine ⟨fun hl => hqn (hdeps q (h.1 hl)),fun ho => hqn (hdeps q (h.2 ?_ ho))⟩
 rintro rfl
 exact hqn hLa
theorem agree_put {o:Oper} {ts:List AV} {dst:Option Tmp} {v:AV} (h:∀ d,dst = some d -> d ∉ o.looksAt ops):Agree ops o (putT ts dst v) ts:=by
 intro t ht
 have:dst ≠ some t:=fun e => h t e ht
 simp only [List.getD,putT_get this]
theorem DInv.quiet {La:List Nat} {done:List (Nat × AV)} {st:St} {listed:Array Bool} {m:Map} {a:Act} {w:World} {m0:Map} {h0:Rows} {w0:World} (D:DInv E ops La done st listed m a w m0 h0 w0) (hn:neat ops = true)
  {q:Nat} {o:Oper} {v:AV} (hq:q ∈ readyL ops La) (ho:ops[q]? = some o) (hv:(qeval E ops st o).has v):DInv E ops (q :: La) ((q,v) :: done) ⟨putT st.tmps o.dst v,st.rows⟩ listed m a w m0 h0 w0:=by
 obtain ⟨hlt,hnm,o',ho',hdep⟩:=mem_readyL.1 hq
 rw [ho] at ho'; cases ho'
 have hna:=(qeval_has hv).1
 have hself:∀ d,o.dst = some d -> d ∉ o.looksAt ops:=by
  intro d hd hl
  exact hnm (hdep q ((neat_look hn ho ho hd hna).1 hl))
 constructor
 ·intro i hi; exact List.mem_cons_of_mem _ (D.sub i hi)
 ·exact D.size
 ·intro i hi
  rcases List.mem_cons.1 hi with rfl | hi
  ·exact hlt
  ·exact D.inb i hi
 ·exact D.closed
 ·exact ⟨⟨o,ho,hdep⟩,D.ord⟩
 ·intro i hi hl
  rcases List.mem_cons.1 hi with rfl | hi
  ·refine ⟨o,v,ho,by simp,?_,?_⟩
   ·rw [qeval_congr (agree_put hself) st.rows]; exact hv
   ·intro d hd hlt
    rw [hd]
    simp only [putT]
    rw [List.getElem?_set_self (by rwa [putT_length] at hlt)]
  ·obtain ⟨p,u,hp,hdone,hqe,hdst⟩:=D.pend i hi hl
   have hdrop:=qeval_drop hn D.ord hp hi ho hnm hna
   refine ⟨p,u,hp,List.mem_cons_of_mem _ hdone,?_,?_⟩
   ·rw [qeval_congr (agree_put fun d hd => (hdrop d hd).1) st.rows]; exact hqe
   ·intro d hd hlt
    simp only [] at hlt
    rw [putT_length] at hlt
    rw [putT_get (fun e => (hdrop d e).2 hd)]
    exact hdst d hd hlt
 ·obtain ⟨tb,h1,h2,h3⟩:=D.rel
  refine ⟨tb,by rw [putT_length]; exact h1,?_,h3⟩
  intro t ht
  have hlq:listed.getD q false = false:=by
   cases hh:listed.getD q false with
   | true => exact absurd (D.sub q hh) hnm
   | false => rfl
  rw [putT_get (ht q o (by simp) hlq ho)]
  exact h2 t fun i p hi hl hp => ht i p (List.mem_cons_of_mem _ hi) hl hp
 ·exact D.step
theorem drawGo_ok (hA:Holds A hold) (hT:TabOK P E.T) (hcall:CallOK P E.R hold call) (hn:neat ops = true) {k:St -> α} {Q:Exit -> Act -> World -> Prop} {m0:Map} {h0:Rows} {w0:World}
  (hQ:∀ m st a w,hold (k st) -> Rel E.R m st a w -> Step m0 h0 w0 m st.rows w -> Q .normal a w) :
  ∀ n La done st,hold (drawGo A E call ops k n La done st) -> ∀ fuel listed m a w,DInv E ops La done st listed m a w m0 h0 w0 -> cnt listed <= fuel -> wpAny P .any ops Q fuel listed a w:=by
 intro n
 induction n with
 | zero => intro La done st h; exact (hA.bot h).elim
 | succ n ih =>
  intro La done st h
  unfold drawGo at h
  split at h
  ·rename_i hrs
   intro fuel
   induction fuel with
   | zero =>
    intro listed m a w D hc
    refine any_intro hc (fun hr => hQ m st a w h (D.done_rel hr) D.step) ?_
    intro i hi f' hf; omega
   | succ fuel ihf =>
    intro listed m a w D hc
    refine any_intro hc (fun hr => hQ m st a w h (D.done_rel hr) D.step) ?_
    intro i hi f' hf hc'
    cases hf
    obtain ⟨_,_,o,ho,hdep⟩:=ready_spec hi
    by_cases hm:i ∈ La
    ·exact D.pendStep hT hn hi hm fun a' D' => ihf _ m a' w D' hc'
    ·have:i ∈ readyL ops La:=mem_readyL.2 ⟨(Array.getElem?_eq_some_iff.1 ho).1,hm,o,ho,fun d hd => D.sub d (hdep d hd)⟩
     rw [hrs] at this; simp at this
  ·rename_i i0 is hrs
   rcases tryL_ok hA h with ⟨q,hq,o,v,ho,hv,hk⟩ | hk
   ·intro fuel listed m a w D hc
    rw [<- hrs] at hq
    exact ih _ _ _ (by rw [putK_eq] at hk; exact hk) fuel listed m a w (D.quiet hn hq ho hv) hc
   ·have hall:=wAll_ok hA hk
    have hready0:∀ {listed m a w},DInv E ops La done st listed m a w m0 h0 w0 -> Region.ready .any ops listed ≠ []:=by
     intro listed m a w D hr
     have hi0:i0 ∈ readyL ops La:=by rw [hrs]; simp
     obtain ⟨hlt,hnm,o,ho,hdep⟩:=mem_readyL.1 hi0
     have:i0 ∈ Region.ready .any ops listed:=by
      refine mem_ready.2 ⟨?_,o,ho,fun e he hb => D.noPend hr _ (hdep _ (mem_deps.2 ⟨e,he,hb,rfl⟩))⟩
      have hl:listed.getD i0 false = false:=by
       cases hh:listed.getD i0 false with
       | true => exact absurd (D.sub i0 hh) hnm
       | false => rfl
      have hsz:i0 < listed.size:=by rw [D.size]; exact hlt
      rw [Array.getD_eq_getD_getElem?,Array.getElem?_eq_getElem hsz] at hl ⊢
      simpa using hl
     rw [hr] at this; simp at this
    intro fuel
    induction fuel with
    | zero =>
     intro listed m a w D hc
     refine any_intro hc (fun hr => absurd hr (hready0 D)) ?_
     intro i hi f' hf; omega
    | succ fuel ihf =>
     intro listed m a w D hc
     refine any_intro hc (fun hr => absurd hr (hready0 D)) ?_
     intro i hi f' hf hc'
     cases hf
     obtain ⟨hl1,hl,o,ho,hdep⟩:=ready_spec hi
     by_cases hm:i ∈ La
     ·exact D.pendStep hT hn hi hm fun a' D' => ihf _ m a' w D' hc'
     ·have hi2:i ∈ readyL ops La:=mem_readyL.2 ⟨(Array.getElem?_eq_some_iff.1 ho).1,hm,o,ho,fun d hd => D.sub d (hdep d hd)⟩
      have hw:=hall i (by rw [<- hrs]; exact hi2)
      rw [ho] at hw
      simp only [] at hw
      obtain ⟨tb,hlen,htb,hrel⟩:=D.rel
      have hag:=D.agree hn ho hdep htb
      rw [<- guardW_congr hag st.rows] at hw
      refine guardW_ok hA hT hcall hw hrel D.step _ Q ?_ ho
      intro m' v rows a' w' hk' hrel' hs'
      have hk':=(show hold _ by rw [putK_eq] at hk'; exact hk')
      obtain ⟨hgo,hre⟩:=recheck_ok hA hk'
      refine ih _ _ _ hgo _ _ m' a' w' ?_ hc'
      have hsz:i < listed.size:=by rw [D.size]; exact (Array.getElem?_eq_some_iff.1 ho).1
      have nodst:∀ j p,j ∈ La -> listed.getD j false = false -> ops[j]? = some p -> ∀ d,p.dst = some d -> o.dst ≠ some d:=by
       intro j p hj hlj hp d hd hod
       obtain ⟨p',u,hp',_,hqe,_⟩:=D.pend j hj hlj
       rw [hp] at hp'; cases hp'
       have hne:j ≠ i:=fun e => hm (e ▸ hj)
       have:=hdep j ((neat_look hn hp ho hd (qeval_has hqe).1).2 hne hod)
       rw [hlj] at this; exact absurd this (by simp)
      constructor
      ·intro j hj
       rw [getD_set hsz] at hj
       by_cases e:j = i
       ·subst e; simp
       ·rw [if_neg e] at hj; exact List.mem_cons_of_mem _ (D.sub j hj)
      ·simp [D.size]
      ·intro j hj
       rcases List.mem_cons.1 hj with rfl | hj
       ·exact (Array.getElem?_eq_some_iff.1 ho).1
       ·exact D.inb j hj
      ·intro j p hj hp d hd
       rw [getD_set hsz] at hj ⊢
       by_cases e:d = i
       ·rw [if_pos e]
       ·rw [if_neg e]
        by_cases e2:j = i
        ·subst e2
         rw [ho] at hp; cases hp
         exact hdep d hd
        ·rw [if_neg e2] at hj
         exact D.closed j p hj hp d hd
      ·exact ⟨⟨o,ho,fun d hd => D.sub d (hdep d hd)⟩,D.ord⟩
      ·intro j hj hlj
       rw [getD_set hsz] at hlj
       by_cases e:j = i
       ·rw [if_pos e] at hlj; exact absurd hlj (by simp)
       ·rw [if_neg e] at hlj
        have hj:j ∈ La:=by
         rcases List.mem_cons.1 hj with e2 | hj
         ·exact absurd e2 e
         ·exact hj
        obtain ⟨p,u,hp,hdone,hqe,hdst⟩:=D.pend j hj hlj
        obtain ⟨p',hp',hcase⟩:=hre j u hdone
        rw [hp] at hp'; cases hp'
        refine ⟨p,u,hp,hdone,?_,?_⟩
        ·rcases hcase with h1 | ⟨h1,h2⟩ | h1
         ·have:=ahead_mem D.closed ops.size j i (fun o' ho' => by rw [ho] at ho'; cases ho'; exact hdep) h1
          rw [hlj] at this; exact absurd this (by simp)
         ·rw [qeval_mem h1 rows st.rows,qeval_congr (agree_put h2) st.rows]
          exact hqe
         ·exact h1
        ·intro d hd hlt
         simp only [] at hlt
         rw [putT_length] at hlt
         rw [putT_get (nodst j p hj hlj hp d hd)]
         exact hdst d hd hlt
      ·refine ⟨putT tb o.dst v,by rw [putT_length,putT_length,hlen],?_,hrel'⟩
       intro t ht
       by_cases e:o.dst = some t
       ·rw [e]
        simp only [putT]
        rcases Nat.lt_or_ge t st.tmps.length with h1 | h1
        ·rw [List.getElem?_set_self (by rw [hlen]; exact h1),List.getElem?_set_self h1]
        ·rw [List.getElem?_eq_none (by simp [hlen]; exact h1),List.getElem?_eq_none (by simpa using h1)]
       ·rw [putT_get e,putT_get e]
        refine htb t fun j p hj hlj hp => ht j p (List.mem_cons_of_mem _ hj) ?_ hp
        rw [getD_set hsz,if_neg (fun e2 => hm (by rw [<- e2]; exact hj))]
        exact hlj
      ·exact hs'
theorem drawAll_ok (hA:Holds A hold) (hT:TabOK P E.T) (hm:P.follows .mixedOrders = true):DrawOK P E hold (drawAll A E):=by
 intro call hcall id ops st k h m a w m0 h0 w0 hr hs
 unfold drawAll at h
 cases hn:neat ops with
 | false => rw [hn] at h; exact (hA.bot h).elim
 | true =>
  rw [hn] at h
  simp only [cond_true] at h
  refine wp_region_any hm ?_
  refine drawGo_ok (m0:=m0) (h0:=h0) (w0:=w0) (Q:=Post E.R (fun e st' => e = .normal /\ hold (k st')) m0 h0 w0) hA hT hcall hn ?_ _ _ _ _ h _ _ m _ _ ?_ ?_
  ·intro m' st' a' w' hk hr' hs'
   exact ⟨m',st',trivial,⟨rfl,hk⟩,hr',hs'⟩
  ·have hW:WR E.R m st.rows { w with drawn:=w.drawn + 1 }:=hr.wr.same rfl
   constructor
   ·intro i hi
    rw [Array.getD_eq_getD_getElem?] at hi
    rcases Nat.lt_or_ge i ops.size with h1 | h1
    ·rw [Array.getElem?_eq_getElem (by simpa using h1)] at hi; simp at hi
    ·rw [Array.getElem?_eq_none (by simpa using h1)] at hi; simp at hi
   ·simp
   ·intro i hi; simp at hi
   ·intro i o hi
    rw [Array.getD_eq_getD_getElem?] at hi
    rcases Nat.lt_or_ge i ops.size with h1 | h1
    ·rw [Array.getElem?_eq_getElem (by simpa using h1)] at hi; simp at hi
    ·rw [Array.getElem?_eq_none (by simpa using h1)] at hi; simp at hi
   ·trivial
   ·intro i hi; simp at hi
   ·exact ⟨st.tmps,rfl,fun _ _ => rfl,hr.size,hr.tmps,hr.defers,hW⟩
   ·exact ⟨hs.os,hs.tape,hs.output,hs.size,hs.block,hs.len,hs.mu,hs.ro,hs.new⟩
  ·unfold cnt
   refine Nat.le_trans List.countP_le_length ?_
   simp
end
end Go.Dc
end
section
namespace Go.Dc
noncomputable section
def vcd (E:Env Prop) (n:Nat) (f:FuncId) (fi:FI) (args:List AV) (h:Rows) (Q:AV -> Rows -> Prop):Prop :=
 code propAns E (drawAll propAns E) n f fi.body ⟨enterT args fi.ntmps,h⟩ fun e st => match e with
  | .normal | .ret => resK propAns E st fi.results fun v => Q v st.rows
  | _ => False
theorem SafeCall.vcd {P:Program} (hm:P.follows .mixedOrders = true) {E:Env Prop} (hE:EnvOK P E id) {f:FuncId} {fi:FI} (hF:E.F f = some fi) {args:List AV} {h:Rows} {Q:AV -> Rows -> Prop} (n:Nat) (hk:Dc.vcd E n f fi args h Q):SafeCall P E.R f args h Q :=
 SafeCall.run hE (drawAll_ok propHolds hE.T hm) hF n hk
def rnd (E:Env Prop) (n:Nat) (f:FuncId) (c:Code) (st:St) (k:Exit -> St -> Prop):Prop:=code propAns E (drawAll propAns E) n f c st k
theorem Safe.rnd {P:Program} (hm:P.follows .mixedOrders = true) {E:Env Prop} (hE:EnvOK P E id) {f:FuncId} {fi:FI} (hF:E.F f = some fi) {i:Nat} {b c:Code} (hb:blockOf fi i = some b) (hc:subs c = subs b) {st:St} {k:Exit -> St -> Prop} (n:Nat)
  (hk:Dc.rnd E n f c st k):Safe P E.R c st k :=
 Safe.run hE (drawAll_ok propHolds hE.T hm) hF hb hc n hk
end
end Go.Dc
end
section
namespace Go.Dc
def noView:Nat -> Option Nat:=fun _ => none
theorem ext_nil (N:Nat):ext noView 0 N = fun c => N + c:=by
 funext c
 exact ext_ge (Nat.zero_le c)
def shiftRows (N:Nat) (h:Rows):Rows:=h.map fun r => match r with | some r => some (renRow (fun c => N + c) r) | none => none
theorem merged_nil (h h':Rows):merged noView 0 0 h h' = h ++ shiftRows h.length h':=by
 unfold merged
 rw [ext_nil]
 refine List.ext_getElem? fun b => ?_
 rw [List.getElem?_map]
 rcases Nat.lt_or_ge b (h.length + h'.length) with hlt | hge
 ·rw [List.getElem?_range hlt]
  simp only [Option.map_some]
  rcases Nat.lt_or_ge b h.length with h1 | h1
  ·rw [List.getElem?_append_left h1]
   have hn:findC (fun c => h.length + c) b h'.length = none:=by
    cases hf:findC (fun c => h.length + c) b h'.length with
    | none => rfl
    | some c => have:=(findC_some hf).2; omega
   rw [hn]
   simp only [seen,cond_false,Rows.live,List.getElem?_eq_getElem h1,Option.join_some]
  ·rw [List.getElem?_append_right h1]
   have hn:findC (fun c => h.length + c) b h'.length = some (b - h.length):=by
    have hb:h.length + (b - h.length) = b:=by omega
    have:=findC_inj (g:=fun c => h.length + c) (c:=b - h.length) (n:=h'.length) (by omega) (fun c' _ he => by omega)
    rw [hb] at this
    exact this
   rw [hn]
   have h2:b - h.length < h'.length:=by omega
   simp only [shiftRows,List.getElem?_map,List.getElem?_eq_getElem h2,Option.map_some,Rows.live,Option.join_some]
   cases h'[b - h.length] <;> rfl
 ·rw [List.getElem?_eq_none (by simpa using hge),List.getElem?_eq_none (by simp [shiftRows]; omega)]
  rfl
theorem SafeCall.fresh {P:Program} {R:Nat -> RoRow} {fn:FuncId} {args:List AV} {Q:AV -> Rows -> Prop} (hs:SafeCall P R fn args [] Q) (hA:VwL noView 0 args args) (h:Rows) :
  SafeCall P R fn args h fun v'' h'' => ∃ v' h',Q v' h' /\ v'' = ren (fun c => h.length + c) v' /\ h'' = h ++ shiftRows h.length h':=by
 have hV:View noView [] h:=⟨fun c b hc => absurd hc (Nat.not_lt_zero _),fun c c' b hc => absurd hc (Nat.not_lt_zero _),fun c r hc => by simp [Rows.live] at hc⟩
 refine (hs.focus hV (argsL:=args) hA).mono ?_
 rintro v'' h'' ⟨v',h',hq,rfl,rfl⟩
 refine ⟨v',h',hq,?_,?_⟩
 ·show ren (ext noView 0 h.length) v' = _
  rw [ext_nil]
 ·exact merged_nil h h'
mutual
/-- Without rows of its own. -/
def gnd:AV -> Bool
 | .ptr ro _ _ _ => ro
 | .sl ro _ _ _ _ => ro
 | .fn _ a c => gndL a && gndL c
 | .ifc _ x => gnd x
 | .agg cs => gndL cs
 | .tup cs => gndL cs
 | .any => true
 | .bool _ => true
 | .int _ _ => true
 | .str _ => true
 | .nilp => true
 | .nils => true
 | .nilf => true
 | .nili => true
def gndL:List AV -> Bool
 | [] => true
 | x :: xs => gnd x && gndL xs
end
mutual
theorem gnd_ren (f:Nat -> Nat):∀ v,gnd v = true -> ren f v = v
 | .ptr ro b i o,h => by simp only [gnd] at h; subst h; rfl
 | .sl ro b i o u,h => by simp only [gnd] at h; subst h; rfl
 | .fn g a c,h => by
  simp only [gnd,Bool.and_eq_true] at h
  simp only [ren,gndL_ren f a h.1,gndL_ren f c h.2]
 | .ifc t x,h => by simp only [gnd] at h; simp only [ren,gnd_ren f x h]
 | .agg cs,h => by simp only [gnd] at h; simp only [ren,gndL_ren f cs h]
 | .tup cs,h => by simp only [gnd] at h; simp only [ren,gndL_ren f cs h]
 | .any,_ => rfl
 | .bool _,_ => rfl
 | .int _ _,_ => rfl
 | .str _,_ => rfl
 | .nilp,_ => rfl
 | .nils,_ => rfl
 | .nilf,_ => rfl
 | .nili,_ => rfl
theorem gndL_ren (f:Nat -> Nat):∀ v,gndL v = true -> renL f v = v
 | [],_ => rfl
 | x :: xs,h => by
  simp only [gndL,Bool.and_eq_true] at h
  simp only [renL,gnd_ren f x h.1,gndL_ren f xs h.2]
end
mutual
theorem gnd_vw (f:Nat -> Option Nat) (n:Nat):∀ v,gnd v = true -> Vw f n v v
 | .ptr ro b i o,h => by simp only [gnd] at h; subst h; simp [Vw]
 | .sl ro b i o u,h => by simp only [gnd] at h; subst h; simp only [Vw]; exact ⟨u,rfl,Cp.le_refl u⟩
 | .fn g a c,h => by
  simp only [gnd,Bool.and_eq_true] at h
  simp only [Vw]
  exact ⟨a,c,rfl,gndL_vw f n a h.1,gndL_vw f n c h.2⟩
 | .ifc t x,h => by simp only [gnd] at h; simp only [Vw]; exact ⟨x,rfl,gnd_vw f n x h⟩
 | .agg cs,h => by simp only [gnd] at h; simp only [Vw]; exact ⟨cs,rfl,gndL_vw f n cs h⟩
 | .tup cs,h => by simp only [gnd] at h; simp only [Vw]; exact ⟨cs,rfl,gndL_vw f n cs h⟩
 | .any,_ => by simp [Vw]
 | .bool _,_ => by simp [Vw]
 | .int _ _,_ => by simp [Vw]
 | .str _,_ => by simp [Vw]
 | .nilp,_ => by simp [Vw]
 | .nils,_ => by simp [Vw]
 | .nilf,_ => by simp [Vw]
 | .nili,_ => by simp [Vw]
theorem gndL_vw (f:Nat -> Option Nat) (n:Nat):∀ v,gndL v = true -> VwL f n v v
 | [],_ => by simp [VwL]
 | x :: xs,h => by
  simp only [gndL,Bool.and_eq_true] at h
  simp only [VwL]
  exact ⟨x,xs,rfl,gnd_vw f n x h.1,gndL_vw f n xs h.2⟩
end
theorem SafeCall.alone {P:Program} {R:Nat -> RoRow} {fn:FuncId} {args:List AV} {Q:AV -> Prop} (hs:SafeCall P R fn args [] fun v _ => Q v) (hA:gndL args = true) (hg:∀ v,Q v -> gnd v = true) (h:Rows) :
  SafeCall P R fn args h fun v' h' => Q v' /\ h' = h:=by
 have h1:=(hs.none (fun v hq => gnd_vw _ _ v (hg v hq))).fresh (gndL_vw _ _ args hA) h
 refine h1.mono ?_
 rintro v'' h'' ⟨v',h',⟨hq,rfl⟩,rfl,rfl⟩
 rw [gnd_ren _ v' (hg v' hq)]
 exact ⟨hq,by simp [shiftRows]⟩
end Go.Dc
end
end
section
section
namespace Go.Dc
open Go.RowKit
theorem Safe.weaken {P:Program} {R:Nat -> RoRow} {c:Code} {f:Nat -> Option Nat} {stE st:St} {Q:Exit -> St -> Prop} (hV:StV f stE st) (hf:∀ c,c < st.rows.length -> f c = some c) (hl:st.rows.length <= stE.rows.length)
  (hs:Safe P R c stE Q):Safe P R c st Q:=by
 intro m a w m0 h0 w0 hr hstep
 exact hs _ a w m0 h0 w0 (hr.view hV) (hstep.forget hV.rows (fun c hc => hf c (Nat.lt_of_lt_of_le hc hstep.len)) (Nat.le_trans hstep.len hl))
theorem loop_block {P:Program} {R:Nat -> RoRow} {body:Code} {I:Type} {fam:I -> St} (mu:I -> Nat) {X:Exit -> St -> Prop} {id:Nat} {i0:I} {st:St} {f:Nat -> Option Nat}
  (hV:StV f (fam i0) st) (hf:∀ c,c < st.rows.length -> f c = some c)
  (hnk:∀ i,st.rows.length <= (fam i).rows.length)
  (hround:∀ i,Safe P R body (fam i) fun e st' => match e with
   | .normal => ∃ i',mu i' < mu i /\ Fit st.rows.length (fam i') st'
   | e => ∃ stE,Fit st.rows.length stE st' /\ X e stE) :
  Safe P R (.block id (.loop body)) st fun e stE => ∃ e0,e = blockExit id e0 /\ X e0 stE:=by
 have h1:Safe P R (.loop body) st fun e st' => ∃ stE,Fit st.rows.length stE st' /\ X e stE :=
  (loop_rule fam mu st.rows.length X hnk hround i0).weaken hV hf (hnk i0)
 have h2:Safe P R (.loop body) st X:=h1.fit fun e st' h => h
 intro m a w m0 h0 w0 hr hs
 refine wp_block (wp_mono (h2 m a w m0 h0 w0 hr hs) ?_)
 rintro e a' w' ⟨m',st',hok,hx,hr',hs'⟩
 cases e with
 | normal => exact ⟨m',st',trivial,⟨.normal,rfl,hx⟩,hr',hs'⟩
 | ret => exact ⟨m',st',trivial,⟨.ret,rfl,hx⟩,hr',hs'⟩
 | exit id' =>
  simp only [Exit.inBlock]
  by_cases hid:id' = id
  ·rw [if_pos hid]
   subst hid
   exact ⟨m',st',trivial,⟨.exit id',by simp [blockExit],hx⟩,hr',hs'⟩
  ·rw [if_neg hid]
   have e:Nat.beq id' id = false:=by rw [Bool.eq_false_iff]; exact fun e => hid (Nat.eq_of_beq_eq_true e)
   exact ⟨m',st',trivial,⟨.exit id',by simp [blockExit,e],hx⟩,hr',hs'⟩
 | goto l => exact hok.elim
 | panic ch => exact hok.elim
 | outgrown => exact hok.elim
end Go.Dc
end
section
namespace Go.Dc
def ones (e:AV):Bool:=e.cells.all AV.one
theorem ones_mem {e:AV} (h:ones e = true):∀ a ∈ e.cells,a.one = true:=by simpa [ones] using h
theorem RowV.lst1 {f:Nat -> Option Nat} {n:Nat} {t z:Nat} {e e':AV} (h1:ones e = true) (h2:Vw f n e e'):RowV f n (.lst t z [e]) (.lst t z [e']) where
 ty:=rfl
 esz:=rfl
 len:=rfl
 get:=fun i x hx => by
  cases i with
  | zero => simp only [Row.get?,List.getElem?_cons_zero,Option.some.injEq] at hx; subst hx; exact ⟨ones_mem h1,e',rfl,h2⟩
  | succ i => simp [Row.get?] at hx
theorem RowV.gen {f:Nat -> Option Nat} {n:Nat} {t z:Nat} {k k':Nat} {g g':Nat -> AV} (hk:k = k') (h:∀ i,i < k -> ones (g i) = true /\ Vw f n (g i) (g' i)):RowV f n (.gen t z k g) (.gen t z k' g') where
 ty:=rfl
 esz:=rfl
 len:=hk
 get:=fun i x hx => by
  subst hk
  simp only [Row.get?] at hx ⊢
  cases hb:Nat.blt i k with
  | false => rw [hb] at hx; simp at hx
  | true =>
   rw [hb] at hx
   simp only [cond_true,Option.some.injEq] at hx
   subst hx
   have hi:i < k:=by simpa [Nat.blt_eq] using hb
   exact ⟨ones_mem (h i hi).1,_,rfl,(h i hi).2⟩
theorem RowV.gnd {f:Nat -> Option Nat} {n:Nat} {t z:Nat} {e:AV} (h1:ones e = true) (h2:Go.Dc.gnd e = true):RowV f n (.lst t z [e]) (.lst t z [e]):=.lst1 h1 (gnd_vw f n e h2)
structure ViewL (f:Nat -> Option Nat) (N:Nat) (h:Rows) (c:Nat) (o:Option Row):Prop where
 row:∀ r,o = some r -> (∃ b r',f c = some b /\ h.live b = some r' /\ RowV f N r r') \/ (f c = none /\ r.len = 0)
 lt:∀ b,f c = some b -> b < h.length
theorem View.of {f:Nat -> Option Nat} {hE h:Rows} (hl:∀ c o,hE[c]? = some o -> ViewL f hE.length h c o) (hi:∀ c c' b,c < hE.length -> c' < hE.length -> f c = some b -> f c' = some b -> c = c'):View f hE h where
 lt:=fun c b hc hb => (hl c _ (List.getElem?_eq_getElem hc)).lt b hb
 inj:=hi
 row:=fun c r hc => by
  unfold Rows.live at hc
  cases ho:hE[c]? with
  | none => rw [ho] at hc; simp at hc
  | some o =>
   rw [ho] at hc
   simp only [Option.join_some] at hc
   subst hc
   exact (hl c _ ho).row r rfl
theorem ViewL.at_ {f:Nat -> Option Nat} {N:Nat} {h:Rows} {c b:Nat} {r r':Row} (hf:f c = some b) (hb:h[b]? = some (some r')) (hr:RowV f N r r'):ViewL f N h c (some r) where
 row:=fun r0 h0 => by cases h0; exact .inl ⟨b,r',hf,by simp [Rows.live,hb],hr⟩
 lt:=fun b' hb' => by
  rw [hf] at hb'
  cases hb'
  exact (List.getElem?_eq_some_iff.1 hb).1
theorem ViewL.void {f:Nat -> Option Nat} {N:Nat} {h:Rows} {c:Nat} {r:Row} (hf:f c = none) (hr:r.len = 0):ViewL f N h c (some r) where
 row:=fun r0 h0 => by cases h0; exact .inr ⟨hf,hr⟩
 lt:=fun b hb => by rw [hf] at hb; simp at hb
theorem VwL.nil {f:Nat -> Option Nat} {n:Nat}:VwL f n [] []:=by simp [VwL]
theorem VwL.cons {f:Nat -> Option Nat} {n:Nat} {x y:AV} {xs ys:List AV} (h1:Vw f n x y) (h2:VwL f n xs ys):VwL f n (x :: xs) (y :: ys):=by
 simp only [VwL]; exact ⟨y,ys,rfl,h1,h2⟩
theorem Vw.anyI {f:Nat -> Option Nat} {n:Nat} {y:AV}:Vw f n .any y:=by simp [Vw]
theorem Vw.intI {f:Nat -> Option Nat} {n:Nat} {k:IntKind} {x:Int}:Vw f n (.int k x) (.int k x):=by simp [Vw]
theorem Vw.intE {f:Nat -> Option Nat} {n:Nat} {k:IntKind} {x y:Int} (h:y = x):Vw f n (.int k x) (.int k y):=by simp [Vw,h]
theorem Vw.boolI {f:Nat -> Option Nat} {n:Nat} {x:Bool}:Vw f n (.bool x) (.bool x):=by simp [Vw]
theorem Vw.strI {f:Nat -> Option Nat} {n:Nat} {x:List UInt8}:Vw f n (.str x) (.str x):=by simp [Vw]
theorem Vw.nilsI {f:Nat -> Option Nat} {n:Nat}:Vw f n .nils .nils:=by simp [Vw]
theorem Vw.ptrI {f:Nat -> Option Nat} {n b b' i o:Nat} (hb:b < n) (hf:f b = some b'):Vw f n (.ptr false b i o) (.ptr false b' i o):=by
 simp only [Vw]; exact ⟨hb,b',hf,rfl⟩
theorem Vw.slI {f:Nat -> Option Nat} {n b b' i len:Nat} {u:Cp} (hb:b < n) (hf:f b = some b'):Vw f n (.sl false b i len u) (.sl false b' i len u):=by
 simp only [Vw]; exact ⟨hb,.inl ⟨b',u,hf,rfl,Cp.le_refl u⟩⟩
theorem Vw.slE {f:Nat -> Option Nat} {n b b' i len:Nat} {u:Cp} (hb:b < n) (hf:f b = some b'):Vw f n (.sl false b i len .no) (.sl false b' i len u):=by
 simp only [Vw]; exact ⟨hb,.inl ⟨b',u,hf,rfl,Cp.no_le u⟩⟩
theorem Vw.slN {f:Nat -> Option Nat} {n b i:Nat} (hb:b < n) (hf:f b = none):Vw f n (.sl false b i 0 .no) .nils:=by
 unfold Vw; exact ⟨hb,.inr ⟨hf,rfl,trivial,rfl⟩⟩
theorem Vw.aggI {f:Nat -> Option Nat} {n:Nat} {x y:List AV} (h:VwL f n x y):Vw f n (.agg x) (.agg y):=by
 simp only [Vw]; exact ⟨y,rfl,h⟩
theorem Vw.tupI {f:Nat -> Option Nat} {n:Nat} {x y:List AV} (h:VwL f n x y):Vw f n (.tup x) (.tup y):=by
 simp only [Vw]; exact ⟨y,rfl,h⟩
theorem Vw.gndI {f:Nat -> Option Nat} {n:Nat} {x:AV} (h:Go.Dc.gnd x = true):Vw f n x x:=gnd_vw f n x h
end Go.Dc
end
section
namespace Go.Dc
def oneV (b:Nat):Nat -> Option Nat:=fun c => bif Nat.beq c 0 then some b else none
def g1 (b N:Nat):Nat -> Nat:=fun c => bif Nat.beq c 0 then b else N + c
theorem ext_one (b N:Nat):ext (oneV b) 1 N = g1 b N:=by
 funext c
 cases c with
 | zero => rfl
 | succ c => exact ext_ge (Nat.succ_le_succ (Nat.zero_le c))
theorem merged_one {b:Nat} {h:Rows} (hb:b < h.length) (o:Option Row) (tl:Rows) :
  merged (oneV b) 1 1 h (o :: tl) = h.set b (o.map (renRow (g1 b h.length))) ++ none :: tl.map (Option.map (renRow (g1 b h.length))):=by
 unfold merged
 rw [ext_one]
 refine List.ext_getElem? fun c => ?_
 rw [List.getElem?_map]
 have gs:∀ k,g1 b h.length (k + 1) = h.length + (k + 1):=fun k => rfl
 have gz:g1 b h.length 0 = b:=rfl
 rcases Nat.lt_or_ge c (h.length + (o :: tl).length) with hlt | hge
 ·rw [List.getElem?_range hlt]
  simp only [Option.map_some]
  simp only [List.length_cons] at hlt ⊢
  rcases Nat.lt_or_ge c h.length with h1 | h1
  ·rw [List.getElem?_append_left (by simpa using h1)]
   by_cases hcb:c = b
   ·subst hcb
    have hf:findC (g1 c h.length) c (tl.length + 1) = some 0:=by
     have:=findC_inj (g:=g1 c h.length) (c:=0) (n:=tl.length + 1) (by omega) (fun c' _ he => by
      cases c' with
      | zero => rfl
      | succ c' => rw [gs,gz] at he; omega)
     rwa [gz] at this
    rw [hf,List.getElem?_set_self h1]
    rfl
   ·have hf:findC (g1 b h.length) c (tl.length + 1) = none:=by
     cases hf:findC (g1 b h.length) c (tl.length + 1) with
     | none => rfl
     | some d =>
      have:=(findC_some hf).2
      cases d with
      | zero => rw [gz] at this; omega
      | succ d => rw [gs] at this; omega
    rw [hf,List.getElem?_set_ne (fun e => hcb e.symm)]
    have hs:seen (oneV b) c 1 = false:=by
     show (match oneV b 0 with | some b' => bif Nat.beq b' c then true else seen (oneV b) c 0 | none => seen (oneV b) c 0) = false
     show (bif Nat.beq b c then true else false) = false
     rw [show Nat.beq b c = false by rw [Bool.eq_false_iff]; exact fun e => hcb (Nat.eq_of_beq_eq_true e).symm]
     rfl
    simp only [hs,cond_false,Rows.live,List.getElem?_eq_getElem h1,Option.join_some]
  ·rw [List.getElem?_append_right (by simpa using h1),List.length_set]
   obtain ⟨d,rfl⟩:∃ d,c = h.length + d:=⟨c - h.length,by omega⟩
   rw [show h.length + d - h.length = d by omega]
   cases d with
   | zero =>
    have hf:findC (g1 b h.length) (h.length + 0) (tl.length + 1) = none:=by
     cases hf:findC (g1 b h.length) (h.length + 0) (tl.length + 1) with
     | none => rfl
     | some d =>
      have:=(findC_some hf).2
      cases d with
      | zero => rw [gz] at this; omega
      | succ d => rw [gs] at this; omega
    rw [hf]
    have hl:h.live (h.length + 0) = none:=by
     unfold Rows.live
     rw [List.getElem?_eq_none (by omega)]
     rfl
    simp only [hl]
    cases seen (oneV b) (h.length + 0) 1 <;> rfl
   | succ d =>
    have hf:findC (g1 b h.length) (h.length + (d + 1)) (tl.length + 1) = some (d + 1):=by
     have:=findC_inj (g:=g1 b h.length) (c:=d + 1) (n:=tl.length + 1) (by omega) (fun c' _ he => by
      cases c' with
      | zero => rw [gs,gz] at he; omega
      | succ c' => rw [gs,gs] at he; omega)
     rwa [gs] at this
    rw [hf]
    simp only [List.getElem?_cons_succ,List.getElem?_map]
    have hd:d < tl.length:=by omega
    simp only [Rows.live,List.getElem?_cons_succ,List.getElem?_eq_getElem hd,Option.join_some,Option.map_some]
 ·rw [List.getElem?_eq_none (by simpa using hge),List.getElem?_eq_none (by simp at hge ⊢; omega)]
  rfl
end Go.Dc
end
section
namespace Go.Dc
theorem live_append {h j:Rows} {c:Nat} (hc:c < h.length):Rows.live (h ++ j) c = h.live c:=by
 unfold Rows.live
 rw [List.getElem?_append_left hc]
theorem WR.prefixView {R:Nat -> RoRow} {m:Map} {h:Rows} {w:World} (hW:WR R m h w) (j:Rows):View some h (h ++ j) where
 lt:=fun c b hc hb => by simp at hb; simp; omega
 inj:=fun c c' b _ _ h1 h2 => by simp at h1 h2; omega
 row:=fun c r hc => by
  rcases hW.idView.row c r hc with ⟨b,r',h1,h2,h3⟩ | ⟨h1,h2⟩
  ·refine .inl ⟨b,r',h1,?_,h3⟩
   rw [live_append (live_lt h2)]
   exact h2
  ·exact .inr ⟨h1,h2⟩
end Go.Dc
end
end
