/- Runs that may panic, and that leave frozen memory behind: what an interpreter on abstract states tells of them. -/
import Derived.Test.YtlhplhncdljicaaDcYi
import Derived.Defers
import Derived.Test.YtlhplhncdljicaaDcZi
import Derived.Recover
import Derived.WideLaws
import Derived.Below
import Derived.Test.YtlhplhncdljicaaDcZf
set_option linter.unusedVariables false
set_option linter.unusedSimpArgs false
section
namespace Go.Dc
private def decF:Nat -> Nat -> Nat × Nat
 | 0,_ => (0,0)
 | f + 1,n => if n % 2 = 0 then ((decF f (n / 2)).1 + 1,(decF f (n / 2)).2) else (0,n / 2)
private def encF:Nat -> Nat -> Nat
 | 0,b => 2 * b + 1
 | a + 1,b => 2 * encF a b
private theorem decF_enc:∀ (a b f:Nat),a < f -> decF f (encF a b) = (a,b)
 | 0,b,f + 1,_ => by
  show (if (2 * b + 1) % 2 = 0 then _ else _) = _
  have e:encF 0 b = 2 * b + 1:=rfl
  rw [e,if_neg (by omega)]
  congr 1; omega
 | a + 1,b,f + 1,h => by
  show (if (2 * encF a b) % 2 = 0 then ((decF f (2 * encF a b / 2)).1 + 1,(decF f (2 * encF a b / 2)).2) else _) = _
  rw [if_pos (by omega)]
  have:2 * encF a b / 2 = encF a b:=by omega
  rw [this,decF_enc a b f (by omega)]
private theorem enc_gt:∀ (a b:Nat),a < encF a b
 | 0,b => by simp only [encF]; omega
 | a + 1,b => by have:=enc_gt a b; simp only [encF]; omega
theorem names_ex:∃ (enc:Nat -> Nat -> Nat) (dec:Nat -> Nat × Nat),∀ a b,dec (enc a b) = (a,b) :=
 ⟨encF,fun n => decF n n,fun a b => decF_enc a b _ (enc_gt a b)⟩
noncomputable def enc:Nat -> Nat -> Nat:=Classical.choose names_ex
noncomputable def dec:Nat -> Nat × Nat:=Classical.choose (Classical.choose_spec names_ex)
theorem dec_enc (a b:Nat):dec (enc a b) = (a,b):=Classical.choose_spec (Classical.choose_spec names_ex) a b
noncomputable def tkLoc:Nat -> Loc
 | 0 => ⟨0,0,3,0,true⟩
 | x + 1 => if x < 9 then ⟨0,0,x + 1,0,true⟩ else ⟨(dec (dec (x - 9)).2).1,(dec (dec (dec (x - 9)).2).2).1,(dec (x - 9)).1,(dec (dec (dec (x - 9)).2).2).2,false⟩
noncomputable def tkName (esz blk off ext:Nat):Nat:=enc esz (enc blk (enc off ext)) + 10
theorem tkLoc_name (esz blk off ext:Nat):tkLoc (tkName esz blk off ext) = ⟨blk,off,esz,ext,false⟩:=by
 unfold tkName
 generalize hn:enc esz (enc blk (enc off ext)) = n
 have e:tkLoc (n + 10) = ⟨(dec (dec n).2).1,(dec (dec (dec n).2).2).1,(dec n).1,(dec (dec (dec n).2).2).2,false⟩:=by
  show (if n + 9 < 9 then (⟨0,0,n + 9 + 1,0,true⟩:Loc) else ⟨(dec (dec (n + 9 - 9)).2).1,(dec (dec (dec (n + 9 - 9)).2).2).1,(dec (n + 9 - 9)).1,(dec (dec (dec (n + 9 - 9)).2).2).2,false⟩) = _
  rw [if_neg (by omega),Nat.add_sub_cancel]
 rw [e,<- hn]
 simp [dec_enc]
theorem tkLoc_nil (z:Nat) (h0:0 < z) (h:z < 10):tkLoc z = ⟨0,0,z,0,true⟩:=by
 obtain ⟨x,rfl⟩:∃ x,z = x + 1:=⟨z - 1,by omega⟩
 have e:x < 9:=by omega
 simp only [tkLoc,if_pos e]
abbrev tok (x len:Nat):AV:=.sl true (x + 15) 0 len .no
abbrev Fz:=Nat -> Option (TypeId × Array Value)
def Fz.le (F G:Fz):Prop:=∀ b x,F b = some x -> G b = some x
theorem Fz.le_refl (F:Fz):F.le F:=fun _ _ h => h
theorem Fz.le_trans {F G H:Fz} (a:F.le G) (b:G.le H):F.le H:=fun x y h => b x y (a x y h)
structure Fz.To (F0:Fz) (m0:Map) (h0:Rows) (w0:World) (F:Fz):Prop where
 le:F0.le F
 new:∀ b x,F b = some x -> F0 b = some x \/ w0.heap.size <= b \/ ∃ c r,h0.live c = some r /\ (m0.mu c).vir = false /\ (m0.mu c).blk = b
theorem Fz.To.refl (F:Fz) (m:Map) (h:Rows) (w:World):F.To m h w F:=⟨F.le_refl,fun _ _ h => .inl h⟩
theorem Fz.To.trans {F0 F F':Fz} {m0 m:Map} {h0 h:Rows} {w0 w:World} (a:F0.To m0 h0 w0 F) (s:Step m0 h0 w0 m h w) (b:F.To m h w F'):F0.To m0 h0 w0 F' where
 le:=Fz.le_trans a.le b.le
 new:=fun k x hk => by
  rcases b.new k x hk with h1 | h1 | ⟨c,r,hc,hv,he⟩
  ·exact a.new k x h1
  ·exact .inr (.inl (Nat.le_trans s.size h1))
  ·rcases s.new c r hc hv with h2 | h2
   ·exact .inr (.inl (he ▸ h2))
   ·obtain ⟨d,r',hd,hdv,hde⟩:=h2
    exact .inr (.inr ⟨d,r',hd,hdv,hde.trans he⟩)
structure FzOK (F:Fz) (m:Map) (h:Rows) (w:World):Prop where
 blk:∀ b ty c,F b = some (ty,c) -> ∃ fz,w.heap[b]? = some (.cells c ty fz)
 apart:∀ b r,h.live b = some r -> (m.mu b).vir = false -> F (m.mu b).blk = none
 ro:∀ i,m.ro (i + 15) = tkLoc i
theorem FzOK.step {F:Fz} {m m':Map} {h h':Rows} {w w':World} (hf:FzOK F m h w) (s:Step m h w m' h' w'):FzOK F m' h' w' where
 blk:=fun b ty c hb => by
  obtain ⟨fz,hw⟩:=hf.blk b ty c hb
  refine ⟨fz,?_⟩
  rw [s.block b (Array.getElem?_eq_some_iff.1 hw).1,hw]
  intro c' r hc hv he
  have:=hf.apart c' r hc hv
  rw [he,hb] at this; cases this
 apart:=fun b r hb hv => by
  rcases s.new b r hb hv with h1 | ⟨c,r',hc,hcv,hce⟩
  ·cases hF:F (m'.mu b).blk with
   | none => rfl
   | some x =>
    obtain ⟨ty,c⟩:=x
    obtain ⟨fz,hw⟩:=hf.blk _ ty c hF
    have:=(Array.getElem?_eq_some_iff.1 hw).1
    omega
  ·rw [<- hce]; exact hf.apart c r' hc hcv
 ro:=fun i => by rw [s.ro]; exact hf.ro i
structure RelX (R:Nat -> RoRow) (ds:List Deferred) (m:Map) (st:St) (a:Act) (w:World):Prop where
 size:a.tmps.size = st.tmps.length
 tmps:∀ (i:Nat) (x:AV),st.tmps[i]? = some x -> ∃ c,a.tmps[i]? = some c /\ Den m st.rows.length x c
 defers:a.defers = ds
 wr:WR R m st.rows w
theorem RelX.of {R:Nat -> RoRow} {m:Map} {st:St} {a:Act} {w:World} (h:Rel R m st a w):RelX R [] m st a w:=⟨h.size,h.tmps,h.defers,h.wr⟩
theorem RelX.to {R:Nat -> RoRow} {m:Map} {st:St} {a:Act} {w:World} (h:RelX R [] m st a w):Rel R m st a w:=⟨h.size,h.tmps,h.defers,h.wr⟩
theorem Act.eval_defers (a:Act) (ds:List Deferred) (x:Operand):({ tmps:=a.tmps,defers:=ds }:Act).eval x = a.eval x:=by cases x <;> rfl
theorem RelX.bare {R:Nat -> RoRow} {ds:List Deferred} {m:Map} {st:St} {a:Act} {w:World} (h:RelX R ds m st a w):Rel R m st { tmps:=a.tmps,defers:=[] } w:=⟨h.size,h.tmps,rfl,h.wr⟩
theorem RelX.ev {R:Nat -> RoRow} {ds:List Deferred} {m:Map} {st:St} {a:Act} {w:World} (h:RelX R ds m st a w) (x:Operand):Den m st.rows.length (st.ev x) (a.eval x):=by
 have:=h.bare.ev x
 rwa [Act.eval_defers] at this
theorem RelX.put {R:Nat -> RoRow} {ds:List Deferred} {m m':Map} {st:St} {a:Act} {w w':World} (h:RelX R ds m st a w) {rows:Rows} (hs:Step m st.rows w m' rows w') (hW:WR R m' rows w') (dst:Option Tmp) {v:AV} {c:Value}
  (hd:Den m' rows.length v c):RelX R ds m' ⟨putT st.tmps dst v,rows⟩ (a.put dst c) w':=by
 have:=h.bare.put hs hW dst hd
 have ht:(Act.put { tmps:=a.tmps,defers:=[] } dst c).tmps = (a.put dst c).tmps:=by cases dst <;> rfl
 have hdf:(a.put dst c).defers = a.defers:=by cases dst <;> rfl
 exact ⟨by rw [<- ht]; exact this.size,by rw [<- ht]; exact this.tmps,by rw [hdf]; exact h.defers,this.wr⟩
theorem RelX.known {R:Nat -> RoRow} {ds:List Deferred} {m:Map} {st:St} {a:Act} {w:World} (h:RelX R ds m st a w) {d:Nat} {b:Bool} (hd:st.tmps.getD d .undef = .bool b):RelX R ds m ⟨st.tmps.set d (.bool b),st.rows⟩ a w:=by
 have:=h.bare.known hd
 exact ⟨this.size,this.tmps,h.defers,this.wr⟩
structure AnsB (α:Type) where
 bot:α
 both:α -> α -> α
 eqv:AV -> AV -> α -> α
 br:Bool -> α -> α -> α
structure HoldsB {α:Type} (A:AnsB α) (hold:α -> Prop):Prop where
 bot:¬ hold A.bot
 both:∀ x y,hold (A.both x y) -> hold x /\ hold y
 eqv:∀ u v x,hold (A.eqv u v x) -> u = v /\ hold x
 br:∀ b x y,hold (A.br b x y) -> (b = true /\ hold x) \/ (b = false /\ hold y)
noncomputable section
section
variable {α:Type} (A:AnsB α) (E:Env α) (call:FuncId -> List AV -> Rows -> (AV -> Rows -> α) -> α)
def stepOp0B (o:Oper) (st:St) (k:St -> α):α :=
 match o.op with
 | .pick c a b => match st.ev c with
  | .bool t => A.br t (k ((setBool st c true).put o.dst (st.ev a))) (k ((setBool st c false).put o.dst (st.ev b)))
  | _ => A.bot
 | .call { callee:=.value f,args,.. } => match st.ev f with
  | .fn g first cap => forceL (first ++ (args.toList.map st.ev ++ cap)) fun as => call g as st.rows fun v rows => forceRows rows fun rows => k ⟨putT st.tmps o.dst v,rows⟩
  | _ => A.bot
 | _ => match evQ E.T E.R st.rows st.ev o with
  | .ok v => k (st.put o.dst v)
  | .ck c v => A.br c (k (st.put o.dst v)) A.bot
  | .no => match evW E.T E.R st.rows st.ev o with
   | .ok c v rows => A.br c (forceRows rows fun rows => k ⟨putT st.tmps o.dst v,rows⟩) A.bot
   | .no => A.bot
def guardOp0B (ops:List Oper) (o:Oper) (st:St) (k:St -> α):α :=
 match o.guard with
 | none => stepOp0B A E call o st k
 | some (j,want) => match (ops[j]?).bind (·.dst) with
  | none => A.bot
  | some d => match st.tmps.getD d .undef with
   | .bool b => A.br b
     (cond want (stepOp0B A E call o ⟨st.tmps.set d (.bool true),st.rows⟩ k) (k (St.put ⟨st.tmps.set d (.bool true),st.rows⟩ o.dst .undef)))
     (cond want (k (St.put ⟨st.tmps.set d (.bool false),st.rows⟩ o.dst .undef)) (stepOp0B A E call o ⟨st.tmps.set d (.bool false),st.rows⟩ k))
   | .tup _ | .int .. | .str _ => k (st.put o.dst .undef)
   | _ => A.bot
def stepOpB (o:Oper) (st:St) (k:St -> α):α :=
 match o.op with
 | .pick c a b => match st.ev c with
  | .bool t => A.br t (setBoolK st c true fun s => s.putK o.dst (st.ev a) k) (setBoolK st c false fun s => s.putK o.dst (st.ev b) k)
  | _ => A.bot
 | .call { callee:=.value f,args,.. } => match st.ev f with
  | .fn g first cap => forceL (first ++ (args.toList.map st.ev ++ cap)) fun as => call g as st.rows fun v rows => forceRows rows fun rows => Dc.putK st.tmps o.dst v fun ts => k ⟨ts,rows⟩
  | _ => A.bot
 | _ => match evQ E.T E.R st.rows st.ev o with
  | .ok v => st.putK o.dst v k
  | .ck c v => A.br c (st.putK o.dst v k) A.bot
  | .no => match evW E.T E.R st.rows st.ev o with
   | .ok c v rows => A.br c (forceRows rows fun rows => forceP v fun v => Dc.putK st.tmps o.dst v fun ts => k ⟨ts,rows⟩) A.bot
   | .no => A.bot
def guardOpB (ops:List Oper) (o:Oper) (st:St) (k:St -> α):α :=
 match o.guard with
 | none => stepOpB A E call o st k
 | some (j,want) => match (ops[j]?).bind (·.dst) with
  | none => A.bot
  | some d => match nthV st.tmps d with
   | .bool b => A.br b
     (setK st.tmps d (.bool true) fun ts => cond want (stepOpB A E call o ⟨ts,st.rows⟩ k) (St.putK ⟨ts,st.rows⟩ o.dst .undef k))
     (setK st.tmps d (.bool false) fun ts => cond want (St.putK ⟨ts,st.rows⟩ o.dst .undef k) (stepOpB A E call o ⟨ts,st.rows⟩ k))
   | .tup _ | .int .. | .str _ => st.putK o.dst .undef k
   | _ => A.bot
def runOpsB (ops:List Oper):List Oper -> St -> (St -> α) -> α
 | [],st,k => k st
 | o :: rest,st,k => guardOpB A E call ops o st fun st => runOpsB ops rest st k
end
section
variable {α:Type} {A:AnsB α} {E:Env α} {call:FuncId -> List AV -> Rows -> (AV -> Rows -> α) -> α}
theorem stepOp_eqB (o:Oper) (st:St) (k:St -> α):stepOpB A E call o st k = stepOp0B A E call o st k:=by
 unfold stepOpB stepOp0B
 simp only [setBoolK_eq,St.putK_eq,Dc.putK_eq,forceP_eq]
theorem guardOp_eqB (ops:List Oper) (o:Oper) (st:St) (k:St -> α):guardOpB A E call ops o st k = guardOp0B A E call ops o st k:=by
 unfold guardOpB guardOp0B
 simp only [St.putK_eq,stepOp_eqB,setK_eq,nthV_eq]
end
section
variable {α:Type} {A:AnsB α} {E:Env α}
def resLB (A:AnsB α) (T:TypeId -> Option TI) (R:Nat -> RoRow) (st:St):List ResultVar -> (List AV -> α) -> α
 | [],k => k []
 | r :: rs,k => match resV T R st r with
  | .ok v => resLB A T R st rs fun vs => k (v :: vs)
  | .ck c v => A.br c (resLB A T R st rs fun vs => k (v :: vs)) A.bot
  | .no => A.bot
def resKB (A:AnsB α) (E:Env α) (st:St) (rs:List ResultVar) (k:AV -> α):α:=resLB A E.T E.R st rs fun vs => k (tupOf vs)
def codeB (A:AnsB α) (E:Env α) (draw:Draw α):Nat -> FuncId -> Code -> St -> (Exit -> St -> α) -> α
 | 0,_,_,_,_ => A.bot
 | n + 1,f,c,st,k =>
  let call:FuncId -> List AV -> Rows -> (AV -> Rows -> α) -> α:=fun g args rows k => match E.calls g with
   | some spec => spec args rows k
   | none => match E.F g with
    | none => A.bot
    | some fi => forceL (enterT args fi.ntmps) fun ts => codeB A E draw n g fi.body ⟨ts,rows⟩ fun e st => match e with
     | .normal | .ret => resKB A E st fi.results fun v => k v st.rows
     | _ => A.bot
  match c with
  | .skip => k .normal st
  | .label _ => k .normal st
  | .seq x y => codeB A E draw n f x st fun e st => match e with | .normal => codeB A E draw n f y st k | e => k e st
  | .cond c x y => match st.ev c with
   | .bool b => A.br b (setBoolK st c true fun st => codeB A E draw n f x st k) (setBoolK st c false fun st => codeB A E draw n f y st k)
   | _ => A.bot
  | .block id body => match E.loops f id with
   | some spec => spec st k
   | none => codeB A E draw n f body st fun e st => match e with
    | .exit id' => bif Nat.beq id' id then k .normal st else k (.exit id') st
    | e => k e st
  | .loop body => codeB A E draw n f body st fun e st => match e with | .normal => codeB A E draw n f (.loop body) st k | e => k e st
  | .exit id => k (.exit id) st
  | .ret => k .ret st
  | .region _ ops false => runOpsB A E call ops.toList ops.toList st fun st => k .normal st
  | .region _ ops true => draw call ops st fun st => k .normal st
  | _ => A.bot
end
section
variable {α:Type} (A:AnsB α) (E:Env α) (call:FuncId -> List AV -> Rows -> (AV -> Rows -> α) -> α) (ops:Array Oper)
def split1B (st:St) (d:Tmp) (k:St -> α):α :=
 match st.tmps.getD d .undef with
 | .bool b => A.br b (k ⟨st.tmps.set d (.bool true),st.rows⟩) (k ⟨st.tmps.set d (.bool false),st.rows⟩)
 | _ => k st
def splitGB (o:Oper) (st:St) (k:St -> α):α :=
 match o.guard with
 | none => k st
 | some (j,_) => match (ops[j]?).bind (·.dst) with
  | none => k st
  | some d => split1B A st d k
def splitPB (o:Oper) (st:St) (k:St -> α):α :=
 match o.op with
 | .pick (.tmp d) _ _ => split1B A st d k
 | _ => k st
def stepWB (o:Oper) (st:St) (k:AV -> Rows -> α):α :=
 match o.op with
 | .assign x => k (st.ev x) st.rows
 | .call { callee:=.value f,args,.. } => match st.ev f with
  | .fn g first cap => forceL (first ++ (args.toList.map st.ev ++ cap)) fun as => call g as st.rows fun v rows => forceRows rows fun rows => k v rows
  | _ => A.bot
 | _ => match evW E.T E.R st.rows st.ev o with
  | .ok c v rows => A.br c (forceRows rows fun rows => k v rows) A.bot
  | .no => A.bot
def guardWB (o:Oper) (st:St) (k:AV -> Rows -> α):α :=
 match o.guard with
 | none => stepWB A E call o st k
 | some (j,want) => match (ops[j]?).bind (·.dst) with
  | none => A.bot
  | some d => match st.tmps.getD d .undef with
   | .bool true => cond want (stepWB A E call o st k) (k .undef st.rows)
   | .bool false => cond want (k .undef st.rows) (stepWB A E call o st k)
   | .tup _ | .int .. | .str _ => k .undef st.rows
   | _ => A.bot
def recheckB (j:Nat) (dst:Option Tmp) (st:St):List (Nat × AV) -> α -> α
 | [],k => k
 | (i,v) :: l,k => match ops[i]? with
  | none => A.bot
  | some o => A.br (ahead ops ops.size i j || (memFree o && !(match dst with | some d => hasN (o.looksAt ops) d | none => false))) (recheckB j dst st l k)
   (match qeval E ops st o with
    | .ok u => A.eqv u v (recheckB j dst st l k)
    | .ck c u => A.br c (A.eqv u v (recheckB j dst st l k)) A.bot
    | .no => A.bot)
def tryLB (onQ:Nat -> Oper -> St -> AV -> α) (onNone:St -> α):List Nat -> St -> α
 | [],st => onNone st
 | i :: is,st => match ops[i]? with
  | none => A.bot
  | some o => splitGB A ops o st fun st => splitPB A o st fun st => match qeval E ops st o with
   | .ok v => onQ i o st v
   | .ck c v => A.br c (onQ i o st v) A.bot
   | .no => tryLB onQ onNone is st
def wAllB (f:Nat -> α):List Nat -> α
 | [] => A.bot
 | [i] => f i
 | i :: is => A.both (f i) (wAllB f is)
def drawGoB (k:St -> α):Nat -> List Nat -> List (Nat × AV) -> St -> α
 | 0,_,_,_ => A.bot
 | n + 1,La,done,st => match readyL ops La with
  | [] => k st
  | i :: is => tryLB A E ops
    (fun i o st v => putK st.tmps o.dst v fun ts => drawGoB k n (i :: La) ((i,v) :: done) ⟨ts,st.rows⟩)
    (fun st => wAllB A (fun i => match ops[i]? with
     | none => A.bot
     | some o => guardWB A E call ops o st fun v rows => putK st.tmps o.dst v fun ts => recheckB A E ops i o.dst ⟨ts,rows⟩ done (drawGoB k n (i :: La) done ⟨ts,rows⟩)) (i :: is))
    (i :: is) st
end
def drawAllB {α:Type} (A:AnsB α) (E:Env α):Draw α:=fun call ops st k => bif neat ops then drawGoB A E call ops k (ops.size + 1) [] [] st else A.bot
end
section
variable {α:Type} {A:AnsB α} {E:Env α} {call:FuncId -> List AV -> Rows -> (AV -> Rows -> α) -> α} {ops:Array Oper} {hold:α -> Prop}
theorem split1_okB (hA:HoldsB A hold) {st:St} {d:Tmp} {k:St -> α} (h:hold (split1B A st d k)):hold (k st):=by
 unfold split1B at h
 split at h
 ·rename_i b hb
  rcases hA.br b _ _ h with ⟨rfl,hk⟩ | ⟨rfl,hk⟩
  ·rwa [set_same hb] at hk
  ·rwa [set_same hb] at hk
 ·exact h
theorem splitG_okB (hA:HoldsB A hold) {o:Oper} {st:St} {k:St -> α} (h:hold (splitGB A ops o st k)):hold (k st):=by
 unfold splitGB at h
 split at h
 ·exact h
 ·split at h
  ·exact h
  ·exact split1_okB hA h
theorem splitP_okB (hA:HoldsB A hold) {o:Oper} {st:St} {k:St -> α} (h:hold (splitPB A o st k)):hold (k st):=by
 unfold splitPB at h
 split at h
 ·exact split1_okB hA h
 ·exact h
theorem tryL_okB (hA:HoldsB A hold) {onQ:Nat -> Oper -> St -> AV -> α} {onNone:St -> α}:∀ {l:List Nat} {st:St},hold (tryLB A E ops onQ onNone l st) ->
  (∃ i ∈ l,∃ o v,ops[i]? = some o /\ (qeval E ops st o).has v /\ hold (onQ i o st v)) \/ hold (onNone st)
 | [],st,h => .inr h
 | i :: is,st,h => by
  unfold tryLB at h
  split at h
  ·exact (hA.bot h).elim
  ·rename_i o ho
   have h:=splitP_okB hA (splitG_okB hA h)
   split at h
   ·rename_i v hv
    exact .inl ⟨i,by simp,o,v,ho,by rw [hv]; rfl,h⟩
   ·rename_i c v hv
    rcases hA.br c _ _ h with ⟨hc,hk⟩ | ⟨_,hk⟩
    ·exact .inl ⟨i,by simp,o,v,ho,by rw [hv]; exact ⟨hc,rfl⟩,hk⟩
    ·exact (hA.bot hk).elim
   ·rcases tryL_okB hA h with ⟨j,hj,r⟩ | hn
    ·exact .inl ⟨j,by simp [hj],r⟩
    ·exact .inr hn
theorem wAll_okB (hA:HoldsB A hold) {f:Nat -> α}:∀ {l:List Nat},hold (wAllB A f l) -> ∀ i ∈ l,hold (f i)
 | [],h,_,_ => (hA.bot h).elim
 | [j],h,i,hi => by
  simp only [List.mem_singleton] at hi
  subst hi; exact h
 | j :: j2 :: js,h,i,hi => by
  unfold wAllB at h
  obtain ⟨h1,h2⟩:=hA.both _ _ h
  rcases List.mem_cons.1 hi with rfl | hi
  ·exact h1
  ·exact wAll_okB hA h2 i hi
theorem recheck_okB (hA:HoldsB A hold) {j:Nat} {dst:Option Tmp} {st:St} {k:α}:∀ {l:List (Nat × AV)},hold (recheckB A E ops j dst st l k) ->
  hold k /\ ∀ i v,(i,v) ∈ l -> ∃ o,ops[i]? = some o /\ (ahead ops ops.size i j = true \/ (memFree o = true /\ ∀ d,dst = some d -> d ∉ o.looksAt ops) \/ (qeval E ops st o).has v)
 | [],h => ⟨h,fun i v hm => by simp at hm⟩
 | (i,v) :: l,h => by
  unfold recheckB at h
  split at h
  ·exact (hA.bot h).elim
  ·rename_i o ho
   have put:∀ {X:Prop},hold (recheckB A E ops j dst st l k) -> (ahead ops ops.size i j = true \/ (memFree o = true /\ ∀ d,dst = some d -> d ∉ o.looksAt ops) \/ (qeval E ops st o).has v) ->
     hold k /\ ∀ i' v',(i',v') ∈ (i,v) :: l -> ∃ o,ops[i']? = some o /\ (ahead ops ops.size i' j = true \/ (memFree o = true /\ ∀ d,dst = some d -> d ∉ o.looksAt ops) \/ (qeval E ops st o).has v'):=by
    intro X h1 h2
    have ih:=recheck_okB hA h1
    refine ⟨ih.1,fun i' v' hm => ?_⟩
    rcases List.mem_cons.1 hm with e | hm
    ·cases e; exact ⟨o,ho,h2⟩
    ·exact ih.2 i' v' hm
   rcases hA.br _ _ _ h with ⟨hc,hk⟩ | ⟨_,hk⟩
   ·refine put (X:=True) hk ?_
    simp only [Bool.or_eq_true,Bool.and_eq_true,Bool.not_eq_true'] at hc
    rcases hc with hc | ⟨hc1,hc2⟩
    ·exact .inl hc
    ·refine .inr (.inl ⟨hc1,?_⟩)
     rintro d rfl hd
     simp only [] at hc2
     rw [hasN_iff.2 hd] at hc2
     exact absurd hc2 (by simp)
   ·split at hk
    ·rename_i u hu
     obtain ⟨e,hk⟩:=hA.eqv _ _ _ hk
     exact put (X:=True) hk (.inr (.inr (by rw [hu]; exact e)))
    ·rename_i c u hu
     rcases hA.br c _ _ hk with ⟨hc,hk⟩ | ⟨_,hk⟩
     ·obtain ⟨e,hk⟩:=hA.eqv _ _ _ hk
      exact put (X:=True) hk (.inr (.inr (by rw [hu]; exact ⟨hc,e⟩)))
     ·exact (hA.bot hk).elim
    ·exact (hA.bot hk).elim
theorem stepW_congrB {o:Oper} {x y:List AV} (h:Agree ops o x y) (rows:Rows) (k:AV -> Rows -> α):stepWB A E call o ⟨x,rows⟩ k = stepWB A E call o ⟨y,rows⟩ k:=by
 have hev:=h.ev rows rows
 have main:evW E.T E.R rows (⟨x,rows⟩:St).ev o = evW E.T E.R rows (⟨y,rows⟩:St).ev o:=evW_congr o hev
 obtain ⟨dst,op,type,pos,after,guard⟩:=o
 cases op
 case assign z =>
  simp only [stepWB]
  rw [hev z (by simp [Op.operands])]
 case call c =>
  obtain ⟨callee,args,ats⟩:=c
  cases callee
  case value f =>
   simp only [stepWB]
   have ha:args.toList.map (⟨x,rows⟩:St).ev = args.toList.map (⟨y,rows⟩:St).ev:=List.map_congr_left fun z hz => hev z (by simp [Op.operands,Call.operands]; exact .inr (by simpa using hz))
   rw [hev f (by simp [Op.operands,Call.operands]),ha]
  all_goals
   simp only [stepWB]
   rw [main]
 all_goals
  simp only [stepWB]
  rw [main]
theorem guardW_congrB {o:Oper} {x y:List AV} (h:Agree ops o x y) (rows:Rows) (k:AV -> Rows -> α):guardWB A E call ops o ⟨x,rows⟩ k = guardWB A E call ops o ⟨y,rows⟩ k:=by
 unfold guardWB
 cases hg:o.guard with
 | none => exact stepW_congrB h rows k
 | some g =>
  obtain ⟨j,want⟩:=g
  simp only []
  cases hd:(ops[j]?).bind (·.dst) with
  | none => rfl
  | some d =>
   simp only []
   rw [h.guard hg hd,stepW_congrB h rows k]
theorem resL_okB {α:Type} {A:AnsB α} {hold:α -> Prop} (hA:HoldsB A hold) {T:TypeId -> Option TI} {R:Nat -> RoRow} {st:St}:∀ {rs:List ResultVar} {k:List AV -> α},hold (resLB A T R st rs k) -> ∃ vs,ResOK T R st rs vs /\ hold (k vs)
 | [],k,h => ⟨[],rfl,h⟩
 | r :: rs,k,h => by
  unfold resLB at h
  split at h
  ·rename_i v hv
   obtain ⟨vs,h1,h2⟩:=resL_okB hA h
   exact ⟨v :: vs,⟨v,vs,rfl,by rw [hv]; rfl,h1⟩,h2⟩
  ·rename_i c v hv
   rcases hA.br c _ _ h with ⟨hc,hk⟩ | ⟨_,hk⟩
   ·obtain ⟨vs,h1,h2⟩:=resL_okB hA hk
    exact ⟨v :: vs,⟨v,vs,rfl,by rw [hv]; exact ⟨hc,rfl⟩,h1⟩,h2⟩
   ·exact (hA.bot hk).elim
  ·exact (hA.bot h).elim
end
def SafeCallX (P:Program) (R:Nat -> RoRow) (f:FuncId) (args:List AV) (h:Rows) (F:Fz) (Q HP:AV -> Rows -> Fz -> Prop):Prop :=
 ∀ m w m0 h0 w0 (F0:Fz) (as:Array Value),DenL m h.length args as.toList -> WR R m h w -> FzOK F m h w -> Step m0 h0 w0 m h w -> F0.To m0 h0 w0 F ->
  Calls P f as w fun e w' => ∃ m' h' F',WR R m' h' w' /\ FzOK F' m' h' w' /\ F0.To m0 h0 w0 F' /\ Step m0 h0 w0 m' h' w' /\
   ((∃ c v,e = .returned c /\ Q v h' F' /\ Den m' h'.length v c) \/ ∃ c v,e = .panicked [{ v:=c,recovered:=false }] /\ HP v h' F' /\ Den m' h'.length v c)
theorem SafeCall.toX {P:Program} {R:Nat -> RoRow} {f:FuncId} {args:List AV} {h:Rows} {F:Fz} {Q:AV -> Rows -> Prop} {Q' HP:AV -> Rows -> Fz -> Prop} (hs:SafeCall P R f args h Q) (hq:∀ v h,Q v h -> Q' v h F):SafeCallX P R f args h F Q' HP:=by
 intro m w m0 h0 w0 F0 as h1 h2 h3 h4 h5
 refine (hs m w m h w as h1 h2 (Step.refl _ _ _)).mono ?_
 rintro e w' ⟨c,v,m',h',rfl,hqq,hd,hW,hS⟩
 exact ⟨m',h',F,hW,h3.step hS,h5,h4.trans hS,.inl ⟨c,v,rfl,hq _ _ hqq,hd⟩⟩
theorem SafeCallX.mono {P:Program} {R:Nat -> RoRow} {f:FuncId} {args:List AV} {h:Rows} {F:Fz} {Q HP Q' HP':AV -> Rows -> Fz -> Prop} (hs:SafeCallX P R f args h F Q HP) (h1:∀ v h F',F.le F' -> Q v h F' -> Q' v h F') (h2:∀ v h F',F.le F' -> HP v h F' -> HP' v h F'):SafeCallX P R f args h F Q' HP':=by
 intro m w m0 h0 w0 F0 as a1 a2 a3 a4 a5
 refine (hs m w m h w F as a1 a2 a3 (Step.refl _ _ _) (.refl _ _ _ _)).mono ?_
 rintro e w' ⟨m',h',F',hW,hF,hl,hS,⟨c,v,rfl,hq,hd⟩ | ⟨c,v,rfl,hq,hd⟩⟩
 ·exact ⟨m',h',F',hW,hF,a5.trans a4 hl,a4.trans hS,.inl ⟨c,v,rfl,h1 _ _ _ hl.le hq,hd⟩⟩
 ·exact ⟨m',h',F',hW,hF,a5.trans a4 hl,a4.trans hS,.inr ⟨c,v,rfl,h2 _ _ _ hl.le hq,hd⟩⟩
def CallOKX {α:Type} (P:Program) (R:Nat -> RoRow) (hold:Fz -> α -> Prop) (HP:AV -> Rows -> Fz -> Prop) (call:FuncId -> List AV -> Rows -> (AV -> Rows -> α) -> α):Prop :=
 ∀ f args h k F, hold F (call f args h k) → SafeCallX P R f args h F (fun v h' F' => hold F' (k v h')) HP ∧ ∃ fn, P.funcs[f]? = some fn ∧ fn.body.isSome = true ∧ (fn.name == "runtime.NumGoroutine") = false
def PanicToX (R:Nat -> RoRow) (ds:List Deferred) (HP:AV -> Rows -> Fz -> Prop) (m0:Map) (h0:Rows) (w0:World) (F0:Fz) (Q:Exit -> Act -> World -> Prop):Prop :=
 ∀ (a:Act) c v m' h' w' F,a.defers = ds -> HP v h' F -> Den m' h'.length v c -> WR R m' h' w' -> FzOK F m' h' w' -> Step m0 h0 w0 m' h' w' -> F0.To m0 h0 w0 F -> Q (.panic [{ v:=c,recovered:=false }]) a w'
def Post1X (R:Nat -> RoRow) (ds:List Deferred) (Q:Exit -> St -> Fz -> Prop) (m0:Map) (h0:Rows) (w0:World) (F0:Fz) (e:Exit) (a:Act) (w:World):Prop :=
 ∃ m st F,(match e with | .normal | .exit _ | .ret => True | _ => False) /\ Q e st F /\ RelX R ds m st a w /\ FzOK F m st.rows w /\ Step m0 h0 w0 m st.rows w /\ F0.To m0 h0 w0 F
def PostX (R:Nat -> RoRow) (ds:List Deferred) (Q:Exit -> St -> Fz -> Prop) (HP:AV -> Rows -> Fz -> Prop) (m0:Map) (h0:Rows) (w0:World) (F0:Fz) (e:Exit) (a:Act) (w:World):Prop :=
 match e with
 | .panic ch => ∃ m h v c F,ch = [{ v:=c,recovered:=false }] /\ HP v h F /\ Den m h.length v c /\ WR R m h w /\ FzOK F m h w /\ Step m0 h0 w0 m h w /\ F0.To m0 h0 w0 F /\ a.defers = ds
 | e => Post1X R ds Q m0 h0 w0 F0 e a w
theorem postX_to (R:Nat -> RoRow) (ds:List Deferred) (Q:Exit -> St -> Fz -> Prop) (HP:AV -> Rows -> Fz -> Prop) (m0:Map) (h0:Rows) (w0:World) (F0:Fz):PanicToX R ds HP m0 h0 w0 F0 (PostX R ds Q HP m0 h0 w0 F0) :=
 fun a c v m' h' w' F hd h1 h2 h3 h4 h5 h6 => ⟨m',h',v,c,F,rfl,h1,h2,h3,h4,h5,h6,hd⟩
theorem PostX.mono {R:Nat -> RoRow} {ds:List Deferred} {Q Q':Exit -> St -> Fz -> Prop} {HP HP':AV -> Rows -> Fz -> Prop} {m0:Map} {h0:Rows} {w0:World} {F0:Fz} (hq:∀ e st F,F0.le F -> Q e st F -> Q' e st F) (hp:∀ v h F,F0.le F -> HP v h F -> HP' v h F) {e:Exit} {a:Act} {w:World} (h:PostX R ds Q HP m0 h0 w0 F0 e a w):PostX R ds Q' HP' m0 h0 w0 F0 e a w:=by
 cases e with
 | panic ch => obtain ⟨m,h,v,c,F,h1,h2,h3,h4,h5,h6,h7,h8⟩:=h; exact ⟨m,h,v,c,F,h1,hp _ _ _ h7.le h2,h3,h4,h5,h6,h7,h8⟩
 | goto l => obtain ⟨_,_,_,h,_⟩:=h; exact h.elim
 | outgrown => obtain ⟨_,_,_,h,_⟩:=h; exact h.elim
 | normal => obtain ⟨m,st,F,h1,h2,h3,h4,h5,h6⟩:=h; exact ⟨m,st,F,h1,hq _ _ _ h6.le h2,h3,h4,h5,h6⟩
 | exit id => obtain ⟨m,st,F,h1,h2,h3,h4,h5,h6⟩:=h; exact ⟨m,st,F,h1,hq _ _ _ h6.le h2,h3,h4,h5,h6⟩
 | ret => obtain ⟨m,st,F,h1,h2,h3,h4,h5,h6⟩:=h; exact ⟨m,st,F,h1,hq _ _ _ h6.le h2,h3,h4,h5,h6⟩
def SafeX (P:Program) (R:Nat -> RoRow) (ds:List Deferred) (c:Code) (st:St) (F:Fz) (Q:Exit -> St -> Fz -> Prop) (HP:AV -> Rows -> Fz -> Prop):Prop :=
 ∀ m a w m0 h0 w0 F0,RelX R ds m st a w -> FzOK F m st.rows w -> Step m0 h0 w0 m st.rows w -> F0.To m0 h0 w0 F -> c.wp P (PostX R ds Q HP m0 h0 w0 F0) a w
theorem SafeX.mono {P:Program} {R:Nat -> RoRow} {ds:List Deferred} {c:Code} {st:St} {F:Fz} {Q Q':Exit -> St -> Fz -> Prop} {HP HP':AV -> Rows -> Fz -> Prop} (h:SafeX P R ds c st F Q HP) (hq:∀ e st F',Q e st F' -> Q' e st F') (hp:∀ v h F',HP v h F' -> HP' v h F'):SafeX P R ds c st F Q' HP' :=
 fun m a w m0 h0 w0 F0 hr hf hs hl => wp_mono (h m a w m0 h0 w0 F0 hr hf hs hl) fun _ _ _ h => h.mono (fun e st F _ => hq e st F) (fun v h F _ => hp v h F)
section
variable {ds:List Deferred} {α:Type} {A:AnsB α} {E:Env α} {call:FuncId -> List AV -> Rows -> (AV -> Rows -> α) -> α} {hold:Fz -> α -> Prop} {P:Program} {HP:AV -> Rows -> Fz -> Prop}
theorem stepOp0_okX (hA:∀ F,HoldsB A (hold F)) (hT:TabOK P E.T) (hcall:CallOKX P E.R hold HP call) {o:Oper} {st:St} {k:St -> α} {F:Fz} (h:hold F (stepOp0B A E call o st k)) {m:Map} {a:Act} {w:World} (hr:RelX E.R ds m st a w)
  (hf:FzOK F m st.rows w) {m0:Map} {h0:Rows} {w0:World} {F0:Fz} (hs:Step m0 h0 w0 m st.rows w) (hl:F0.To m0 h0 w0 F) (K:Act -> World -> Prop) (Q:Exit -> Act -> World -> Prop) (hP:PanicToX E.R ds HP m0 h0 w0 F0 Q)
  (hK:∀ F' m' st' a' w',hold F' (k st') -> RelX E.R ds m' st' a' w' -> FzOK F' m' st'.rows w' -> Step m0 h0 w0 m' st'.rows w' -> F0.To m0 h0 w0 F' -> K a' w'):o.wp P a w K Q:=by
 have hev:=hr.ev
 have quiet:∀ v,(evQ E.T E.R st.rows st.ev o).has v -> hold F (k (st.put o.dst v)) -> o.wp P a w K Q:=by
  intro v hv hk
  obtain ⟨c,hc,hd⟩:=evQ_ok hT hr.wr st.ev a.eval hev o v hv
  unfold Oper.wp
  rw [hc]
  exact hK F m _ _ _ hk (hr.put (Step.refl _ _ _) hr.wr o.dst hd) hf hs hl
 have loud:∀ c v rows,evW E.T E.R st.rows st.ev o = .ok c v rows -> c = true -> hold F (k ⟨putT st.tmps o.dst v,rows⟩) -> o.wp P a w K Q:=by
  intro c v rows hw hc hk
  have:=evW_ok hT hr.wr st.ev a.eval hev o
  rw [hw] at this
  obtain ⟨nx,cv,w',m',hrun,hn,hd,hW,hS⟩:=this hc
  unfold Oper.wp
  rw [hrun]
  cases nx <;> simp only [nextVal] at hn <;> try (cases hn; done)
  ·cases hn
   exact hK F m' _ _ _ hk (hr.put hS hW o.dst hd) (hf.step hS) (hs.trans hS) hl
  ·cases hn
   exact hK F m' _ _ _ hk (hr.put hS hW o.dst hd) (hf.step hS) (hs.trans hS) hl
 have both:hold F (match evQ E.T E.R st.rows st.ev o with
  | .ok v => k (st.put o.dst v)
  | .ck c v => A.br c (k (st.put o.dst v)) A.bot
  | .no => match evW E.T E.R st.rows st.ev o with
   | .ok c v rows => A.br c (forceRows rows fun rows => k ⟨putT st.tmps o.dst v,rows⟩) A.bot
   | .no => A.bot) -> o.wp P a w K Q:=by
  intro h
  cases hq:evQ E.T E.R st.rows st.ev o with
  | ok v => rw [hq] at h; exact quiet v (by rw [hq]; rfl) h
  | ck c v =>
   rw [hq] at h
   rcases (hA _).br c _ _ h with ⟨hc,hk⟩ | ⟨_,hk⟩
   ·exact quiet v (by rw [hq]; exact ⟨hc,rfl⟩) hk
   ·exact ((hA _).bot hk).elim
  | no =>
   rw [hq] at h
   cases hw:evW E.T E.R st.rows st.ev o with
   | no => rw [hw] at h; exact ((hA _).bot h).elim
   | ok c v rows =>
    rw [hw] at h
    rcases (hA _).br c _ _ h with ⟨hc,hk⟩ | ⟨_,hk⟩
    ·exact loud c v rows hw hc (by rw [forceRows_eq] at hk; exact hk)
    ·exact ((hA _).bot hk).elim
 obtain ⟨dst,op,type,pos,after,guard⟩:=o
 cases op
 case pick c x y =>
  simp only [stepOp0B] at h
  have hc:=hev c
  split at h
  ·rename_i t he
   rw [he] at hc
   simp only [Den] at hc
   have hset:RelX E.R ds m (setBool st c t) a w /\ (setBool st c t).rows = st.rows:=by
    cases c with
    | tmp d => exact ⟨hr.known (by simpa [St.ev,nthV_eq] using he),rfl⟩
    | _ => exact ⟨hr,rfl⟩
   have fin:∀ z,hold F (k ((setBool st c t).put dst (st.ev z))) -> (execOp a.eval ⟨dst,.pick c x y,type,pos,after,guard⟩).run P w = .ok (.value (a.eval z)) w -> (⟨dst,.pick c x y,type,pos,after,guard⟩:Oper).wp P a w K Q:=by
    intro z hk hrun
    unfold Oper.wp
    rw [hrun]
    have hS:Step m (setBool st c t).rows w m (setBool st c t).rows w:=Step.refl _ _ _
    refine hK F m _ _ _ hk (hset.1.put hS hset.1.wr dst ?_) (by show FzOK F m (setBool st c t).rows w; rw [hset.2]; exact hf) ?_ hl
    ·rw [hset.2]; exact hev z
    ·show Step m0 h0 w0 m (setBool st c t).rows w
     rw [hset.2]; exact hs
   rcases (hA _).br t _ _ h with ⟨rfl,hk⟩ | ⟨rfl,hk⟩
   ·exact fin x hk (by simp [execOp,hc,asBool,pure,Sem.run])
   ·exact fin y hk (by simp [execOp,hc,asBool,pure,Sem.run])
  ·exact ((hA _).bot h).elim
 case call c =>
  obtain ⟨callee,args,argTypes⟩:=c
  cases callee
  case builtin b => exact both h
  case invoke r mm => exact both h
  case value f =>
   simp only [stepOp0B] at h
   split at h
   ·rename_i g first cap he
    have hf:=hev f
    rw [he] at hf
    simp only [Den] at hf
    obtain ⟨us,vs,hfe,hus,hvs⟩:=hf
    have h:=forced h
    obtain ⟨hsafe,fn,hfn,hbody,hname⟩:=hcall g _ _ _ F h
    have hrun:(execOp a.eval ⟨dst,.call ⟨.value f,args,argTypes⟩,type,pos,after,guard⟩).run P w = .ok (.enter g (us ++ args.map a.eval ++ vs)) w:=by
     simp only [execOp,resolve,Sem.run_bind,Deferred.ofValue,hfe,Sem.run_pure,Result.andThen_ok,invoke,callFunc]
     simp only [program,Sem.run,pure,Result.andThen_ok,hfn,Sem.bind]
     have hb:fn.body.isNone = false:=by cases hbb:fn.body <;> simp_all
     simp [hname,hb,Sem.run]
    unfold Oper.wp
    rw [hrun]
    have hargs:DenL m st.rows.length (first ++ (args.toList.map st.ev ++ cap)) (us ++ args.map a.eval ++ vs).toList:=by
     have app:∀ {l1 l2:List AV} {v1 v2:List Value},DenL m st.rows.length l1 v1 -> DenL m st.rows.length l2 v2 -> DenL m st.rows.length (l1 ++ l2) (v1 ++ v2):=by
      intro l1
      induction l1 with
      | nil => intro l2 v1 v2 h1 h2; simp only [DenL] at h1; subst h1; simpa using h2
      | cons x l1 ih =>
       intro l2 v1 v2 h1 h2
       simp only [DenL] at h1
       obtain ⟨u,us,rfl,hd,hl⟩:=h1
       simp only [List.cons_append,DenL]
       exact ⟨u,_,rfl,hd,ih hl h2⟩
     have hm:DenL m st.rows.length (args.toList.map st.ev) (args.map a.eval).toList:=by simpa using DenL.map_op hev args.toList
     have:=app hus (app hm hvs)
     simpa [List.append_assoc] using this
    refine (hsafe m w m st.rows w F _ hargs hr.wr hf (Step.refl _ _ _) (.refl _ _ _ _)).mono ?_
    rintro e w' ⟨m',h',F',hW,hf',hle,hS,⟨c,v,rfl,hk,hd⟩ | ⟨c,v,rfl,hk,hd⟩⟩
    ·exact hK F' m' _ _ _ (forcedRows hk) (hr.put hS hW dst hd) hf' (hs.trans hS) (hl.trans hs hle)
    ·exact hP a c v m' h' w' F' hr.defers hk hd hW hf' (hs.trans hS) (hl.trans hs hle)
   ·exact ((hA _).bot h).elim
 all_goals exact both h
theorem guardOp0_okX (hA:∀ F,HoldsB A (hold F)) (hT:TabOK P E.T) (hcall:CallOKX P E.R hold HP call) {ops:Array Oper} {o:Oper} {st:St} {k:St -> α} {F:Fz} (h:hold F (guardOp0B A E call ops.toList o st k)) {m:Map} {a:Act} {w:World} (hr:RelX E.R ds m st a w)
  (hf:FzOK F m st.rows w) {m0:Map} {h0:Rows} {w0:World} {F0:Fz} (hs:Step m0 h0 w0 m st.rows w) (hl:F0.To m0 h0 w0 F) (K:Act -> World -> Prop) (Q:Exit -> Act -> World -> Prop) (hP:PanicToX E.R ds HP m0 h0 w0 F0 Q)
  (hK:∀ F' m' st' a' w',hold F' (k st') -> RelX E.R ds m' st' a' w' -> FzOK F' m' st'.rows w' -> Step m0 h0 w0 m' st'.rows w' -> F0.To m0 h0 w0 F' -> K a' w') :
  (Region.wanted o (yielded ops a.tmps) = true /\ o.wp P a w K Q) \/ (Region.wanted o (yielded ops a.tmps) = false /\ K (a.put o.dst undef) w):=by
 unfold guardOp0B at h
 have skip:∀ st':St,RelX E.R ds m st' a w -> st'.rows = st.rows -> hold F (k (St.put st' o.dst .undef)) -> K (a.put o.dst undef) w:=by
  intro st' hr' he hk
  refine hK F m _ _ _ hk (hr'.put (Step.refl _ _ _) hr'.wr o.dst (by simp [Den,DenL,undef])) (by show FzOK F m st'.rows w; rw [he]; exact hf) ?_ hl
  show Step m0 h0 w0 m st'.rows w
  rw [he]; exact hs
 cases hg:o.guard with
 | none =>
  rw [hg] at h
  exact .inl ⟨by simp [Region.wanted,hg],stepOp0_okX hA hT hcall h hr hf hs hl K Q hP hK⟩
 | some g =>
  obtain ⟨j,want⟩:=g
  rw [hg] at h
  simp only [] at h
  cases hd:(ops.toList[j]?).bind (·.dst) with
  | none => rw [hd] at h; exact ((hA _).bot h).elim
  | some d =>
   rw [hd] at h
   simp only [] at h
   have hd':(ops[j]?).bind (·.dst) = some d:=by simpa using hd
   have hev:=hr.ev (.tmp d)
   simp only [St.ev,Act.eval,nthV_eq] at hev
   have hy:∀ v:Value,a.tmps.getD d undef = v -> d < a.tmps.size -> yielded ops a.tmps j = (match v with | .bool b => some b | _ => none):=by
    intro v hv hlt
    unfold yielded
    rw [hd']
    simp only [Option.bind_some]
    rw [Array.getD_eq_getD_getElem?,Array.getElem?_eq_getElem hlt] at hv
    simp only [Option.getD_some] at hv
    rw [Array.getElem?_eq_getElem hlt,hv]
    cases v <;> rfl
   have hylt:¬ d < a.tmps.size -> yielded ops a.tmps j = none:=by
    intro hlt
    unfold yielded
    rw [hd']
    simp only [Option.bind_some]
    rw [Array.getElem?_eq_none (Nat.le_of_not_lt hlt)]
   have hno:∀ v:Value,a.tmps.getD d undef = v -> (∀ b,v ≠ .bool b) -> Region.wanted o (yielded ops a.tmps) = false:=by
    intro v hv hne
    unfold Region.wanted
    rw [hg]
    simp only []
    by_cases hlt:d < a.tmps.size
    ·rw [hy v hv hlt]
     cases v <;> first | rfl | exact absurd rfl (hne _)
    ·rw [hylt hlt]; rfl
   split at h
   ·rename_i b he
    rw [he] at hev
    simp only [Den] at hev
    have hlt:d < a.tmps.size:=by
     rcases Nat.lt_or_ge d a.tmps.size with h1 | h1
     ·exact h1
     ·rw [Array.getD_eq_getD_getElem?,Array.getElem?_eq_none h1] at hev
      simp [undef] at hev
    have hyb:=hy _ hev hlt
    simp only [] at hyb
    have hknown:=hr.known (by simpa [St.ev,nthV_eq] using he)
    have hw:Region.wanted o (yielded ops a.tmps) = (b == want):=by
     unfold Region.wanted
     rw [hg]
     simp only [hyb]
     cases b <;> cases want <;> rfl
    rw [hw]
    rcases (hA _).br b _ _ h with ⟨rfl,hk⟩ | ⟨rfl,hk⟩
    ·rcases hold_cond want _ _ hk with ⟨rfl,hk⟩ | ⟨rfl,hk⟩
     ·exact .inl ⟨rfl,stepOp0_okX hA hT hcall hk hknown hf hs hl K Q hP hK⟩
     ·exact .inr ⟨rfl,skip _ hknown rfl hk⟩
    ·rcases hold_cond want _ _ hk with ⟨rfl,hk⟩ | ⟨rfl,hk⟩
     ·exact .inr ⟨rfl,skip _ hknown rfl hk⟩
     ·exact .inl ⟨rfl,stepOp0_okX hA hT hcall hk hknown hf hs hl K Q hP hK⟩
   ·rename_i he
    rw [he] at hev
    simp only [Den] at hev
    obtain ⟨vs,hv,_⟩:=hev
    exact .inr ⟨hno _ hv (by simp),skip st hr rfl h⟩
   ·rename_i he
    rw [he] at hev
    simp only [Den] at hev
    exact .inr ⟨hno _ hev (by simp),skip st hr rfl h⟩
   ·rename_i he
    rw [he] at hev
    simp only [Den] at hev
    exact .inr ⟨hno _ hev (by simp),skip st hr rfl h⟩
   ·exact ((hA _).bot h).elim
theorem runOps_okX (hA:∀ F,HoldsB A (hold F)) (hT:TabOK P E.T) (hcall:CallOKX P E.R hold HP call) (ops:Array Oper):∀ (l:List Oper) (st:St) (k:St -> α) (F:Fz),hold F (runOpsB A E call ops.toList l st k) ->
  ∀ {m:Map} {a:Act} {w:World},RelX E.R ds m st a w -> FzOK F m st.rows w -> ∀ {m0:Map} {h0:Rows} {w0:World} {F0:Fz},Step m0 h0 w0 m st.rows w -> F0.To m0 h0 w0 F ->
   ∀ (Q:Exit -> Act -> World -> Prop),PanicToX E.R ds HP m0 h0 w0 F0 Q -> (∀ F' m' st' a' w',hold F' (k st') -> RelX E.R ds m' st' a' w' -> FzOK F' m' st'.rows w' -> Step m0 h0 w0 m' st'.rows w' -> F0.To m0 h0 w0 F' -> Q .normal a' w') -> wpList P ops Q l a w
 | [],st,k,F,h,m,a,w,hr,hf,m0,h0,w0,F0,hs,hl,Q,hP,hQ => wpList_nil (hQ F m st a w h hr hf hs hl)
 | o :: l,st,k,F,h,m,a,w,hr,hf,m0,h0,w0,F0,hs,hl,Q,hP,hQ => by
  simp only [runOpsB,guardOp_eqB] at h
  have:=guardOp0_okX hA hT hcall h hr hf hs hl (wpList P ops Q l) Q hP (fun F' m' st' a' w' hk hr' hf' hs' hl' => runOps_okX hA hT hcall ops l st' k F' hk hr' hf' hs' hl' Q hP hQ)
  unfold wpList
  rcases this with ⟨hw,h1⟩ | ⟨hw,h1⟩
  ·rw [if_pos hw]; exact .inl h1
  ·rw [if_neg (by rw [hw]; simp)]; exact h1
end
section
variable {α:Type} {A:AnsB α} {E:Env α} {call:FuncId -> List AV -> Rows -> (AV -> Rows -> α) -> α} {ops:Array Oper} {hold:Fz -> α -> Prop} {P:Program} {HP:AV -> Rows -> Fz -> Prop}
theorem stepW_okX (hA:∀ F,HoldsB A (hold F)) (hT:TabOK P E.T) (hcall:CallOKX P E.R hold HP call) {o:Oper} {st:St} {k:AV -> Rows -> α} {F:Fz} (h:hold F (stepWB A E call o st k)) {m:Map} {a:Act} {w:World} (hr:Rel E.R m st a w)
  (hf:FzOK F m st.rows w) {m0:Map} {h0:Rows} {w0:World} {F0:Fz} (hs:Step m0 h0 w0 m st.rows w) (hl:F0.To m0 h0 w0 F) (K:Act -> World -> Prop) (Q:Exit -> Act -> World -> Prop) (hP:PanicToX E.R [] HP m0 h0 w0 F0 Q)
  (hK:∀ F' m' v rows a' w',hold F' (k v rows) -> Rel E.R m' ⟨putT st.tmps o.dst v,rows⟩ a' w' -> FzOK F' m' rows w' -> Step m0 h0 w0 m' rows w' -> F0.To m0 h0 w0 F' -> K a' w'):o.wp P a w K Q:=by
 have hev:=hr.ev
 have both:hold F (match evW E.T E.R st.rows st.ev o with
   | .ok c v rows => A.br c (forceRows rows fun rows => k v rows) A.bot
   | .no => A.bot) -> o.wp P a w K Q:=by
  intro h
  cases hw:evW E.T E.R st.rows st.ev o with
  | no => rw [hw] at h; exact ((hA _).bot h).elim
  | ok c v rows =>
   rw [hw] at h
   rcases (hA _).br c _ _ h with ⟨hc,hk⟩ | ⟨_,hk⟩
   ·have hk:=forcedRows hk
    have:=evW_ok hT hr.wr st.ev a.eval hev o
    rw [hw] at this
    obtain ⟨nx,cv,w',m',hrun,hn,hd,hW,hS⟩:=this hc
    unfold Oper.wp
    rw [hrun]
    cases nx <;> simp only [nextVal] at hn <;> try (cases hn; done)
    ·cases hn
     exact hK F m' _ _ _ _ hk (hr.put hS hW o.dst hd) (hf.step hS) (hs.trans hS) hl
    ·cases hn
     exact hK F m' _ _ _ _ hk (hr.put hS hW o.dst hd) (hf.step hS) (hs.trans hS) hl
   ·exact ((hA _).bot hk).elim
 obtain ⟨dst,op,type,pos,after,guard⟩:=o
 cases op
 case assign x =>
  simp only [stepWB] at h
  have hrun:(execOp a.eval ⟨dst,.assign x,type,pos,after,guard⟩).run P w = .ok (.value (a.eval x)) w:=rfl
  unfold Oper.wp
  rw [hrun]
  exact hK F m _ _ _ _ h (hr.put (Step.refl _ _ _) hr.wr dst (hev x)) hf hs hl
 case call c =>
  obtain ⟨callee,args,argTypes⟩:=c
  cases callee
  case builtin b => exact both h
  case invoke r mm => exact both h
  case value f =>
   simp only [stepWB] at h
   split at h
   ·rename_i g first cap he
    have hf:=hev f
    rw [he] at hf
    simp only [Den] at hf
    obtain ⟨us,vs,hfe,hus,hvs⟩:=hf
    have h:=forced h
    obtain ⟨hsafe,fn,hfn,hbody,hname⟩:=hcall g _ _ _ F h
    have hrun:(execOp a.eval ⟨dst,.call ⟨.value f,args,argTypes⟩,type,pos,after,guard⟩).run P w = .ok (.enter g (us ++ args.map a.eval ++ vs)) w:=by
     simp only [execOp,resolve,Sem.run_bind,Deferred.ofValue,hfe,Sem.run_pure,Result.andThen_ok,invoke,callFunc]
     simp only [program,Sem.run,pure,Result.andThen_ok,hfn,Sem.bind]
     have hb:fn.body.isNone = false:=by cases hbb:fn.body <;> simp_all
     simp [hname,hb,Sem.run]
    unfold Oper.wp
    rw [hrun]
    have hargs:DenL m st.rows.length (first ++ (args.toList.map st.ev ++ cap)) (us ++ args.map a.eval ++ vs).toList:=by
     have app:∀ {l1 l2:List AV} {v1 v2:List Value},DenL m st.rows.length l1 v1 -> DenL m st.rows.length l2 v2 -> DenL m st.rows.length (l1 ++ l2) (v1 ++ v2):=by
      intro l1
      induction l1 with
      | nil => intro l2 v1 v2 h1 h2; simp only [DenL] at h1; subst h1; simpa using h2
      | cons x l1 ih =>
       intro l2 v1 v2 h1 h2
       simp only [DenL] at h1
       obtain ⟨u,us,rfl,hd,hl⟩:=h1
       simp only [List.cons_append,DenL]
       exact ⟨u,_,rfl,hd,ih hl h2⟩
     have hm:DenL m st.rows.length (args.toList.map st.ev) (args.map a.eval).toList:=by simpa using DenL.map_op hev args.toList
     have:=app hus (app hm hvs)
     simpa [List.append_assoc] using this
    refine (hsafe m w m st.rows w F _ hargs hr.wr hf (Step.refl _ _ _) (.refl _ _ _ _)).mono ?_
    rintro e w' ⟨m',h',F',hW,hf',hle,hS,⟨c,v,rfl,hk,hd⟩ | ⟨c,v,rfl,hk,hd⟩⟩
    ·exact hK F' m' _ _ _ _ (forcedRows hk) (hr.put hS hW dst hd) hf' (hs.trans hS) (hl.trans hs hle)
    ·exact hP a c v m' h' w' F' hr.defers hk hd hW hf' (hs.trans hS) (hl.trans hs hle)
   ·exact ((hA _).bot h).elim
 all_goals exact both h
theorem guardW_okX (hA : ∀ F, HoldsB A (hold F)) (hT : TabOK P E.T) (hcall : CallOKX P E.R hold HP call) {o : Oper} {st : St} {k : AV → Rows → α} {F : Fz} (h : hold F (guardWB A E call ops o st k)) {m : Map} {a : Act} {w : World} (hr : Rel E.R m st a w)
    (hf : FzOK F m st.rows w) {m0 : Map} {h0 : Rows} {w0 : World} {F0 : Fz} (hs : Step m0 h0 w0 m st.rows w) (hl : F0.To m0 h0 w0 F) (K : Act → World → Prop) (Q : Exit → Act → World → Prop) (hP : PanicToX E.R [] HP m0 h0 w0 F0 Q)
    (hK : ∀ F' m' v rows a' w', hold F' (k v rows) → Rel E.R m' ⟨putT st.tmps o.dst v, rows⟩ a' w' → FzOK F' m' rows w' → Step m0 h0 w0 m' rows w' → F0.To m0 h0 w0 F' → K a' w') {i : Nat} (hi : ops[i]? = some o) : wpOp P ops Q i K a w := by
  unfold wpOp
  rw [hi]
  simp only []
  have skip : Region.wanted o (yielded ops a.tmps) = false → hold F (k .undef st.rows) → (if Region.wanted o (yielded ops a.tmps) = true then o.wp P a w K Q ∨ (o.asks P a w ∧ LetsOut Q) else K (a.put o.dst undef) w) := by
    intro hw hk
    rw [hw]
    simp only [Bool.false_eq_true, if_false]
    exact hK F m _ _ _ _ hk (hr.put (Step.refl _ _ _) hr.wr o.dst (by simp [Den, DenL, undef])) hf hs hl
  have run : Region.wanted o (yielded ops a.tmps) = true → hold F (stepWB A E call o st k) → (if Region.wanted o (yielded ops a.tmps) = true then o.wp P a w K Q ∨ (o.asks P a w ∧ LetsOut Q) else K (a.put o.dst undef) w) := by
    intro hw hk
    rw [if_pos hw]
    exact .inl (stepW_okX hA hT hcall hk hr hf hs hl K Q hP hK)
  unfold guardWB at h
  cases hg : o.guard with
  | none =>
    rw [hg] at h
    exact run (by simp [Region.wanted, hg]) h
  | some g =>
    obtain ⟨j, want⟩ := g
    rw [hg] at h
    simp only [] at h
    cases hd : (ops[j]?).bind (·.dst) with
    | none => rw [hd] at h; exact ((hA _).bot h).elim
    | some d =>
      rw [hd] at h
      simp only [] at h
      split at h
      · rename_i he
        have hw := wanted_bool hr hg hd he
        rcases hold_cond want _ _ h with ⟨rfl, hk⟩ | ⟨rfl, hk⟩
        · exact run (by rw [hw]; rfl) hk
        · exact skip (by rw [hw]; rfl) hk
      · rename_i he
        have hw := wanted_bool hr hg hd he
        rcases hold_cond want _ _ h with ⟨rfl, hk⟩ | ⟨rfl, hk⟩
        · exact skip (by rw [hw]; rfl) hk
        · exact run (by rw [hw]; rfl) hk
      all_goals first
        | exact ((hA _).bot h).elim
        | (rename_i he
           exact skip (wanted_not hr hg hd he trivial) h)
theorem drawGo_okX (hA:∀ F,HoldsB A (hold F)) (hT:TabOK P E.T) (hcall:CallOKX P E.R hold HP call) (hn:neat ops = true) {k:St -> α} {Q:Exit -> Act -> World -> Prop} {m0:Map} {h0:Rows} {w0:World} {F0:Fz} (hP:PanicToX E.R [] HP m0 h0 w0 F0 Q)
  (hQ:∀ F m st a w,hold F (k st) -> Rel E.R m st a w -> FzOK F m st.rows w -> Step m0 h0 w0 m st.rows w -> F0.To m0 h0 w0 F -> Q .normal a w) :
  ∀ n La done st F,hold F (drawGoB A E call ops k n La done st) -> ∀ fuel listed m a w,DInv E ops La done st listed m a w m0 h0 w0 -> FzOK F m st.rows w -> F0.To m0 h0 w0 F -> cnt listed <= fuel -> wpAny P .any ops Q fuel listed a w:=by
 intro n
 induction n with
 | zero => intro La done st F h; exact ((hA _).bot h).elim
 | succ n ih =>
  intro La done st F h
  unfold drawGoB at h
  split at h
  ·rename_i hrs
   intro fuel
   induction fuel with
   | zero =>
    intro listed m a w D hf hl hc
    refine any_intro hc (fun hr => hQ F m st a w h (D.done_rel hr) hf D.step hl) ?_
    intro i hi f' hf; omega
   | succ fuel ihf =>
    intro listed m a w D hf hl hc
    refine any_intro hc (fun hr => hQ F m st a w h (D.done_rel hr) hf D.step hl) ?_
    intro i hi f' hf hc'
    cases hf
    obtain ⟨_,_,o,ho,hdep⟩:=ready_spec hi
    by_cases hm:i ∈ La
    ·exact D.pendStep hT hn hi hm fun a' D' => ihf _ m a' w D' hf hl hc'
    ·have:i ∈ readyL ops La:=mem_readyL.2 ⟨(Array.getElem?_eq_some_iff.1 ho).1,hm,o,ho,fun d hd => D.sub d (hdep d hd)⟩
     rw [hrs] at this; simp at this
  ·rename_i i0 is hrs
   rcases tryL_okB (hA F) h with ⟨q,hq,o,v,ho,hv,hk⟩ | hk
   ·intro fuel listed m a w D hf hl hc
    rw [<- hrs] at hq
    exact ih _ _ _ F (by rw [putK_eq] at hk; exact hk) fuel listed m a w (D.quiet hn hq ho hv) hf hl hc
   ·have hall:=wAll_okB (hA F) hk
    have hready0:∀ {listed m a w},DInv E ops La done st listed m a w m0 h0 w0 -> Region.ready .any ops listed ≠ []:=by
     intro listed m a w D hr
     have hi0:i0 ∈ readyL ops La:=by rw [hrs]; simp
     obtain ⟨hlt,hnm,o,ho,hdep⟩:=mem_readyL.1 hi0
     have:i0 ∈ Region.ready .any ops listed:=by
      refine mem_ready.2 ⟨?_,o,ho,fun e he hb => D.noPend hr _ (hdep _ (mem_deps.2 ⟨e,he,hb,rfl⟩))⟩
      have hl:listed.getD i0 false = false:=by
       cases hh:listed.getD i0 false with
       | true => exact absurd (D.sub i0 hh) hnm
       | false => rfl
      have hsz:i0 < listed.size:=by rw [D.size]; exact hlt
      rw [Array.getD_eq_getD_getElem?,Array.getElem?_eq_getElem hsz] at hl ⊢
      simpa using hl
     rw [hr] at this; simp at this
    intro fuel
    induction fuel with
    | zero =>
     intro listed m a w D hf hl hc
     refine any_intro hc (fun hr => absurd hr (hready0 D)) ?_
     intro i hi f' hf; omega
    | succ fuel ihf =>
     intro listed m a w D hf hl hc
     refine any_intro hc (fun hr => absurd hr (hready0 D)) ?_
     intro i hi f' hf hc'
     cases hf
     obtain ⟨hl1,hlst,o,ho,hdep⟩:=ready_spec hi
     by_cases hm:i ∈ La
     ·exact D.pendStep hT hn hi hm fun a' D' => ihf _ m a' w D' hf hl hc'
     ·have hi2:i ∈ readyL ops La:=mem_readyL.2 ⟨(Array.getElem?_eq_some_iff.1 ho).1,hm,o,ho,fun d hd => D.sub d (hdep d hd)⟩
      have hw:=hall i (by rw [<- hrs]; exact hi2)
      rw [ho] at hw
      simp only [] at hw
      obtain ⟨tb,hlen,htb,hrel⟩:=D.rel
      have hag:=D.agree hn ho hdep htb
      rw [<- guardW_congrB hag st.rows] at hw
      refine guardW_okX hA hT hcall hw hrel hf D.step hl _ Q hP ?_ ho
      intro F' m' v rows a' w' hk' hrel' hf' hs' hl'
      have hk':=(show hold F' _ by rw [putK_eq] at hk'; exact hk')
      obtain ⟨hgo,hre⟩:=recheck_okB (hA F') hk'
      refine ih _ _ _ F' hgo _ _ m' a' w' ?_ hf' hl' hc'
      have hsz:i < listed.size:=by rw [D.size]; exact (Array.getElem?_eq_some_iff.1 ho).1
      have nodst:∀ j p,j ∈ La -> listed.getD j false = false -> ops[j]? = some p -> ∀ d,p.dst = some d -> o.dst ≠ some d:=by
       intro j p hj hlj hp d hd hod
       obtain ⟨p',u,hp',_,hqe,_⟩:=D.pend j hj hlj
       rw [hp] at hp'; cases hp'
       have hne:j ≠ i:=fun e => hm (e ▸ hj)
       have:=hdep j ((neat_look hn hp ho hd (qeval_has hqe).1).2 hne hod)
       rw [hlj] at this; exact absurd this (by simp)
      constructor
      ·intro j hj
       rw [getD_set hsz] at hj
       by_cases e:j = i
       ·subst e; simp
       ·rw [if_neg e] at hj; exact List.mem_cons_of_mem _ (D.sub j hj)
      ·simp [D.size]
      ·intro j hj
       rcases List.mem_cons.1 hj with rfl | hj
       ·exact (Array.getElem?_eq_some_iff.1 ho).1
       ·exact D.inb j hj
      ·intro j p hj hp d hd
       rw [getD_set hsz] at hj ⊢
       by_cases e:d = i
       ·rw [if_pos e]
       ·rw [if_neg e]
        by_cases e2:j = i
        ·subst e2
         rw [ho] at hp; cases hp
         exact hdep d hd
        ·rw [if_neg e2] at hj
         exact D.closed j p hj hp d hd
      ·exact ⟨⟨o,ho,fun d hd => D.sub d (hdep d hd)⟩,D.ord⟩
      ·intro j hj hlj
       rw [getD_set hsz] at hlj
       by_cases e:j = i
       ·rw [if_pos e] at hlj; exact absurd hlj (by simp)
       ·rw [if_neg e] at hlj
        have hj:j ∈ La:=by
         rcases List.mem_cons.1 hj with e2 | hj
         ·exact absurd e2 e
         ·exact hj
        obtain ⟨p,u,hp,hdone,hqe,hdst⟩:=D.pend j hj hlj
        obtain ⟨p',hp',hcase⟩:=hre j u hdone
        rw [hp] at hp'; cases hp'
        refine ⟨p,u,hp,hdone,?_,?_⟩
        ·rcases hcase with h1 | ⟨h1,h2⟩ | h1
         ·have:=ahead_mem D.closed ops.size j i (fun o' ho' => by rw [ho] at ho'; cases ho'; exact hdep) h1
          rw [hlj] at this; exact absurd this (by simp)
         ·rw [qeval_mem h1 rows st.rows,qeval_congr (agree_put h2) st.rows]
          exact hqe
         ·exact h1
        ·intro d hd hlt
         simp only [] at hlt
         rw [putT_length] at hlt
         rw [putT_get (nodst j p hj hlj hp d hd)]
         exact hdst d hd hlt
      ·refine ⟨putT tb o.dst v,by rw [putT_length,putT_length,hlen],?_,hrel'⟩
       intro t ht
       by_cases e:o.dst = some t
       ·rw [e]
        simp only [putT]
        rcases Nat.lt_or_ge t st.tmps.length with h1 | h1
        ·rw [List.getElem?_set_self (by rw [hlen]; exact h1),List.getElem?_set_self h1]
        ·rw [List.getElem?_eq_none (by simp [hlen]; exact h1),List.getElem?_eq_none (by simpa using h1)]
       ·rw [putT_get e,putT_get e]
        refine htb t fun j p hj hlj hp => ht j p (List.mem_cons_of_mem _ hj) ?_ hp
        rw [getD_set hsz,if_neg (fun e2 => hm (by rw [<- e2]; exact hj))]
        exact hlj
      ·exact hs'
end
def DrawOKX {α:Type} (P:Program) (E:Env α) (ds:List Deferred) (hold:Fz -> α -> Prop) (HP:AV -> Rows -> Fz -> Prop) (draw:Draw α):Prop :=
 ∀ call,CallOKX P E.R hold HP call -> ∀ id ops st (k:St -> α) F,hold F (draw call ops st k) -> ∀ m a w m0 h0 w0 F0,RelX E.R ds m st a w -> FzOK F m st.rows w -> Step m0 h0 w0 m st.rows w -> F0.To m0 h0 w0 F ->
  (Code.region id ops true).wp P (PostX E.R ds (fun e st' F' => e = .normal /\ hold F' (k st')) HP m0 h0 w0 F0) a w
section
variable {α:Type} {A:AnsB α} {E:Env α} {hold:Fz -> α -> Prop} {P:Program} {HP:AV -> Rows -> Fz -> Prop}
theorem drawAll_okX (hA:∀ F,HoldsB A (hold F)) (hT:TabOK P E.T) (hm:P.follows .mixedOrders = true):DrawOKX P E [] hold HP (drawAllB A E):=by
 intro call hcall id ops st k F h m a w m0 h0 w0 F0 hr hf hs hl
 have hr:=hr.to
 unfold drawAllB at h
 cases hn:neat ops with
 | false => rw [hn] at h; exact ((hA _).bot h).elim
 | true =>
  rw [hn] at h
  simp only [cond_true] at h
  refine wp_region_any hm ?_
  refine drawGo_okX (m0:=m0) (h0:=h0) (w0:=w0) (F0:=F0) (Q:=PostX E.R [] (fun e st' F' => e = .normal /\ hold F' (k st')) HP m0 h0 w0 F0) hA hT hcall hn (postX_to _ _ _ _ _ _ _ _) ?_ _ _ _ _ _ h _ _ m _ _ ?_ ?_ hl ?_
  ·intro F' m' st' a' w' hk hr' hf' hs' hl'
   exact ⟨m',st',F',trivial,⟨rfl,hk⟩,.of hr',hf',hs',hl'⟩
  ·have hW:WR E.R m st.rows { w with drawn:=w.drawn + 1 }:=hr.wr.same rfl
   constructor
   ·intro i hi
    rw [Array.getD_eq_getD_getElem?] at hi
    rcases Nat.lt_or_ge i ops.size with h1 | h1
    ·rw [Array.getElem?_eq_getElem (by simpa using h1)] at hi; simp at hi
    ·rw [Array.getElem?_eq_none (by simpa using h1)] at hi; simp at hi
   ·simp
   ·intro i hi; simp at hi
   ·intro i o hi
    rw [Array.getD_eq_getD_getElem?] at hi
    rcases Nat.lt_or_ge i ops.size with h1 | h1
    ·rw [Array.getElem?_eq_getElem (by simpa using h1)] at hi; simp at hi
    ·rw [Array.getElem?_eq_none (by simpa using h1)] at hi; simp at hi
   ·trivial
   ·intro i hi; simp at hi
   ·exact ⟨st.tmps,rfl,fun _ _ => rfl,hr.size,hr.tmps,hr.defers,hW⟩
   ·exact ⟨hs.os,hs.tape,hs.output,hs.size,hs.block,hs.len,hs.mu,hs.ro,hs.new⟩
  ·exact ⟨hf.blk,hf.apart,hf.ro⟩
  ·unfold cnt
   refine Nat.le_trans List.countP_le_length ?_
   simp
end
theorem SafeCallX.of_body {P:Program} {T:TypeId -> Option TI} (hT:TabOK P T) {R:Nat -> RoRow} {f:FuncId} {fi:FI} (hF:FnOK P f fi) {args:List AV} {h:Rows} {F:Fz} {Q HP:AV -> Rows -> Fz -> Prop}
  (hb:SafeX P R [] fi.body ⟨enterT args fi.ntmps,h⟩ F (fun e st F' => (e = .normal \/ e = .ret) /\ ∃ vs,ResOK T R st fi.results vs /\ Q (tupOf vs) st.rows F') HP):SafeCallX P R f args h F Q HP:=by
 obtain ⟨fn,hfn,hbody,hnt,hres,hname⟩:=hF.fn
 intro m w m0 h0 w0 F0 as has hW hf hS hTo
 refine calls_of_wp hfn hbody ?_
 have hlen:=has.length
 simp only [Array.length_toList] at hlen
 have hrel:Rel R m ⟨enterT args fi.ntmps,h⟩ { tmps:=as ++ Array.replicate (fn.ntmps - as.size) undef,defers:=[] } w:=by
  refine ⟨by simp [enterT,hnt,hlen],?_,rfl,hW⟩
  intro i x hx
  simp only [enterT] at hx
  by_cases hi:i < args.length
  ·rw [List.getElem?_append_left hi] at hx
   obtain ⟨c,hc,hd⟩:=has.get hx
   have hi2:i < as.size:=by omega
   refine ⟨c,?_,hd⟩
   rw [Array.getElem?_append_left hi2]
   simpa using hc
  ·rw [List.getElem?_append_right (by omega)] at hx
   have hx2:=List.getElem?_eq_some_iff.1 hx
   obtain ⟨hlt,hxe⟩:=hx2
   simp at hlt hxe
   subst hxe
   refine ⟨undef,?_,by simp [Den,DenL,undef]⟩
   rw [Array.getElem?_append_right (by omega)]
   rw [Array.getElem?_replicate]
   rw [if_pos (by omega)]
 have good:∀ m' st' F' a' w',(∃ vs,ResOK T R st' fi.results vs /\ Q (tupOf vs) st'.rows F') -> RelX R [] m' st' a' w' -> FzOK F' m' st'.rows w' -> Step m0 h0 w0 m' st'.rows w' -> F0.To m0 h0 w0 F' ->
   a'.defers = [] /\ ∃ v,(results fn a'.tmps).run P w' = .ok v w' /\ ∃ m' h' F',WR R m' h' w' /\ FzOK F' m' h' w' /\ F0.To m0 h0 w0 F' /\ Step m0 h0 w0 m' h' w' /\
    ((∃ c v',Ending.returned v = .returned c /\ Q v' h' F' /\ Den m' h'.length v' c) \/ ∃ c v',Ending.returned v = .panicked [{ v:=c,recovered:=false }] /\ HP v' h' F' /\ Den m' h'.length v' c):=by
  rintro m' st' F' a' w' ⟨vs,hvs,hq⟩ hr' hf' hs' hl'
  have hr':=hr'.to
  obtain ⟨c,hfin,hden⟩:∃ c,(results fn a'.tmps).run P w' = .ok c w' /\ Den m' st'.rows.length (tupOf vs) c:=by
   have hres':∃ F:ResultVar -> Sem Value,(∀ t,F (.tmp t) = pure (a'.tmps.getD t undef)) /\ (∀ x t,F (.cell x t) = do loadVar t (<- asAddr (a'.tmps.getD x undef))) /\
     results fn a'.tmps = (do let vs <- fn.results.mapM F; pure (if h:vs.size = 1 then vs[0] else .tuple vs)):=⟨_,fun _ => rfl,fun _ _ => rfl,rfl⟩
   obtain ⟨F,hF1,hF2,hres'⟩:=hres'
   rw [hres',hres]
   simp only [Sem.run_bind]
   rw [List.mapM_toArray]
   simp only [Sem.run_map]
   obtain ⟨cs,hcs,hd⟩:=res_run hT hr' F hF1 hF2 hvs
   rw [hcs]
   simp only [Result.andThen_ok,Sem.run_pure]
   refine ⟨_,rfl,?_⟩
   cases vs with
   | nil =>
    simp only [DenL] at hd
    subst hd
    simp [tupOf,Den,DenL]
   | cons v vs =>
    simp only [DenL] at hd
    obtain ⟨u,us,rfl,h1,h2⟩:=hd
    cases vs with
    | nil =>
     simp only [DenL] at h2
     subst h2
     simpa [tupOf] using h1
    | cons v2 vs =>
     simp only [DenL] at h2
     obtain ⟨u2,us,rfl,h2,h3⟩:=h2
     simp only [tupOf,Den]
     refine ⟨(u :: u2 :: us).toArray,by simp,?_⟩
     simp only [DenL]
     exact ⟨u,_,rfl,h1,u2,us,rfl,h2,h3⟩
  exact ⟨hr'.defers,_,hfin,m',st'.rows,F',hr'.wr,hf',hl',hs',.inl ⟨_,_,rfl,hq,hden⟩⟩
 refine wp_mono (hb m _ w m0 h0 w0 F0 (.of hrel) hf hS hTo) ?_
 intro e a' w' hpost
 cases e with
 | panic ch => obtain ⟨m',h',v,c,F',rfl,h2,h3,h4,h5,h6,h7,h8⟩:=hpost; exact ⟨h8,m',h',F',h4,h5,h7,h6,.inr ⟨c,v,rfl,h2,h3⟩⟩
 | exit id => obtain ⟨_,_,_,_,⟨he,_⟩,_⟩:=hpost; cases he with | inl h => cases h | inr h => cases h
 | goto l => obtain ⟨_,_,_,h,_⟩:=hpost; exact h.elim
 | outgrown => obtain ⟨_,_,_,h,_⟩:=hpost; exact h.elim
 | normal => obtain ⟨m',st',F',hok,⟨he,hv⟩,hr',hf',hs',hl'⟩:=hpost; exact good m' st' F' _ _ hv hr' hf' hs' hl'
 | ret => obtain ⟨m',st',F',hok,⟨he,hv⟩,hr',hf',hs',hl'⟩:=hpost; exact good m' st' F' _ _ hv hr' hf' hs' hl'
structure EnvOKX {α:Type} (P:Program) (E:Env α) (ds:List Deferred) (hold:Fz -> α -> Prop) (HP:AV -> Rows -> Fz -> Prop):Prop where
 T:TabOK P E.T
 F:∀ f fi,E.F f = some fi -> FnOK P f fi
 calls : ∀ f spec, E.calls f = some spec → ∀ args h k F, hold F (spec args h k) → SafeCallX P E.R f args h F (fun v h' F' => hold F' (k v h')) HP ∧ ∃ fn, P.funcs[f]? = some fn ∧ fn.body.isSome = true ∧ (fn.name == "runtime.NumGoroutine") = false
 loops:∀ f id spec,E.loops f id = some spec -> ∀ body,(id,body) ∈ E.subsOf f -> ∀ st k F,hold F (spec st k) -> SafeX P E.R ds (.block id body) st F (fun e st' F' => hold F' (k e st')) HP
section
variable {α:Type} {A:AnsB α} {E:Env α} {draw:Draw α} {hold:Fz -> α -> Prop} {P:Program} {HP:AV -> Rows -> Fz -> Prop} {ds:List Deferred}
theorem code_okX (hA : ∀ F, HoldsB A (hold F)) (hE0 : EnvOKX P E [] hold HP) (hE : EnvOKX P E ds hold HP) (hD0 : DrawOKX P E [] hold HP draw) (hD : DrawOKX P E ds hold HP draw) : ∀ (n : Nat) (ds' : List Deferred), (ds' = [] ∨ ds' = ds) → ∀ (f : FuncId) (c : Code) (st : St) (k : Exit → St → α) (F : Fz), (∀ p ∈ subs c, p ∈ E.subsOf f) → hold F (codeB A E draw n f c st k) →
    SafeX P E.R ds' c st F (fun e st' F' => hold F' (k e st')) HP := by
  intro n
  induction n using Nat.strongRecOn with
  | ind n IH =>
   cases n with
   | zero => intro ds' _ f c st k F _ h; exact ((hA _).bot h).elim
   | succ n =>
    have ih := IH n (Nat.lt_succ_self n)
    intro ds' hds f c st k F hsub h
    have hE' : EnvOKX P E ds' hold HP := by rcases hds with rfl | rfl <;> assumption
    have hD' : DrawOKX P E ds' hold HP draw := by rcases hds with rfl | rfl <;> assumption
    -- the calls
    have hcall : CallOKX P E.R hold HP (fun g args rows k => match E.calls g with
      | some spec => spec args rows k
      | none => match E.F g with
        | none => A.bot
        | some fi => forceL (enterT args fi.ntmps) fun ts => codeB A E draw n g fi.body ⟨ts, rows⟩ fun e st => match e with
          | .normal | .ret => resKB A E st fi.results fun v => k v st.rows
          | _ => A.bot) := by
      intro g args rows k F hk
      simp only [] at hk
      cases hc : E.calls g with
      | some spec => rw [hc] at hk; exact hE0.calls g spec hc args rows k F hk
      | none =>
        rw [hc] at hk
        simp only [] at hk
        cases hf : E.F g with
        | none => rw [hf] at hk; exact ((hA _).bot hk).elim
        | some fi =>
          rw [hf] at hk
          have hk := forced hk
          have hF := hE0.F g fi hf
          have hb := ih [] (.inl rfl) g fi.body _ _ F (fun p hp => by unfold Env.subsOf; rw [hf]; exact hp) hk
          obtain ⟨fn, h1, h2, h3, h4, h5⟩ := hF.fn
          refine ⟨SafeCallX.of_body hE0.T hF (hb.mono ?_ (fun _ _ _ h => h)), fn, h1, by rw [h2]; rfl, h5⟩
          intro e st' F' he
          cases e <;> first
            | exact ⟨.inl rfl, resL_okB (hA F') he⟩
            | exact ⟨.inr rfl, resL_okB (hA F') he⟩
            | exact ((hA _).bot he).elim
    intro m a w m0 h0 w0 F0 hr hf hs hl
    cases c with
    | skip => exact wp_skip ⟨m, st, F, trivial, h, hr, hf, hs, hl⟩
    | label l => exact wp_label ⟨m, st, F, trivial, h, hr, hf, hs, hl⟩
    | exit id => exact wp_exit ⟨m, st, F, trivial, h, hr, hf, hs, hl⟩
    | ret => exact wp_ret ⟨m, st, F, trivial, h, hr, hf, hs, hl⟩
    | seq x y =>
      have hx := ih ds' hds f x st _ F (fun p hp => hsub p (by simp [subs, hp])) h
      refine wp_seq (wp_mono (hx m a w m0 h0 w0 F0 hr hf hs hl) ?_)
      intro e a' w' hpost
      cases e with
      | panic ch => exact hpost
      | goto l => obtain ⟨_, _, _, h, _⟩ := hpost; exact h.elim
      | outgrown => obtain ⟨_, _, _, h, _⟩ := hpost; exact h.elim
      | normal => obtain ⟨m', st', F', hok, hq, hr', hf', hs', hl'⟩ := hpost; exact ih ds' hds f y st' k F' (fun p hp => hsub p (by simp [subs, hp])) hq m' a' w' m0 h0 w0 F0 hr' hf' hs' hl'
      | _ => exact hpost
    | cond x y z =>
      have hev := hr.ev x
      simp only [codeB, setBoolK_eq] at h
      split at h
      · rename_i b he
        rw [he] at hev
        simp only [Den] at hev
        have hset : RelX E.R ds' m (setBool st x b) a w ∧ (setBool st x b).rows = st.rows := by
          cases x with
          | tmp d => exact ⟨hr.known (by simpa [St.ev, nthV_eq] using he), rfl⟩
          | _ => exact ⟨hr, rfl⟩
        rcases (hA _).br b _ _ h with ⟨rfl, hk⟩ | ⟨rfl, hk⟩
        · exact wp_cond_true hev (ih ds' hds f y _ k F (fun p hp => hsub p (by simp [subs, hp])) hk m a w m0 h0 w0 F0 hset.1 (by rw [hset.2]; exact hf) (by rw [hset.2]; exact hs) hl)
        · exact wp_cond_false hev (ih ds' hds f z _ k F (fun p hp => hsub p (by simp [subs, hp])) hk m a w m0 h0 w0 F0 hset.1 (by rw [hset.2]; exact hf) (by rw [hset.2]; exact hs) hl)
      · exact ((hA _).bot h).elim
    | block id body =>
      simp only [codeB] at h
      cases hlp : E.loops f id with
      | some spec =>
        rw [hlp] at h
        exact hE'.loops f id spec hlp body (hsub _ (by simp [subs])) st k F h m a w m0 h0 w0 F0 hr hf hs hl
      | none =>
        rw [hlp] at h
        have hb := ih ds' hds f body st _ F (fun p hp => hsub p (by simp [subs, hp])) h
        refine wp_block (wp_mono (hb m a w m0 h0 w0 F0 hr hf hs hl) ?_)
        intro e a' w' hpost
        cases e with
        | panic ch => exact hpost
        | goto l => obtain ⟨_, _, _, h, _⟩ := hpost; exact h.elim
        | outgrown => obtain ⟨_, _, _, h, _⟩ := hpost; exact h.elim
        | normal => exact hpost
        | ret => exact hpost
        | exit id' =>
          obtain ⟨m', st', F', hok, hq, hr', hf', hs', hl'⟩ := hpost
          simp only [Exit.inBlock]
          by_cases hid : id' = id
          · rw [if_pos hid]
            subst hid
            simp only [Nat.beq_refl, cond_true] at hq
            exact ⟨m', st', F', trivial, hq, hr', hf', hs', hl'⟩
          · rw [if_neg hid]
            have : Nat.beq id' id = false := by rw [Bool.eq_false_iff]; exact fun e => hid (Nat.eq_of_beq_eq_true e)
            simp only [this, cond_false] at hq
            exact ⟨m', st', F', trivial, hq, hr', hf', hs', hl'⟩
    | loop body =>
      -- rounds
      have key : ∀ (j : Nat), j ≤ n + 1 → ∀ (st : St) F, hold F (codeB A E draw j f (.loop body) st k) → ∀ m a w, RelX E.R ds' m st a w → FzOK F m st.rows w → Step m0 h0 w0 m st.rows w → F0.To m0 h0 w0 F →
          Code.rounds P body (PostX E.R ds' (fun e st' F' => hold F' (k e st')) HP m0 h0 w0 F0) j a w := by
        intro j
        induction j with
        | zero => intro _ st F h m a w _ _; exact ((hA _).bot h).elim
        | succ j ihj =>
          intro hj st F h m a w hr hf hs hl
          rw [rounds_succ]
          simp only [codeB] at h
          refine wp_mono (IH j (by omega) ds' hds f body st _ F (fun p hp => hsub p (by simpa [subs] using hp)) h m a w m0 h0 w0 F0 hr hf hs hl) ?_
          intro e a' w' hpost
          cases e with
          | normal => obtain ⟨m', st', F', hok, hq, hr', hf', hs', hl'⟩ := hpost; exact ihj (by omega) st' F' hq m' a' w' hr' hf' hs' hl'
          | goto l => obtain ⟨_, _, _, h, _⟩ := hpost; exact h.elim
          | outgrown => obtain ⟨_, _, _, h, _⟩ := hpost; exact h.elim
          | panic ch => exact hpost
          | exit id => exact hpost
          | ret => exact hpost
      exact wp_loop_rounds (n + 1) (key (n + 1) (Nat.le_refl _) st F h m a w hr hf hs hl)
    | region id ops d =>
      cases d with
      | false =>
        refine wp_region_list ?_
        exact runOps_okX hA hE.T hcall ops ops.toList st _ F h hr hf hs hl _ (postX_to _ _ _ _ _ _ _ _) (fun F' m' st' a' w' hk hr' hf' hs' hl' => ⟨m', st', F', trivial, hk, hr', hf', hs', hl'⟩)
      | true =>
        refine wp_mono (hD' _ hcall id ops st _ F h m a w m0 h0 w0 F0 hr hf hs hl) fun e a' w' hp => hp.mono ?_ (fun _ _ _ _ h => h)
        rintro e st' F' _ ⟨rfl, hk⟩
        exact hk
    | scope b => exact ((hA _).bot h).elim
    | goto l => exact ((hA _).bot h).elim
    | refuse why => exact ((hA _).bot h).elim
    | rangeFunc g ps as' b => exact ((hA _).bot h).elim
end
end Go.Dc
end
section
namespace Go.Dc
def ansX:AnsB (Fz -> Prop):={ bot:=fun _ => False,both:=fun x y F => x F /\ y F,eqv:=fun u v x F => u = v /\ x F,br:=fun b x y F => cond b (x F) (y F) }
abbrev atF (F:Fz) (x:Fz -> Prop):Prop:=x F
theorem ansX_holds (F:Fz):HoldsB ansX (atF F):=⟨fun h => h,fun _ _ h => h,fun _ _ _ h => h,fun b x y h => by cases b with | true => exact .inl ⟨rfl,h⟩ | false => exact .inr ⟨rfl,h⟩⟩
abbrev CallSpecX:=List AV -> Rows -> (AV -> Rows -> Fz -> Prop) -> Fz -> Prop
abbrev LoopSpX:=St -> (Exit -> St -> Fz -> Prop) -> Fz -> Prop
abbrev EnvX:=Env (Fz -> Prop)
abbrev OKX (P:Program) (E:EnvX) (ds:List Deferred) (HP:AV -> Rows -> Fz -> Prop):Prop:=EnvOKX P E ds atF HP
def EnvX.base (T:TypeId -> Option TI) (F:FuncId -> Option FI) (R:Nat -> RoRow):EnvX:=⟨T,R,F,fun _ => none,fun _ _ => none⟩
theorem OKX.base {P:Program} {T:TypeId -> Option TI} {F:FuncId -> Option FI} {R:Nat -> RoRow} {ds:List Deferred} {HP:AV -> Rows -> Fz -> Prop} (hT:TabOK P T) (hF:∀ f fi,F f = some fi -> FnOK P f fi):OKX P (EnvX.base T F R) ds HP :=
 ⟨hT,hF,fun f spec h => by simp [EnvX.base] at h,fun f i spec h => by simp [EnvX.base] at h⟩
def EnvX.addCall (E:EnvX) (f:FuncId) (spec:CallSpecX):EnvX :=
 { E with calls:=fun g => bif Nat.beq f g then some spec else E.calls g }
theorem OKX.addCall {P:Program} {E:EnvX} {ds:List Deferred} {HP:AV -> Rows -> Fz -> Prop} (h:OKX P E ds HP) {f:FuncId} {spec:CallSpecX} {fi:FI} (hF:E.F f = some fi) (hs:∀ args h k F,spec args h k F -> SafeCallX P E.R f args h F k HP):OKX P (E.addCall f spec) ds HP where
 T:=h.T
 F:=h.F
 calls:=fun g sp hg args rows k F hk => by
  simp only [EnvX.addCall] at hg
  cases hb:Nat.beq f g with
  | true =>
   rw [hb] at hg
   simp only [cond_true,Option.some.injEq] at hg
   have:=Nat.eq_of_beq_eq_true hb
   subst this; subst hg
   obtain ⟨fn,h1,h2,_,_,h5⟩:=(h.F f fi hF).fn
   exact ⟨hs args rows k F hk,fn,h1,by rw [h2]; rfl,h5⟩
  | false =>
   rw [hb] at hg
   exact h.calls g sp hg args rows k F hk
 loops:=h.loops
def liftC (spec:CallSpec):CallSpecX:=fun args h k F => spec args h fun v h' => k v h' F
theorem liftC_ok {P:Program} {R:Nat -> RoRow} {f:FuncId} {spec:CallSpec} {HP:AV -> Rows -> Fz -> Prop} (hs:∀ args h k,spec args h k -> SafeCall P R f args h k):∀ args h k F,liftC spec args h k F -> SafeCallX P R f args h F k HP :=
 fun args h k F hk => (hs args h _ hk).toX fun _ _ h => h
def EnvX.addLoop (E:EnvX) (f:FuncId) (id:Nat) (spec:LoopSpX):EnvX :=
 { E with loops:=fun g i => bif Nat.beq f g && Nat.beq id i then some spec else E.loops g i }
theorem OKX.addLoop {P:Program} {E:EnvX} {ds:List Deferred} {HP:AV -> Rows -> Fz -> Prop} (h:OKX P E ds HP) {f:FuncId} {i:Nat} {spec:LoopSpX} {fi:FI} (hF:E.F f = some fi) {body:Code} (hb:blockOf fi i = some body)
  (hs:∀ st k F,spec st k F -> SafeX P E.R ds (.block i body) st F k HP):OKX P (E.addLoop f i spec) ds HP where
 T:=h.T
 F:=h.F
 calls:=h.calls
 loops:=fun g j sp hg b hmem st k F hk => by
  simp only [EnvX.addLoop] at hg
  cases hbb:(Nat.beq f g && Nat.beq i j) with
  | true =>
   rw [hbb] at hg
   simp only [cond_true,Option.some.injEq] at hg
   simp only [Bool.and_eq_true] at hbb
   have e1:=Nat.eq_of_beq_eq_true hbb.1
   have e2:=Nat.eq_of_beq_eq_true hbb.2
   subst e1; subst e2; subst hg
   have hm:(i,b) ∈ subs fi.body:=by
    have:(i,b) ∈ E.subsOf f:=hmem
    unfold Env.subsOf at this
    rwa [hF] at this
   have:b = body:=by
    unfold blockOf at hb
    have hf:(i,b) ∈ (subs fi.body).filter fun p => Nat.beq p.1 i:=by simp [hm]
    split at hb
    ·rename_i j' b' he
     rw [he] at hf
     simp at hf hb
     exact hf.2.trans hb
    ·exact absurd hb (by simp)
   subst this
   exact hs st k F hk
  | false =>
   rw [hbb] at hg
   exact h.loops g j sp hg b hmem st k F hk
theorem subs_sub:∀ (c:Code) (p:Nat × Code),p ∈ subs c -> ∀ q ∈ subs p.2,q ∈ subs c:=by
 intro c
 induction c with
 | block id b ih =>
  intro p hp q hq
  simp only [subs,List.mem_cons] at hp ⊢
  rcases hp with rfl | hp
  ·exact .inr hq
  ·exact .inr (ih p hp q hq)
 | seq x y ihx ihy =>
  intro p hp q hq
  simp only [subs,List.mem_append] at hp ⊢
  rcases hp with hp | hp
  ·exact .inl (ihx p hp q hq)
  ·exact .inr (ihy p hp q hq)
 | cond x y z ihx ihy =>
  intro p hp q hq
  simp only [subs,List.mem_append] at hp ⊢
  rcases hp with hp | hp
  ·exact .inl (ihx p hp q hq)
  ·exact .inr (ihy p hp q hq)
 | loop b ih => exact ih
 | rangeFunc g ps x y ihx ihy =>
  intro p hp q hq
  simp only [subs,List.mem_append] at hp ⊢
  rcases hp with hp | hp
  ·exact .inl (ihx p hp q hq)
  ·exact .inr (ihy p hp q hq)
 | _ => intro p hp; simp [subs] at hp
theorem blockOf_sub {fi:FI} {i:Nat} {b:Code} (hb:blockOf fi i = some b):∀ q ∈ subs b,q ∈ subs fi.body:=by
 have hm:(i,b) ∈ subs fi.body:=by
  unfold blockOf at hb
  split at hb
  ·rename_i j' b' he
   simp only [Option.some.injEq] at hb
   subst hb
   have:(j',b') ∈ (subs fi.body).filter fun p => Nat.beq p.1 i:=by rw [he]; simp
   simp only [List.mem_filter] at this
   obtain ⟨h1,h2⟩:=this
   have:=Nat.eq_of_beq_eq_true h2
   subst this
   exact h1
  ·exact absurd hb (by simp)
 exact subs_sub fi.body (i,b) hm
def vcx (E:EnvX) (n:Nat) (f:FuncId) (fi:FI) (args:List AV) (h:Rows) (Q:AV -> Rows -> Fz -> Prop):Fz -> Prop :=
 codeB ansX E (drawAllB ansX E) n f fi.body ⟨enterT args fi.ntmps,h⟩ fun e st => match e with
  | .normal | .ret => resKB ansX E st fi.results fun v => Q v st.rows
  | _ => fun _ => False
def rnx (E:EnvX) (n:Nat) (f:FuncId) (c:Code) (st:St) (k:Exit -> St -> Fz -> Prop):Fz -> Prop:=codeB ansX E (drawAllB ansX E) n f c st k
section
variable {P:Program} {E:EnvX} {HP:AV -> Rows -> Fz -> Prop}
theorem SafeX.rnx (hm:P.follows .mixedOrders = true) (hE:OKX P E [] HP) {f:FuncId} {c:Code} (hc:∀ p ∈ subs c,p ∈ E.subsOf f) {st:St} {F:Fz} {k:Exit -> St -> Fz -> Prop} (n:Nat)
  (hk:Dc.rnx E n f c st k F):SafeX P E.R [] c st F k HP :=
 code_okX ansX_holds hE hE (drawAll_okX ansX_holds hE.T hm) (drawAll_okX ansX_holds hE.T hm) n [] (.inl rfl) f c st k F hc hk
theorem SafeX.round (hm:P.follows .mixedOrders = true) (hE:OKX P E [] HP) {f:FuncId} {fi:FI} (hF:E.F f = some fi) {i:Nat} {b c:Code} (hb:blockOf fi i = some b) (hc:subs c = subs b) {st:St} {F:Fz} {k:Exit -> St -> Fz -> Prop} (n:Nat)
  (hk:Dc.rnx E n f c st k F):SafeX P E.R [] c st F k HP :=
 SafeX.rnx hm hE (fun p hp => by unfold Env.subsOf; rw [hF]; rw [hc] at hp; exact blockOf_sub hb p hp) n hk
theorem SafeCallX.vcx (hm:P.follows .mixedOrders = true) (hE:OKX P E [] HP) {f:FuncId} {fi:FI} (hF:E.F f = some fi) {args:List AV} {h:Rows} {F:Fz} {Q:AV -> Rows -> Fz -> Prop} (n:Nat)
  (hk:Dc.vcx E n f fi args h Q F):SafeCallX P E.R f args h F Q HP:=by
 refine SafeCallX.of_body hE.T (hE.F f fi hF) ((SafeX.rnx hm hE (f:=f) (fun p hp => by unfold Env.subsOf; rw [hF]; exact hp) n hk).mono ?_ fun _ _ _ h => h)
 intro e st' F' he
 cases e <;> first
  | exact ⟨.inl rfl,resL_okB (ansX_holds F') he⟩
  | exact ⟨.inr rfl,resL_okB (ansX_holds F') he⟩
  | exact he.elim
end
theorem FzOK.view {F:Fz} {m:Map} {f:Nat -> Option Nat} {hL h:Rows} {w:World} (hf:FzOK F m h w) (hV:View f hL h):FzOK F (m.view f hL.es) hL w where
 blk:=hf.blk
 apart:=fun c r hc hv => by
  obtain ⟨b,r',h1,h2,h3,h4⟩:=hV.real hc hv
  rw [h4] at hv ⊢
  exact hf.apart b r' h2 hv
 ro:=hf.ro
def ToX (R:Nat -> RoRow) (ds:List Deferred) (nk:Nat) (st:St) (F:Fz) (S:St -> Fz -> Prop):Prop :=
 ∀ m a w m0 h0 w0 (F0:Fz),h0.length <= nk -> RelX R ds m st a w -> FzOK F m st.rows w -> Step m0 h0 w0 m st.rows w -> F0.To m0 h0 w0 F ->
  ∃ m' st' F',S st' F' /\ RelX R ds m' st' a w /\ FzOK F' m' st'.rows w /\ Step m0 h0 w0 m' st'.rows w /\ F0.To m0 h0 w0 F'
section
variable {R:Nat -> RoRow} {ds:List Deferred} {nk:Nat} {st stE:St} {F:Fz} {S S':St -> Fz -> Prop}
theorem ToX.here (h:S st F):ToX R ds nk st F S:=fun m a w m0 h0 w0 F0 _ hr hf hs hl => ⟨m,st,F,h,hr,hf,hs,hl⟩
end
def ToV (R:Nat -> RoRow) (nk:Nat) (v:AV) (h:Rows) (F:Fz) (S:AV -> Rows -> Fz -> Prop):Prop :=
 ∀ m (c:Value) w m0 h0 w0 (F0:Fz),h0.length <= nk -> Den m h.length v c -> WR R m h w -> FzOK F m h w -> Step m0 h0 w0 m h w -> F0.To m0 h0 w0 F ->
  ∃ m' v' h' F',S v' h' F' /\ Den m' h'.length v' c /\ WR R m' h' w /\ FzOK F' m' h' w /\ Step m0 h0 w0 m' h' w /\ F0.To m0 h0 w0 F'
section
variable {R:Nat -> RoRow} {nk:Nat} {v vE:AV} {h hE:Rows} {F:Fz} {S S':AV -> Rows -> Fz -> Prop}
theorem ToV.here (hh:S v h F):ToV R nk v h F S:=fun m c w m0 h0 w0 F0 _ hd hW hf hs hl => ⟨m,v,h,F,hh,hd,hW,hf,hs,hl⟩
theorem SafeCallX.post {P:Program} {f:FuncId} {args:List AV} {Q Q' HP HP':AV -> Rows -> Fz -> Prop} (hs:SafeCallX P R f args h F Q HP) (hq:∀ v h' F',F.le F' -> Q v h' F' -> ToV R h.length v h' F' Q') (hp:∀ v h' F',F.le F' -> HP v h' F' -> ToV R h.length v h' F' HP'):SafeCallX P R f args h F Q' HP':=by
 intro m w m0 h0 w0 F0 as h1 h2 h3 h4 h5
 refine (hs m w m h w F as h1 h2 h3 (Step.refl _ _ _) (.refl _ _ _ _)).mono ?_
 rintro e w' ⟨m',h',F',hW,hF,hl,hS,⟨c,v,rfl,hqq,hd⟩ | ⟨c,v,rfl,hqq,hd⟩⟩
 ·obtain ⟨m2,v2,h2',F2,q1,q2,q3,q4,q5,q6⟩:=hq _ _ _ hl.le hqq m' c w' m h w F (Nat.le_refl _) hd hW hF hS hl
  exact ⟨m2,h2',F2,q3,q4,h5.trans h4 q6,h4.trans q5,.inl ⟨c,v2,rfl,q1,q2⟩⟩
 ·obtain ⟨m2,v2,h2',F2,q1,q2,q3,q4,q5,q6⟩:=hp _ _ _ hl.le hqq m' c w' m h w F (Nat.le_refl _) hd hW hF hS hl
  exact ⟨m2,h2',F2,q3,q4,h5.trans h4 q6,h4.trans q5,.inr ⟨c,v2,rfl,q1,q2⟩⟩
end
theorem FzOK.out {R:Nat -> RoRow} {F F':Fz} {m m' m'':Map} {f:Nat -> Option Nat} {hL h h':Rows} {w w':World} (hV:View f hL h) (hW:WR R m h w) (hf:FzOK F m h w) (hf':FzOK F' m' h' w')
  (hTo:F.To (m.view f hL.es) hL w F') (hg:∀ c,c < h'.length -> m''.mu (ext f hL.length h.length c) = m'.mu c) (hro:m''.ro = m'.ro) (hS:Step m h w m'' (merged f hL.length hL.length h h') w') :
  FzOK F' m'' (merged f hL.length hL.length h h') w' /\ F.To m h w F':=by
 refine ⟨⟨hf'.blk,?_,fun i => by rw [hro]; exact hf'.ro i⟩,hTo.le,?_⟩
 ·intro b r hb hv
  obtain ⟨hblt,⟨c,r',hc,hcb,hlc,rfl⟩ | ⟨hlb,hnn⟩⟩:=merged_live hb
  ·subst hcb
   rw [hg c hc] at hv ⊢
   exact hf'.apart c r' hlc hv
  ·have hmu:m''.mu b = m.mu b:=hS.mu b (live_lt hlb)
   rw [hmu] at hv ⊢
   cases hx:F' (m.mu b).blk with
   | none => rfl
   | some x =>
    exfalso
    rcases hTo.new _ x hx with h1 | h1 | ⟨c,r',hc,hcv,hce⟩
    ·rw [hf.apart b r hlb hv] at h1; cases h1
    ·obtain ⟨_,_,h3⟩:=hW.row b r hlb
     rw [if_neg (by rw [hv]; simp)] at h3
     obtain ⟨cc,fz,hh,_⟩:=h3
     have:=(Array.getElem?_eq_some_iff.1 hh).1
     omega
    ·obtain ⟨d,r2,h1,h2,_,e1⟩:=hV.real hc hcv
     rw [e1] at hcv hce
     have hdb:d = b:=hW.apart d b r2 r h2 hlb hcv hv hce
     subst hdb
     have:=seen_of (live_lt hc) h1
     rw [this] at hnn; cases hnn
 ·intro b x hx
  rcases hTo.new b x hx with h1 | h1 | ⟨c,r',hc,hcv,hce⟩
  ·exact .inl h1
  ·exact .inr (.inl h1)
  ·obtain ⟨d,r2,h1,h2,_,e1⟩:=hV.real hc hcv
   rw [e1] at hcv hce
   exact .inr (.inr ⟨d,r2,h2,hcv,hce⟩)
theorem SafeCallX.focus {P:Program} {R:Nat -> RoRow} {fn:FuncId} {f:Nat -> Option Nat} {argsL args:List AV} {hL h:Rows} {F:Fz} {Q HP:AV -> Rows -> Fz -> Prop} (hV:View f hL h) (hA:VwL f hL.length argsL args) (hs:SafeCallX P R fn argsL hL F Q HP) :
  SafeCallX P R fn args h F (fun v'' h'' F' => ∃ v' h',Q v' h' F' /\ v'' = ren (ext f hL.length h.length) v' /\ h'' = merged f hL.length hL.length h h') (fun v'' h'' F' => ∃ v' h',HP v' h' F' /\ v'' = ren (ext f hL.length h.length) v' /\ h'' = merged f hL.length hL.length h h'):=by
 intro m w m0 h0 w0 F0 as has hW hf hstep hTo
 refine (hs _ w _ _ w F as (hA.den _ _ _ has) (hW.view hV) (hf.view hV) (Step.refl _ _ _) (.refl _ _ _ _)).mono ?_
 rintro e w' ⟨m',h',F',hW',hf',hl,hs',hcase⟩
 obtain ⟨m'',hg,hro,hW2,hS⟩:=merge_ok hV hW hW' hs'.toK
 obtain ⟨hf2,hl2⟩:=FzOK.out hV hW hf hf' hl (fun c hc => (hg c hc).2) hro hS
 refine ⟨m'',_,F',hW2,hf2,hTo.trans hstep hl2,hstep.trans hS,?_⟩
 rcases hcase with ⟨c,v,rfl,hq,hd⟩ | ⟨c,v,rfl,hq,hd⟩
 ·exact .inl ⟨c,_,rfl,⟨v,h',hq,rfl,rfl⟩,ren_den hg hro v c hd⟩
 ·exact .inr ⟨c,_,rfl,⟨v,h',hq,rfl,rfl⟩,ren_den hg hro v c hd⟩
theorem SafeX.loop {P:Program} {R:Nat -> RoRow} {ds:List Deferred} {HP:AV -> Rows -> Fz -> Prop} {body:Code} (nk:Nat) (Inv:Nat -> St -> Fz -> Prop) {X:Exit -> St -> Fz -> Prop}
  (hround:∀ n st F,Inv n st F -> SafeX P R ds body st F (fun e st' F' => match e with
   | .normal => ToX R ds nk st' F' fun st'' F'' => ∃ n',n' < n /\ Inv n' st'' F''
   | e => ToX R ds nk st' F' (X e)) HP) :
  ∀ n st F,Inv n st F -> ∀ m a w m0 h0 w0 F0,h0.length <= nk -> RelX R ds m st a w -> FzOK F m st.rows w -> Step m0 h0 w0 m st.rows w -> F0.To m0 h0 w0 F -> (Code.loop body).wp P (PostX R ds X HP m0 h0 w0 F0) a w:=by
 intro n st F hi m a w m0 h0 w0 F0 hn hr hf hs hl
 refine wp_loop_rounds (n + 1) ?_
 have key:∀ N n,n < N -> ∀ st F,Inv n st F -> ∀ m a w,RelX R ds m st a w -> FzOK F m st.rows w -> Step m0 h0 w0 m st.rows w -> F0.To m0 h0 w0 F -> Code.rounds P body (PostX R ds X HP m0 h0 w0 F0) N a w:=by
  intro N
  induction N with
  | zero => intro n h; omega
  | succ N ih =>
   intro n hlt st F hi m a w hr hf hs hl
   rw [rounds_succ]
   refine wp_mono (hround n st F hi m a w m0 h0 w0 F0 hr hf hs hl) ?_
   intro e a' w' hp
   cases e with
   | panic ch => exact hp
   | goto l => obtain ⟨_,_,_,h,_⟩:=hp; exact h.elim
   | outgrown => obtain ⟨_,_,_,h,_⟩:=hp; exact h.elim
   | normal =>
    obtain ⟨m',st',F',_,hq,hr',hf',hs',hl'⟩:=hp
    obtain ⟨m2,st2,F2,⟨n',hlt',hi'⟩,q2,q3,q4,q5⟩:=hq m' a' w' m0 h0 w0 F0 hn hr' hf' hs' hl'
    exact ih n' (by omega) st2 F2 hi' m2 a' w' q2 q3 q4 q5
   | exit id =>
    obtain ⟨m',st',F',_,hq,hr',hf',hs',hl'⟩:=hp
    obtain ⟨m2,st2,F2,q1,q2,q3,q4,q5⟩:=hq m' a' w' m0 h0 w0 F0 hn hr' hf' hs' hl'
    exact ⟨m2,st2,F2,trivial,q1,q2,q3,q4,q5⟩
   | ret =>
    obtain ⟨m',st',F',_,hq,hr',hf',hs',hl'⟩:=hp
    obtain ⟨m2,st2,F2,q1,q2,q3,q4,q5⟩:=hq m' a' w' m0 h0 w0 F0 hn hr' hf' hs' hl'
    exact ⟨m2,st2,F2,trivial,q1,q2,q3,q4,q5⟩
 exact key (n + 1) n (Nat.lt_succ_self n) st F hi m a w hr hf hs hl
theorem SafeX.loop_block {P:Program} {R:Nat -> RoRow} {ds:List Deferred} {HP:AV -> Rows -> Fz -> Prop} {body:Code} {id:Nat} {st:St} {F:Fz} (Inv:Nat -> St -> Fz -> Prop) {Q:Exit -> St -> Fz -> Prop}
  (h0:ToX R ds st.rows.length st F fun st' F' => ∃ n,Inv n st' F')
  (hround:∀ n st' F',Inv n st' F' -> SafeX P R ds body st' F' (fun e st2 F2 => match e with
   | .normal => ToX R ds st.rows.length st2 F2 fun st3 F3 => ∃ n',n' < n /\ Inv n' st3 F3
   | e => ToX R ds st.rows.length st2 F2 fun st3 F3 => Q (blockExit id e) st3 F3) HP) :
  SafeX P R ds (.block id (.loop body)) st F Q HP:=by
 intro m a w m0 h1 w0 F0 hr hf hs hl
 obtain ⟨m',st',F',⟨n,hi⟩,hr',hF',hs',hl'⟩:=h0 m a w m0 h1 w0 F0 hs.len hr hf hs hl
 have:=SafeX.loop (X:=fun e st3 F3 => Q (blockExit id e) st3 F3) st.rows.length Inv (fun n st' F' hi => hround n st' F' hi) n st' F' hi m' a w m0 h1 w0 F0 hs.len hr' hF' hs' hl'
 refine wp_block (wp_mono this ?_)
 intro e a' w' hp
 cases e with
 | panic ch => exact hp
 | goto l => obtain ⟨_,_,_,h,_⟩:=hp; exact h.elim
 | outgrown => obtain ⟨_,_,_,h,_⟩:=hp; exact h.elim
 | normal => exact hp
 | ret => exact hp
 | exit id' =>
  obtain ⟨m2,st2,F2,h1,h2,h3⟩:=hp
  simp only [Exit.inBlock]
  by_cases hid:id' = id
  ·rw [if_pos hid]
   subst hid
   simp only [blockExit,Nat.beq_refl,cond_true] at h2
   exact ⟨m2,st2,F2,trivial,h2,h3⟩
  ·rw [if_neg hid]
   have e:Nat.beq id' id = false:=by rw [Bool.eq_false_iff]; exact fun e => hid (Nat.eq_of_beq_eq_true e)
   simp only [blockExit,e,cond_false] at h2
   exact ⟨m2,st2,F2,trivial,h2,h3⟩
end Go.Dc
end
section
namespace Go.Dc
def gtk:AV -> Prop
 | .bool _ | .int .. | .str _ | .nilp | .nils | .nilf | .nili => True
 | .sl true i _ _ _ => ∃ x,i = x + 15
 | .ptr true i _ _ => ∃ x,i = x + 15
 | _ => False
def Named (m:Map):Prop:=∀ i,m.ro (i + 15) = tkLoc i
def DenT (a:AV) (v:Value):Prop:=∀ m n,Named m -> Den m n a v
theorem gtk.den {a:AV} (hg:gtk a) {m:Map} {n:Nat} (hm:Named m) {v:Value} (h:Den m n a v):DenT a v:=by
 intro m' n' hm'
 cases a with
 | sl ro i o l c =>
  cases ro with
  | false => exact hg.elim
  | true =>
   obtain ⟨x,rfl⟩:=hg
   simp only [Den,Map.loc,if_true] at h ⊢
   rw [hm' x]; rw [hm x] at h
   first | exact ⟨(fun e => absurd e (by decide)),h.2⟩ | exact h
 | ptr ro i o l =>
  cases ro with
  | false => exact hg.elim
  | true =>
   obtain ⟨x,rfl⟩:=hg
   simp only [Den,Map.loc,if_true] at h ⊢
   rw [hm' x]; rw [hm x] at h
   first | exact ⟨(fun e => absurd e (by decide)),h.2⟩ | exact h
 | any => exact hg.elim
 | fn => exact hg.elim
 | ifc => exact hg.elim
 | agg => exact hg.elim
 | tup => exact hg.elim
 | _ => simpa [Den] using h
def Frz (F:Fz) (x:Nat) (r:RoRow):Prop :=
 (x = 0 /\ r.n = 0) \/ ∃ blk off ext c,x = tkName r.esz blk off ext /\ r.n <= ext /\ F blk = some (r.ty,c) /\ ∀ i,i < r.n -> (r.at_ i).cells.length = r.esz /\
  ∀ o a,(r.at_ i).cells[o]? = some a -> a.one = true /\ ∃ v,c[off + (i * r.esz + o)]? = some v /\ DenT a v
theorem Frz.le {F F':Fz} {x:Nat} {r:RoRow} (h:Frz F x r) (hl:F.le F'):Frz F' x r:=by
 rcases h with h | ⟨blk,off,ext,c,h1,h2,h3,h4⟩
 ·exact .inl h
 ·exact .inr ⟨blk,off,ext,c,h1,h2,hl _ _ h3,h4⟩
structure RoOf (r:Row) (ro:RoRow):Prop where
 ty:ro.ty = r.ty
 esz:ro.esz = r.esz
 len:ro.n <= r.len
 get:∀ i,i < ro.n -> r.get? i = some (ro.at_ i)
 gtk:∀ i,i < ro.n -> ∀ a ∈ (ro.at_ i).cells,gtk a
theorem RoOf.gen {t z n:Nat} {G:Nat -> AV} (hg:∀ i,i < n -> ∀ a ∈ (G i).cells,Dc.gtk a):RoOf (.gen t z n G) ⟨t,z,n,G⟩ where
 ty:=rfl
 esz:=rfl
 len:=Nat.le_refl _
 get:=fun i hi => by
  have hi:i < n:=hi
  simp only [Row.get?]; rw [blt_t hi]; rfl
 gtk:=hg
def Fz.add (F:Fz) (b:Nat) (x:TypeId × Array Value):Fz:=fun k => if k = b then some x else F k
theorem live_set_none {h:Rows} {b c:Nat} {r:Row} (hc:Rows.live (h.set b none) c = some r):c ≠ b /\ h.live c = some r:=by
 unfold Rows.live at hc ⊢
 rw [List.getElem?_set] at hc
 by_cases e:b = c
 ·subst e
  rw [if_pos rfl] at hc
  split at hc <;> simp at hc
 ·rw [if_neg e] at hc
  exact ⟨fun e2 => e e2.symm,hc⟩
theorem freeze_ok {R:Nat -> RoRow} {F:Fz} {m:Map} {h:Rows} {w:World} (hW:WR R m h w) (hf:FzOK F m h w) {b:Nat} {r:Row} {ro:RoRow} (hb:h.live b = some r) (hr:RoOf r ro) :
  ∃ F' x,F.le F' /\ (∀ k y,F' k = some y -> F k = some y \/ (k = (m.mu b).blk /\ (m.mu b).vir = false)) /\ Frz F' x ro /\ FzOK F' m (h.set b none) w /\
   ∀ n len cp v,Den m n (.sl false b 0 len cp) v -> Den m n (tok x len) v:=by
 obtain ⟨hesz,hlen,hrow⟩:=hW.row b r hb
 have hro:Named m:=hf.ro
 split at hrow
 ·rename_i hv
  refine ⟨F,0,F.le_refl,fun _ _ h => .inl h,.inl ⟨rfl,by have:=hr.len; omega⟩,⟨hf.blk,fun c r' hc hcv => hf.apart c r' (live_set_none hc).2 hcv,hf.ro⟩,?_⟩
  intro n len cp v hd
  simp only [Den,Map.loc,Bool.false_eq_true,if_false,SlDen,hv,if_true] at hd
  obtain ⟨_,h1,ao,h2,_⟩:=hd
  simp only [tok,Den,Map.loc,if_true]
  have:=hro 0
  simp only [Nat.zero_add] at this ⊢
  rw [this]
  first | exact ⟨(fun e => absurd e (by decide)),by simp only [SlDen,tkLoc,if_true]; exact ⟨h1,ao,h2,trivial⟩⟩ | (simp only [SlDen,tkLoc,if_true]; exact ⟨h1,ao,h2,trivial⟩)
 ·rename_i hv
  have hv:(m.mu b).vir = false:=by simpa using hv
  obtain ⟨c,fz,hh,hsz,hfz,hcell⟩:=hrow
  have hlt:(m.mu b).blk < w.heap.size:=(Array.getElem?_eq_some_iff.1 hh).1
  have hnone:=hf.apart b r hb hv
  refine ⟨F.add (m.mu b).blk (r.ty,c),tkName (m.mu b).esz (m.mu b).blk (m.mu b).shift (m.mu b).ext,?_,?_,.inr ⟨(m.mu b).blk,(m.mu b).shift,(m.mu b).ext,c,?_,?_,?_,?_⟩,⟨?_,?_,hf.ro⟩,?_⟩
  ·intro k x hk
   simp only [Fz.add]
   rw [if_neg]
   ·exact hk
   ·rintro rfl; rw [hnone] at hk; cases hk
  ·intro k y hk
   simp only [Fz.add] at hk
   split at hk
   ·rename_i e; exact .inr ⟨e,hv⟩
   ·exact .inl hk
  ·rw [hr.esz,hesz]
  ·exact Nat.le_trans hr.len hlen
  ·simp [Fz.add,hr.ty]
  ·intro i hi
   obtain ⟨h1,h2⟩:=hcell i _ (hr.get i hi)
   refine ⟨by rw [h1,hr.esz,hesz],fun o a ha => ?_⟩
   obtain ⟨h3,v,h4,h5⟩:=h2 o a ha
   exact ⟨h3,v,by rw [hr.esz,<- hesz]; exact h4,(hr.gtk i hi a (List.mem_of_getElem? ha)).den hro h5⟩
  ·intro k ty c' hk
   simp only [Fz.add] at hk
   split at hk
   ·rename_i e; subst e; cases hk; exact ⟨fz,hh⟩
   ·exact hf.blk k ty c' hk
  ·intro c' r' hc hcv
   obtain ⟨hne,hc⟩:=live_set_none hc
   simp only [Fz.add]
   rw [if_neg]
   ·exact hf.apart c' r' hc hcv
   ·intro e; exact hne (hW.apart c' b r' r hc hb hcv hv e)
  ·intro n len cp v hd
   simp only [Den,Map.loc,Bool.false_eq_true,if_false,SlDen,hv] at hd
   obtain ⟨_,a,cap,h1,h2,h3,h4,h5⟩:=hd
   simp only [tok,Den,Map.loc,if_true]
   rw [hro,tkLoc_name]
   first | refine ⟨(fun e => absurd e (by decide)),?_⟩ | skip
   simp only [SlDen,Bool.false_eq_true,if_false]
   exact ⟨a,cap,h1,h2,h3,trivial,h5⟩
def tk1 (b x:Nat):AV -> AV
 | .sl false c 0 l u => bif Nat.beq c b then tok x l else .sl false c 0 l u
 | y => y
def tkE (b x:Nat):AV -> AV
 | .agg cs => .agg (cs.map (tk1 b x))
 | y => tk1 b x y
def tk2 (b x:Nat):AV -> AV
 | .tup cs => .tup (cs.map (tkE b x))
 | y => tkE b x y
def tkRow (b x:Nat):Row -> Row
 | .lst t z l => .lst t z (l.map (tkE b x))
 | .gen t z n G => .gen t z n fun i => tkE b x (G i)
 | .byt t l => .byt t l
section
variable {m:Map} {b x:Nat} (hx:∀ n len cp v,Den m n (.sl false b 0 len cp) v -> Den m n (tok x len) v)
include hx
theorem tk1_den {n:Nat} {y:AV} {v:Value} (h:Den m n y v):Den m n (tk1 b x y) v:=by
 unfold tk1
 split
 ·rename_i c l u
  cases hb:Nat.beq c b with
  | true => have:=Nat.eq_of_beq_eq_true hb; subst this; exact hx _ _ _ _ h
  | false => exact h
 ·exact h
theorem tk1_denL {n:Nat}:∀ {l:List AV} {v:List Value},DenL m n l v -> DenL m n (l.map (tk1 b x)) v
 | [],_,h => h
 | y :: l,v,h => by
  simp only [DenL] at h
  obtain ⟨u,us,rfl,h1,h2⟩:=h
  simp only [List.map_cons,DenL]
  exact ⟨u,us,rfl,tk1_den hx h1,tk1_denL h2⟩
theorem tkE_den {n:Nat} {y:AV} {v:Value} (h:Den m n y v):Den m n (tkE b x y) v:=by
 unfold tkE
 split
 ·simp only [Den] at h ⊢
  obtain ⟨vs,h1,h2⟩:=h
  exact ⟨vs,h1,tk1_denL hx h2⟩
 ·exact tk1_den hx h
theorem tkE_denL {n:Nat}:∀ {l:List AV} {v:List Value},DenL m n l v -> DenL m n (l.map (tkE b x)) v
 | [],_,h => h
 | y :: l,v,h => by
  simp only [DenL] at h
  obtain ⟨u,us,rfl,h1,h2⟩:=h
  simp only [List.map_cons,DenL]
  exact ⟨u,us,rfl,tkE_den hx h1,tkE_denL h2⟩
theorem tk2_den {n:Nat} {y:AV} {v:Value} (h:Den m n y v):Den m n (tk2 b x y) v:=by
 unfold tk2
 split
 ·simp only [Den] at h ⊢
  obtain ⟨vs,h1,h2⟩:=h
  exact ⟨vs,h1,tkE_denL hx h2⟩
 ·exact tkE_den hx h
end
theorem tk1_one (b x:Nat) (y:AV):(tk1 b x y).one = y.one:=by
 unfold tk1
 split
 ·rename_i c l u
  cases hb:Nat.beq c b <;> rfl
 ·rfl
theorem tk1_agg (b x:Nat) (y:AV) (cs:List AV) (hc:tk1 b x y = .agg cs):y = .agg cs:=by
 unfold tk1 at hc
 split at hc
 ·rename_i c l u
  cases hb:Nat.beq c b <;> rw [hb] at hc <;> cases hc
 ·exact hc
theorem cells_one {y:AV} (h:∀ cs,y ≠ .agg cs):y.cells = [y]:=by
 cases y <;> first | rfl | exact absurd rfl (h _)
theorem tkE_cells (b x:Nat) (y:AV):(tkE b x y).cells = y.cells.map (tk1 b x):=by
 unfold tkE
 split
 ·rfl
 ·rename_i h1
  rw [cells_one h1,cells_one (fun cs hc => h1 cs (tk1_agg _ _ _ _ hc))]
  rfl
theorem tkRow_ty (b x:Nat) (r:Row):(tkRow b x r).ty = r.ty:=by cases r <;> rfl
theorem tkRow_esz (b x:Nat) (r:Row):(tkRow b x r).esz = r.esz:=by cases r <;> rfl
theorem tkRow_len (b x:Nat) (r:Row):(tkRow b x r).len = r.len:=by cases r <;> simp [tkRow,Row.len]
theorem tkRow_get (b x:Nat) (r:Row) (i:Nat) (e:AV) (h:(tkRow b x r).get? i = some e):(∃ e',r.get? i = some e' /\ e.cells = e'.cells.map (tk1 b x)):=by
 cases r with
 | lst t z l =>
  simp only [tkRow,Row.get?,List.getElem?_map] at h ⊢
  obtain ⟨e',h1,rfl⟩:=Option.map_eq_some_iff.1 h
  exact ⟨e',h1,tkE_cells _ _ _⟩
 | gen t z n G =>
  simp only [tkRow,Row.get?] at h ⊢
  cases hb:Nat.blt i n <;> rw [hb] at h
  ·simp at h
  ·simp only [cond_true,Option.some.injEq] at h
   subst h
   exact ⟨G i,rfl,tkE_cells _ _ _⟩
 | byt t l =>
  refine ⟨e,h,?_⟩
  simp only [tkRow,Row.get?] at h
  obtain ⟨c,_,rfl⟩:=Option.map_eq_some_iff.1 h
  rfl
def tkRows (b x:Nat) (h:Rows):Rows:=h.map (Option.map (tkRow b x))
theorem tkRows_live {b x:Nat} {h:Rows} {c:Nat} {r:Row} (hc:(tkRows b x h).live c = some r):∃ r',h.live c = some r' /\ r = tkRow b x r':=by
 unfold Rows.live tkRows at hc
 unfold Rows.live
 rw [List.getElem?_map] at hc
 cases hh:h[c]? with
 | none => rw [hh] at hc; simp at hc
 | some o =>
  rw [hh] at hc
  cases o with
  | none => simp at hc
  | some r' => simp at hc; exact ⟨r',rfl,hc.symm⟩
theorem WR.tk {R:Nat -> RoRow} {m:Map} {b x:Nat} (hx:∀ n len cp v,Den m n (.sl false b 0 len cp) v -> Den m n (tok x len) v) {h:Rows} {w:World} (hW:WR R m h w):WR R m (tkRows b x h) w where
 row:=fun c r hc => by
  obtain ⟨r',hc',rfl⟩:=tkRows_live hc
  obtain ⟨h1,h2,h3⟩:=hW.row c r' hc'
  refine ⟨by rw [tkRow_esz]; exact h1,by rw [tkRow_len]; exact h2,?_⟩
  split
  ·rename_i hv
   rw [if_pos hv] at h3
   exact ⟨by rw [tkRow_len]; exact h3.1,h3.2⟩
  ·rename_i hv
   rw [if_neg hv] at h3
   obtain ⟨cc,fz,h4,h5,h6,h7⟩:=h3
   refine ⟨cc,fz,by rw [tkRow_ty]; exact h4,h5,h6,?_⟩
   intro i e he
   obtain ⟨e',he',hcells⟩:=tkRow_get _ _ _ _ _ he
   obtain ⟨h8,h9⟩:=h7 i e' he'
   refine ⟨by rw [hcells,List.length_map]; exact h8,fun o a ha => ?_⟩
   rw [hcells,List.getElem?_map] at ha
   obtain ⟨a',ha',rfl⟩:=Option.map_eq_some_iff.1 ha
   obtain ⟨h10,v,h11,h12⟩:=h9 o a' ha'
   refine ⟨by rw [tk1_one]; exact h10,v,h11,?_⟩
   have:(tkRows b x h).length = h.length:=by simp [tkRows]
   rw [this]
   exact tk1_den hx h12
 apart:=fun c c' r r' hc hc' hv hv' he => by
  obtain ⟨_,hc,_⟩:=tkRows_live hc
  obtain ⟨_,hc',_⟩:=tkRows_live hc'
  exact hW.apart _ _ _ _ hc hc' hv hv' he
 ro:=hW.ro
 roApart:=fun i c r hc hv hv' hn => by
  obtain ⟨_,hc,_⟩:=tkRows_live hc
  exact hW.roApart i c _ hc hv hv' hn
theorem WR.dropRow {R:Nat -> RoRow} {m:Map} {h:Rows} {w:World} (hW:WR R m h w) (b:Nat):WR R m (h.set b none) w where
 row:=fun c r hc => by
  have:=hW.row c r (live_set_none hc).2
  rw [List.length_set]; exact this
 apart:=fun c c' r r' hc hc' => hW.apart c c' r r' (live_set_none hc).2 (live_set_none hc').2
 ro:=hW.ro
 roApart:=fun i c r hc => hW.roApart i c r (live_set_none hc).2
theorem Step.dropRow {m0 m:Map} {h0 h:Rows} {w0 w:World} (hs:Step m0 h0 w0 m h w) (b x:Nat):Step m0 h0 w0 m ((tkRows b x h).set b none) w where
 os:=hs.os
 tape:=hs.tape
 output:=hs.output
 size:=hs.size
 block:=hs.block
 len:=by rw [List.length_set]; simp only [tkRows,List.length_map]; exact hs.len
 mu:=hs.mu
 ro:=hs.ro
 new:=fun c r hc hv => by
  obtain ⟨_,hc,_⟩:=tkRows_live (live_set_none hc).2
  exact hs.new c _ hc hv
theorem FzOK.tk {F:Fz} {m:Map} {h:Rows} {w:World} {b:Nat} (x:Nat) (hf:FzOK F m (h.set b none) w):FzOK F m ((tkRows b x h).set b none) w where
 blk:=hf.blk
 apart:=fun c r hc hv => by
  obtain ⟨hne,hc⟩:=live_set_none hc
  obtain ⟨r',hc,_⟩:=tkRows_live hc
  refine hf.apart c r' ?_ hv
  unfold Rows.live at hc ⊢
  rw [List.getElem?_set,if_neg (fun e => hne e.symm)]
  exact hc
 ro:=hf.ro
theorem Fz.To.freeze {F0 F F':Fz} {m0 m:Map} {h0 h:Rows} {w0 w:World} (hs:Step m0 h0 w0 m h w) (hl:F0.To m0 h0 w0 F) {b:Nat} {r:Row} (hb:h.live b = some r) (h1:F.le F')
  (h2:∀ k y,F' k = some y -> F k = some y \/ (k = (m.mu b).blk /\ (m.mu b).vir = false)):F0.To m0 h0 w0 F' where
 le:=Fz.le_trans hl.le h1
 new:=fun k y hk => by
  rcases h2 k y hk with h3 | ⟨rfl,hv⟩
  ·exact hl.new k y h3
  ·rcases hs.new b r hb hv with h4 | ⟨c,r',hc,hcv,hce⟩
   ·exact .inr (.inl h4)
   ·exact .inr (.inr ⟨c,r',hc,hcv,hce⟩)
theorem ToV.freeze {R:Nat -> RoRow} {nk:Nat} {v:AV} {h:Rows} {F:Fz} {S:AV -> Rows -> Fz -> Prop} (b:Nat) {r:Row} {ro:RoRow} (hb:h.live b = some r) (hr:RoOf r ro)
  (hk:∀ F' x,F.le F' -> Frz F' x ro -> ToV R nk (tk2 b x v) ((tkRows b x h).set b none) F' S):ToV R nk v h F S:=by
 intro m c w m0 h0 w0 F0 hn hd hW hf hs hl
 obtain ⟨F',x,h1,h2,h3,h4,h5⟩:=freeze_ok hW hf hb hr
 refine hk F' x h1 h3 m c w m0 h0 w0 F0 hn ?_ ((WR.tk h5 hW).dropRow b) (FzOK.tk x h4) (hs.dropRow b x) (hl.freeze hs hb h1 h2)
 have:((tkRows b x h).set b none).length = h.length:=by simp [tkRows]
 rw [this]
 exact tk2_den h5 hd
theorem nils_tok {m:Map} (hm:Named m) {n:Nat} {v:Value} (h:Den m n .nils v):Den m n (tok 0 0) v:=by
 simp only [Den] at h
 subst h
 simp only [tok,Den,Map.loc,if_true]
 have:=hm 0
 simp only [Nat.zero_add] at this ⊢
 rw [this]
 exact ⟨(fun e => absurd e (by decide)),by simp [SlDen,tkLoc,CpOK]⟩
end Go.Dc
end
section
namespace Go.Dc
def nmI (k x i:Nat):Nat:=bif Nat.beq i k then x + 15 else i
mutual
/-- The number k told by the name x. -/
def nm (k x:Nat):AV -> AV
 | .ptr true i a b => .ptr true (nmI k x i) a b
 | .sl true i a b c => .sl true (nmI k x i) a b c
 | .fn f a c => .fn f (nmL k x a) (nmL k x c)
 | .ifc t a => .ifc t (nm k x a)
 | .agg cs => .agg (nmL k x cs)
 | .tup cs => .tup (nmL k x cs)
 | .ptr false i a b => .ptr false i a b
 | .sl false i a b c => .sl false i a b c
 | .any => .any
 | .bool b => .bool b
 | .int a b => .int a b
 | .str l => .str l
 | .nilp => .nilp
 | .nils => .nils
 | .nilf => .nilf
 | .nili => .nili
def nmL (k x:Nat):List AV -> List AV
 | [] => []
 | a :: l => nm k x a :: nmL k x l
end
structure NmOK (k x:Nat) (m2 m:Map):Prop where
 mu:m2.mu = m.mu
 ro:∀ i,m2.ro i = m.ro (nmI k x i) \/ ((m2.ro i).vir = true /\ (m.ro (nmI k x i)).vir = true)
structure WRl (m:Map) (h:Rows) (w:World):Prop where
 row:∀ b r,h.live b = some r -> RowOK m h.length (m.mu b) r w
 apart:∀ b b' r r',h.live b = some r -> h.live b' = some r' -> (m.mu b).vir = false -> (m.mu b').vir = false -> (m.mu b).blk = (m.mu b').blk -> b = b'
noncomputable def inner (m:Map) (k x:Nat) (z:Nat):Map:=⟨m.mu,fun i => bif Nat.beq i k then (match x with | 0 => ⟨0,0,z,0,true⟩ | x + 1 => tkLoc (x + 1)) else m.ro i⟩
theorem RoOK.same {m m':Map} {l:Loc} {r:RoRow} {w:World} (h:RoOK m l r w) (hd:∀ i,i < r.n -> ∀ a ∈ (r.at_ i).cells,∀ v,Den m 0 a v -> Den m' 0 a v):RoOK m' l r w:=by
 obtain ⟨h1,h2,h3⟩:=h
 refine ⟨h1,h2,?_⟩
 split
 ·rename_i hv; rw [if_pos hv] at h3; exact h3
 ·rename_i hv
  rw [if_neg hv] at h3
  intro hn
  obtain ⟨c,fz,hc,hel⟩:=h3 hn
  refine ⟨c,fz,hc,fun j hj => ?_⟩
  obtain ⟨hl,hcell⟩:=hel j hj
  refine ⟨hl,fun o a ha => ?_⟩
  obtain ⟨h4,v,h5,h6⟩:=hcell o a ha
  exact ⟨h4,v,h5,hd j hj a (List.mem_of_getElem? ha) v h6⟩
section
variable {P:Program} {R:Nat -> RoRow} {ds:List Deferred} {k x:Nat} {ro:RoRow} {F:Fz} {m:Map} {w:World}
end
end Go.Dc
end
section
namespace Go.Dc
structure RowG (r:Row):Prop where
 vw:∀ f n,RowV f n r r
 ren:∀ g,renRow g r = r
end Go.Dc
end
section
namespace Go.Dc
theorem SafeCallX.by {P:Program} {E:EnvX} {HP:AV -> Rows -> Fz -> Prop} (hm:P.follows .mixedOrders = true) (hE:OKX P E [] HP) {f:FuncId} {fi:FI} (hF:E.F f = some fi) {args:List AV} {h:Rows} {F:Fz} {Q:AV -> Rows -> Fz -> Prop} (n:Nat) {C:Prop} (he:Dc.vcx E n f fi args h Q F = C) (hc:C):SafeCallX P E.R f args h F Q HP :=
 SafeCallX.vcx hm hE hF n (he ▸ hc)
theorem View.preX {L tl:Rows} (hL:∀ c r,L.live c = some r -> RowV some L.length r r):View some L (L ++ tl) where
 lt:=fun c b hc hb => by simp at hb; simp; omega
 inj:=fun c c' b _ _ h1 h2 => by simp at h1 h2; omega
 row:=fun c r hc => .inl ⟨c,r,rfl,by rw [live_append (live_lt hc)]; exact hc,hL c r hc⟩
theorem live1 {r q:Row} {c:Nat} (h:Rows.live [some r] c = some q):q = r:=by
 match c with
 | 0 => simp [Rows.live] at h; exact h.symm
 | c + 1 => simp [Rows.live] at h
structure ViewW (f:Nat -> Option Nat) (hL h:Rows):Prop where
 inj:∀ c c' b r r',hL.live c = some r -> hL.live c' = some r' -> f c = some b -> f c' = some b -> c = c'
 row:∀ c r,hL.live c = some r -> (∃ b r',f c = some b /\ h.live b = some r' /\ RowV f hL.length r r') \/ (f c = none /\ r.len = 0)
end Go.Dc
end
section
namespace Go.Dc
section
variable {P:Program} {R:Nat -> RoRow} {ds:List Deferred} {st:St} {F:Fz} {Q:Exit -> St -> Fz -> Prop} {HP:AV -> Rows -> Fz -> Prop}
end
section
variable {P:Program} {E:EnvX} {ds:List Deferred}
end
end Go.Dc
end
section
namespace Go.Dc
open Go.RowKit
section
variable {P:Program} {R:Nat -> RoRow} {k:Nat} {ro:RoRow} {F:Fz}
end
theorem SafeCallX.at0 {P:Program} {R:Nat -> RoRow} {fn:FuncId} {args:List AV} {h:Rows} {F:Fz} {Q HP:AV -> Fz -> Prop} (hA:gndL args = true)
  (hs:SafeCallX P R fn args [] F (fun v h' F' => gnd v = true /\ Q v F') (fun v h' F' => gnd v = true /\ HP v F')) :
  SafeCallX P R fn args h F (fun v h' F' => h' = h /\ Q v F') (fun v h' F' => h' = h /\ HP v F'):=by
 intro m w m0 h0 w0 F0 vs hd hW hf hst hl
 have hV0:=hW.idView
 have hV:View noView [] h:=⟨fun c b hc => absurd hc (Nat.not_lt_zero _),fun c c' b hc => absurd hc (Nat.not_lt_zero _),fun c r hc => by simp [Rows.live] at hc⟩
 refine (SafeCallX.focus (hL:=[]) hV (gndL_vw _ _ _ hA) hs m w m h w F vs hd hW hf (Step.refl _ _ _) (.refl _ _ _ _)).mono ?_
 have fin:∀ {v v':AV} {cv:Value} {h':Rows} {m':Map} {F':Fz} {w':World},gnd v' = true -> v = ren (ext noView ([]:Rows).length h.length) v' -> Den m' (merged noView ([]:Rows).length ([]:Rows).length h h').length v cv ->
   WR R m' (merged noView ([]:Rows).length ([]:Rows).length h h') w' -> FzOK F' m' (merged noView ([]:Rows).length ([]:Rows).length h h') w' -> Step m h w m' (merged noView ([]:Rows).length ([]:Rows).length h h') w' ->
   ∃ m2,WR R m2 h w' /\ FzOK F' m2 h w' /\ Step m h w m2 h w' /\ Den m2 h.length v' cv:=by
  intro v v' cv h' m' F' w' hg e2 hd' hW' hf' hS'
  have em:merged noView ([]:Rows).length ([]:Rows).length h h' = h ++ shiftRows h.length h':=merged_nil h h'
  rw [em] at hd' hW' hf' hS'
  have hV2:View some h (h ++ shiftRows h.length h'):=hW.prefixView _
  rw [gnd_ren _ _ hg] at e2
  subst e2
  exact ⟨_,hW'.view hV2,hf'.view hV2,hS'.forget hV2 (fun c hc => rfl) (Nat.le_refl _),(gnd_vw some _ v hg).den _ _ _ hd'⟩
 rintro e w' ⟨m',h',F',hW',hf',hl',hs',⟨c,v,rfl,⟨v',h2,⟨hg,hq⟩,e2,e3⟩,hd'⟩ | ⟨c,v,rfl,⟨v',h2,⟨hg,hq⟩,e2,e3⟩,hd'⟩⟩
 ·subst e3
  obtain ⟨m2,q1,q2,q3,q4⟩:=fin hg e2 hd' hW' hf' hs'
  exact ⟨m2,_,F',q1,q2,hl.trans hst hl',hst.trans q3,.inl ⟨c,v',rfl,⟨rfl,hq⟩,q4⟩⟩
 ·subst e3
  obtain ⟨m2,q1,q2,q3,q4⟩:=fin hg e2 hd' hW' hf' hs'
  exact ⟨m2,_,F',q1,q2,hl.trans hst hl',hst.trans q3,.inr ⟨c,v',rfl,⟨rfl,hq⟩,q4⟩⟩
noncomputable def mapX:Map:=⟨fun _ => ⟨0,0,0,0,true⟩,fun i => if i < 15 then ⟨0,0,0,0,true⟩ else tkLoc (i - 15)⟩
noncomputable def RX:Nat -> RoRow:=fun i => ⟨0,(mapX.ro i).esz,0,fun _ => .any⟩
theorem mapX_named:Named mapX:=by
 intro i
 simp only [mapX]
 rw [if_neg (by omega)]
 congr 1
theorem RX_ok (w:World) (i:Nat):RoOK mapX (mapX.ro i) (RX i) w:=by
 refine ⟨rfl,Nat.zero_le _,?_⟩
 split
 ·rfl
 ·intro h; exact absurd h (Nat.lt_irrefl _)
end Go.Dc
end
section
namespace Go.Dc
def layAt:Rows -> List Nat -> Rows -> Rows
 | h,b :: bs,o :: os => layAt (h.set b o) bs os
 | h,_,_ => h
theorem layAt_length:∀ (bs:List Nat) (os:Rows) (h:Rows),(layAt h bs os).length = h.length
 | [],os,h => by cases os <;> rfl
 | b :: bs,[],h => rfl
 | b :: bs,o :: os,h => by rw [layAt,layAt_length bs os,List.length_set]
theorem layAt_out:∀ (bs:List Nat) (os:Rows) (h:Rows) (i:Nat),i ∉ bs -> (layAt h bs os)[i]? = h[i]?
 | [],os,h,i,_ => by cases os <;> rfl
 | b :: bs,[],h,i,_ => rfl
 | b :: bs,o :: os,h,i,hi => by
  rw [layAt,layAt_out bs os _ i (fun h => hi (List.mem_cons_of_mem _ h)),List.getElem?_set_ne (fun e => hi (by rw [e]; exact List.mem_cons_self))]
theorem layAt_in:∀ (bs:List Nat) (os:Rows) (h:Rows) (c i:Nat),bs.Nodup -> os.length = bs.length -> i < h.length -> bs[c]? = some i -> (layAt h bs os)[i]? = os[c]?
 | [],os,h,c,i,_,_,_,hc => by simp at hc
 | b :: bs,[],h,c,i,_,ho,_,_ => by simp at ho
 | b :: bs,o :: os,h,0,i,hd,ho,hi,hc => by
  simp only [List.getElem?_cons_zero,Option.some.injEq] at hc
  subst hc
  rw [layAt,layAt_out bs os _ b (List.nodup_cons.1 hd).1,List.getElem?_set_self hi]; rfl
 | b :: bs,o :: os,h,c + 1,i,hd,ho,hi,hc => by
  rw [layAt,layAt_in bs os _ c i (List.nodup_cons.1 hd).2 (by simpa using ho) (by rw [List.length_set]; exact hi) (by simpa using hc)]; rfl
theorem nodup_inj:∀ {l:List Nat} (_:l.Nodup) (i j b:Nat),l[i]? = some b -> l[j]? = some b -> i = j
 | [],_,i,j,b,h,_ => by simp at h
 | a :: l,hd,0,0,b,_,_ => rfl
 | a :: l,hd,0,j + 1,b,h1,h2 => by
  simp only [List.getElem?_cons_zero,Option.some.injEq] at h1
  subst h1
  exact absurd (List.mem_of_getElem? (by simpa using h2)) (List.nodup_cons.1 hd).1
 | a :: l,hd,i + 1,0,b,h1,h2 => by
  simp only [List.getElem?_cons_zero,Option.some.injEq] at h2
  subst h2
  exact absurd (List.mem_of_getElem? (by simpa using h1)) (List.nodup_cons.1 hd).1
 | a :: l,hd,i + 1,j + 1,b,h1,h2 => by rw [nodup_inj (List.nodup_cons.1 hd).2 i j b (by simpa using h1) (by simpa using h2)]
def posV (bs:List Nat):Nat -> Option Nat:=fun c => bs[c]?
def gP (bs:List Nat) (N:Nat):Nat -> Nat:=fun c => match bs[c]? with | some b => b | none => N + c
theorem ext_pos (bs:List Nat) (N:Nat):ext (posV bs) bs.length N = gP bs N:=by
 funext c
 unfold ext gP posV
 cases h:Nat.blt c bs.length with
 | true => rfl
 | false =>
  have:bs.length <= c:=by
   rcases Nat.lt_or_ge c bs.length with h1 | h1
   ·rw [blt_t h1] at h; cases h
   ·exact h1
  rw [List.getElem?_eq_none this]; rfl
theorem seen_pos {bs:List Nat} {i:Nat} (hi:i ∉ bs):∀ n,seen (posV bs) i n = false
 | 0 => rfl
 | n + 1 => by
  unfold seen posV
  cases h:bs[n]? with
  | none => exact seen_pos hi n
  | some b =>
   have hb:b ∈ bs:=List.mem_of_getElem? h
   have:Nat.beq b i = false:=by rw [Bool.eq_false_iff]; exact fun e => hi (by rw [<- Nat.eq_of_beq_eq_true e]; exact hb)
   show (bif Nat.beq b i then true else seen (posV bs) i n) = false
   rw [this]
   exact seen_pos hi n
theorem gP_in {bs:List Nat} {N c b:Nat} (h:bs[c]? = some b):gP bs N c = b:=by unfold gP; rw [h]
theorem gP_out {bs:List Nat} {N c:Nat} (h:bs.length <= c):gP bs N c = N + c:=by unfold gP; rw [List.getElem?_eq_none h]
theorem merged_pos {bs:List Nat} {h:Rows} (hd:bs.Nodup) (hb:∀ b ∈ bs,b < h.length) (os tl:Rows) (ho:os.length = bs.length) :
  merged (posV bs) bs.length bs.length h (os ++ tl) = layAt h bs (os.map (Option.map (renRow (gP bs h.length)))) ++ (List.replicate bs.length none ++ tl.map (Option.map (renRow (gP bs h.length)))):=by
 unfold merged
 rw [ext_pos]
 refine List.ext_getElem? fun i => ?_
 rw [List.getElem?_map]
 have hinj:∀ c c',gP bs h.length c' = gP bs h.length c -> c' = c:=by
  intro c c' e
  rcases Nat.lt_or_ge c bs.length with h1 | h1 <;> rcases Nat.lt_or_ge c' bs.length with h2 | h2
  ·rw [gP_in (List.getElem?_eq_getElem h1),gP_in (List.getElem?_eq_getElem h2)] at e
   exact nodup_inj hd c' c _ (List.getElem?_eq_getElem h2) (by rw [e]; exact List.getElem?_eq_getElem h1)
  ·rw [gP_in (List.getElem?_eq_getElem h1),gP_out h2] at e
   have:=hb _ (List.getElem_mem h1); omega
  ·rw [gP_out h1,gP_in (List.getElem?_eq_getElem h2)] at e
   have:=hb _ (List.getElem_mem h2); omega
  ·rw [gP_out h1,gP_out h2] at e; omega
 have hfind:∀ c,c < (os ++ tl).length -> findC (gP bs h.length) (gP bs h.length c) (os ++ tl).length = some c:=fun c hc => findC_inj hc (fun c' _ e => hinj c c' e)
 rcases Nat.lt_or_ge i (h.length + (os ++ tl).length) with hlt | hge
 ·rw [List.getElem?_range hlt]
  simp only [Option.map_some]
  rcases Nat.lt_or_ge i h.length with h1 | h1
  ·rw [List.getElem?_append_left (by rw [layAt_length]; exact h1)]
   by_cases hi:i ∈ bs
   ·obtain ⟨c,hc,e⟩:=List.getElem_of_mem hi
    have hc':bs[c]? = some i:=by rw [List.getElem?_eq_getElem hc,e]
    have hf:=hfind c (by rw [List.length_append]; omega)
    rw [gP_in hc'] at hf
    rw [hf,layAt_in bs _ h c i hd (by rw [List.length_map]; exact ho) h1 hc',List.getElem?_map]
    simp only [Rows.live]
    rw [List.getElem?_append_left (by omega),List.getElem?_eq_getElem (by omega)]
    rfl
   ·have hf:findC (gP bs h.length) i (os ++ tl).length = none:=by
     cases hf:findC (gP bs h.length) i (os ++ tl).length with
     | none => rfl
     | some c =>
      have:=(findC_some hf).2
      rcases Nat.lt_or_ge c bs.length with h2 | h2
      ·rw [gP_in (List.getElem?_eq_getElem h2)] at this
       exact absurd (by rw [<- this]; exact List.getElem_mem h2) hi
      ·rw [gP_out h2] at this; omega
    rw [hf,layAt_out bs _ h i hi]
    simp only [seen_pos hi,cond_false,Rows.live,List.getElem?_eq_getElem h1,Option.join_some]
  ·rw [List.getElem?_append_right (by rw [layAt_length]; exact h1),layAt_length]
   obtain ⟨d,rfl⟩:∃ d,i = h.length + d:=⟨i - h.length,by omega⟩
   rw [show h.length + d - h.length = d by omega]
   have hni:h.length + d ∉ bs:=fun hm => by have:=hb _ hm; omega
   rcases Nat.lt_or_ge d bs.length with h2 | h2
   ·have hf:findC (gP bs h.length) (h.length + d) (os ++ tl).length = none:=by
     cases hf:findC (gP bs h.length) (h.length + d) (os ++ tl).length with
     | none => rfl
     | some c =>
      have:=(findC_some hf).2
      rcases Nat.lt_or_ge c bs.length with h3 | h3
      ·rw [gP_in (List.getElem?_eq_getElem h3)] at this
       exact absurd (by rw [<- this]; exact List.getElem_mem h3) hni
      ·rw [gP_out h3] at this; omega
    rw [hf,List.getElem?_append_left (by rw [List.length_replicate]; exact h2),List.getElem?_replicate,if_pos h2]
    simp only [seen_pos hni,cond_false,Rows.live]
    rw [List.getElem?_eq_none (by omega)]; rfl
   ·have hf:=hfind d (by omega)
    rw [gP_out h2] at hf
    rw [hf,List.getElem?_append_right (by rw [List.length_replicate]; exact h2),List.length_replicate,List.getElem?_map]
    simp only [Rows.live]
    have hd':d < os.length + tl.length:=by rw [List.length_append] at hlt; omega
    rw [List.getElem?_append_right (by omega),ho,List.getElem?_eq_getElem (by omega)]
    rfl
 ·rw [List.getElem?_eq_none (by simp; rw [List.length_append] at hge; omega),List.getElem?_eq_none]
  ·rfl
  ·simp only [List.length_append,layAt_length,List.length_replicate,List.length_map]
   rw [List.length_append] at hge; omega
theorem SafeCallX.atN {P:Program} {R:Nat -> RoRow} {fn:FuncId} {argsL args:List AV} {hL h:Rows} {F:Fz} {Q HP:AV -> Rows -> Rows -> Fz -> Prop} (bs:List Nat) (hn:hL.length = bs.length) (hd:bs.Nodup) (hb:∀ b ∈ bs,b < h.length)
  (hr:∀ c r,hL.live c = some r -> ∃ b r',bs[c]? = some b /\ h.live b = some r' /\ RowV (posV bs) bs.length r r') (hA:VwL (posV bs) bs.length argsL args)
  (hs:SafeCallX P R fn argsL hL F (fun v h' F' => ∃ os tl,h' = os ++ tl /\ os.length = bs.length /\ Q v os tl F') (fun v h' F' => ∃ os tl,h' = os ++ tl /\ os.length = bs.length /\ HP v os tl F')) :
  SafeCallX P R fn args h F (fun v h' F' => ∃ v0 os tl,v = ren (gP bs h.length) v0 /\ h' = layAt h bs (os.map (Option.map (renRow (gP bs h.length)))) ++ (List.replicate bs.length none ++ tl.map (Option.map (renRow (gP bs h.length)))) /\ Q v0 os tl F')
   (fun v h' F' => ∃ v0 os tl,v = ren (gP bs h.length) v0 /\ h' = layAt h bs (os.map (Option.map (renRow (gP bs h.length)))) ++ (List.replicate bs.length none ++ tl.map (Option.map (renRow (gP bs h.length)))) /\ HP v0 os tl F'):=by
 have hV:View (posV bs) hL h:=⟨fun c b _ he => hb b (List.mem_of_getElem? he),fun c c' b h1 h2 e1 e2 => by
   exact nodup_inj hd c c' b e1 e2,fun c r hc => by
   obtain ⟨b,r',e1,e2,e3⟩:=hr c r hc
   exact .inl ⟨b,r',e1,e2,by rw [hn]; exact e3⟩⟩
 refine (SafeCallX.focus hV (by rw [hn]; exact hA) hs).mono ?_ ?_
 ·rintro v h' F' _ ⟨v0,h0,⟨os,tl,rfl,ho,hq⟩,rfl,rfl⟩
  rw [hn,ext_pos,merged_pos hd hb os tl ho]
  exact ⟨v0,os,tl,rfl,rfl,hq⟩
 ·rintro v h' F' _ ⟨v0,h0,⟨os,tl,rfl,ho,hq⟩,rfl,rfl⟩
  rw [hn,ext_pos,merged_pos hd hb os tl ho]
  exact ⟨v0,os,tl,rfl,rfl,hq⟩
end Go.Dc
end
section
namespace Go.Dc
section
variable {P:Program} {R:Nat -> RoRow} {ds:List Deferred} {k x:Nat} {ro:RoRow} {F:Fz} {m:Map} {w:World}
end
end Go.Dc
end
section
namespace Go.Dc
structure RowS (f:Nat -> Option Nat) (n:Nat) (r r':Row):Prop where
 ty:r.ty = r'.ty
 esz:r.esz = r'.esz
 len:r.len <= r'.len
 get:∀ i e,r.get? i = some e -> (∀ a ∈ e.cells,a.one = true) /\ ∃ e',r'.get? i = some e' /\ Vw f n e e'
theorem RowV.s {f:Nat -> Option Nat} {n:Nat} {r r':Row} (h:RowV f n r r'):RowS f n r r':=⟨h.ty,h.esz,Nat.le_of_eq h.len,h.get⟩
theorem RowS.gen {f:Nat -> Option Nat} {n:Nat} {t z:Nat} {k k':Nat} {g g':Nat -> AV} (hk:k <= k') (h:∀ i,i < k -> ones (g i) = true /\ Vw f n (g i) (g' i)):RowS f n (.gen t z k g) (.gen t z k' g') where
 ty:=rfl
 esz:=rfl
 len:=hk
 get:=fun i e he => by
  have hi:i < k:=by
   rcases Nat.lt_or_ge i k with hi | hi
   ·exact hi
   ·have:i.blt k = false:=by rw [Bool.eq_false_iff]; simp [Nat.blt_eq]; omega
    simp only [Row.get?,this,cond_false] at he; cases he
  rw [Row.get_gen hi] at he
  simp only [Option.some.injEq] at he
  subst he
  exact ⟨ones_mem (h i hi).1,g' i,Row.get_gen (by omega),(h i hi).2⟩
theorem RowOK.viewS {m:Map} {f:Nat -> Option Nat} {es:Nat -> Nat} {n N:Nat} {l:Loc} {r r':Row} {w:World} (h:RowOK m N l r' w) (hv:RowS f n r r'):RowOK (m.view f es) n l r w:=by
 obtain ⟨h1,h2,h3⟩:=h
 refine ⟨h1.trans hv.esz.symm,Nat.le_trans hv.len h2,?_⟩
 split
 ·rename_i hvir
  rw [if_pos hvir] at h3
  exact ⟨Nat.le_zero.1 (by have:=hv.len; rw [h3.1] at this; exact this),h3.2⟩
 ·rename_i hvir
  rw [if_neg hvir] at h3
  obtain ⟨c,fz,hc,hsz,hfz,hel⟩:=h3
  refine ⟨c,fz,by rw [hv.ty]; exact hc,hsz,hfz,?_⟩
  intro i e he
  obtain ⟨hone,e',he',hvw⟩:=hv.get i e he
  obtain ⟨hlen,hcell⟩:=hel i e' he'
  have hcs:=hvw.cells (one_ne_any hone)
  refine ⟨hcs.length.trans hlen,?_⟩
  intro o a ha
  obtain ⟨b,hb,hab⟩:=hcs.get ha
  obtain ⟨_,v,hv1,hv2⟩:=hcell o b hb
  exact ⟨hone a (List.mem_of_getElem? ha),v,hv1,hab.den _ _ _ hv2⟩
structure ViewS (f:Nat -> Option Nat) (hL h:Rows):Prop where
 inj:∀ c c' b r r',hL.live c = some r -> hL.live c' = some r' -> f c = some b -> f c' = some b -> c = c'
 row:∀ c r,hL.live c = some r -> (∃ b r',f c = some b /\ h.live b = some r' /\ RowS f hL.length r r') \/ (f c = none /\ r.len = 0)
theorem ViewS.real {m:Map} {f:Nat -> Option Nat} {hL h:Rows} (hV:ViewS f hL h) {c:Nat} {r:Row} (hc:hL.live c = some r) (hv:((m.view f hL.es).mu c).vir = false) :
  ∃ b r',f c = some b /\ h.live b = some r' /\ RowS f hL.length r r' /\ (m.view f hL.es).mu c = m.mu b:=by
 rcases hV.row c r hc with ⟨b,r',h1,h2,h3⟩ | ⟨h1,h2⟩
 ·exact ⟨b,r',h1,h2,h3,view_some h1⟩
 ·rw [view_none h1] at hv; simp at hv
theorem WR.viewS {R:Nat -> RoRow} {m:Map} {f:Nat -> Option Nat} {hL h:Rows} {w:World} (hW:WR R m h w) (hV:ViewS f hL h):WR R (m.view f hL.es) hL w where
 row:=fun c r hc => by
  rcases hV.row c r hc with ⟨b,r',h1,h2,h3⟩ | ⟨h1,h2⟩
  ·rw [view_some h1]; exact (hW.row _ _ h2).viewS h3
  ·rw [view_none h1]
   refine ⟨?_,by rw [h2]; exact Nat.zero_le _,?_⟩
   ·show hL.es c = r.esz
    unfold Rows.es
    rw [hc]
   ·rw [if_pos rfl]; exact ⟨h2,rfl⟩
 apart:=fun b b' r r' hb hb' hv hv' he => by
  obtain ⟨d,r1,h1,h2,_,e1⟩:=hV.real hb hv
  obtain ⟨d',r2,h1',h2',_,e2⟩:=hV.real hb' hv'
  rw [e1] at hv he; rw [e2] at hv' he
  have:=hW.apart _ _ _ _ h2 h2' hv hv' he
  subst this
  exact hV.inj b b' _ _ _ hb hb' h1 h1'
 ro:=fun i => (hW.ro i).same fun _ _ _ _ _ hd => Den.ground (m:=m) (m':=m.view f hL.es) rfl hd
 roApart:=fun i b r hb hv hr hn => by
  obtain ⟨d,r1,h1,h2,_,e1⟩:=hV.real hb hv
  rw [e1] at hv ⊢
  exact hW.roApart i _ _ h2 hv hr hn
theorem ToX.fitS {R:Nat -> RoRow} {ds:List Deferred} {nk:Nat} {st stE:St} {F:Fz} {S:St -> Fz -> Prop} (f:Nat -> Option Nat) (hV:ViewS f stE.rows st.rows) (hT:VwL f stE.rows.length stE.tmps st.tmps) (hf:∀ c,c < nk -> f c = some c) (hl:nk <= stE.rows.length)
  (h:ToX R ds nk stE F S):ToX R ds nk st F S:=by
 intro m a w m0 h0 w0 F0 hn hr hF hs hl0
 refine h (m.view f stE.rows.es) a w m0 h0 w0 F0 hn ⟨hr.size.trans hT.length.symm,?_,hr.defers,hr.wr.viewS hV⟩ ⟨hF.blk,?_,hF.ro⟩ ⟨hs.os,hs.tape,hs.output,hs.size,hs.block,Nat.le_trans hn hl,?_,hs.ro,?_⟩ hl0
 ·intro i x hx
  obtain ⟨y,hy,hxy⟩:=hT.get hx
  obtain ⟨c,hc,hd⟩:=hr.tmps i y hy
  exact ⟨c,hc,hxy.den _ _ _ hd⟩
 ·intro c r hc hv
  obtain ⟨b,r',h1,h2,h3,h4⟩:=hV.real hc hv
  rw [h4] at hv ⊢
  exact hF.apart b r' h2 hv
 ·intro b hb
  rw [view_some (hf b (Nat.lt_of_lt_of_le hb hn)),hs.mu b hb]
 ·intro b r hb hv
  obtain ⟨d,r1,h1,h2,_,e1⟩:=hV.real hb hv
  rw [e1] at hv ⊢
  exact hs.new _ _ h2 hv
theorem ToV.fitS {R:Nat -> RoRow} {nk:Nat} {v vE:AV} {h hE:Rows} {F:Fz} {S:AV -> Rows -> Fz -> Prop} (f:Nat -> Option Nat) (hV:ViewS f hE h) (hv:Vw f hE.length vE v) (hf:∀ c,c < nk -> f c = some c) (hl:nk <= hE.length)
  (hh:ToV R nk vE hE F S):ToV R nk v h F S:=by
 intro m c w m0 h0 w0 F0 hn hd hW hF hs hl0
 refine hh (m.view f hE.es) c w m0 h0 w0 F0 hn (hv.den _ _ _ hd) (hW.viewS hV) ⟨hF.blk,?_,hF.ro⟩ ⟨hs.os,hs.tape,hs.output,hs.size,hs.block,Nat.le_trans hn hl,?_,hs.ro,?_⟩ hl0
 ·intro c r hc hv
  obtain ⟨b,r',h1,h2,h3,h4⟩:=hV.real hc hv
  rw [h4] at hv ⊢
  exact hF.apart b r' h2 hv
 ·intro b hb
  rw [view_some (hf b (Nat.lt_of_lt_of_le hb hn)),hs.mu b hb]
 ·intro b r hb hv
  obtain ⟨d,r1,h1,h2,_,e1⟩:=hV.real hb hv
  rw [e1] at hv ⊢
  exact hs.new _ _ h2 hv
structure ViewT (f:Nat -> Option Nat) (N:Nat) (h:Rows) (c:Nat) (o:Option Row):Prop where
 row:∀ r,o = some r -> (∃ b r',f c = some b /\ h.live b = some r' /\ RowS f N r r') \/ (f c = none /\ r.len = 0)
theorem ViewT.at_ {f:Nat -> Option Nat} {N:Nat} {h:Rows} {c b:Nat} {r r':Row} (hf:f c = some b) (hb:h.live b = some r') (hr:RowS f N r r'):ViewT f N h c (some r) :=
 ⟨fun q hq => by cases hq; exact .inl ⟨b,r',hf,hb,hr⟩⟩
theorem ViewT.void {f:Nat -> Option Nat} {N:Nat} {h:Rows} {c:Nat} {r:Row} (hf:f c = none) (hr:r.len = 0):ViewT f N h c (some r):=⟨fun q hq => by cases hq; exact .inr ⟨hf,hr⟩⟩
theorem ViewT.none {f:Nat -> Option Nat} {N:Nat} {h:Rows} {c:Nat}:ViewT f N h c none:=⟨fun q hq => by cases hq⟩
theorem ViewS.of {f:Nat -> Option Nat} {hE h:Rows} (hl:∀ c o,hE[c]? = some o -> ViewT f hE.length h c o) (hi:∀ c c' b,c < hE.length -> c' < hE.length -> f c = some b -> f c' = some b -> c = c'):ViewS f hE h where
 inj:=fun c c' b r r' hc hc' => hi c c' b (live_lt hc) (live_lt hc')
 row:=fun c r hc => by
  have hlt:=live_lt hc
  refine (hl c (hE[c]) (List.getElem?_eq_getElem hlt)).row r ?_
  unfold Rows.live at hc
  rw [List.getElem?_eq_getElem hlt] at hc
  simpa using hc
end Go.Dc
end
section
namespace Go.Dc
open Go.RowKit
def RkVw1 (f:Nat -> Option Nat):AV -> AV -> Prop
 | .ptr false b i o,y => ∃ c,f b = some c /\ y = .ptr true c i o
 | .sl false b i len _,y => ∃ c,f b = some c /\ y = .sl true c i len .no
 | .sl true x i len c,y => 15 <= x /\ y = .sl true x i len c
 | .any,y => y = .any
 | x,y => flat1 x = true /\ y = x
def RkVw (f:Nat -> Option Nat) (x y:AV):Prop:=match x with
 | .agg cs => ∃ ds,y = .agg ds /\ All2 (RkVw1 f) cs ds
 | x => RkVw1 f x y
section
variable {m m2:Map} {n:Nat} {f:Nat -> Option Nat}
end
structure RkRowV (f:Nat -> Option Nat) (r:Row) (q:RoRow):Prop where
 ty:q.ty = r.ty
 esz:q.esz = r.esz
 n:q.n <= r.len
 at_:∀ (j:Nat) (e:AV),j < q.n -> r.get? j = some e -> RkVw f e (q.at_ j)
def FrzC (F:Fz) (x:Nat) (r:RoRow):Prop:=(x ≠ 0 /\ Frz F x r) \/ (r.n = 0 /\ r.esz = (tkLoc x).esz)
theorem FrzC.ok {R:Nat -> RoRow} {F:Fz} {m m2:Map} {h:Rows} {w:World} (hf:FzOK F m h w) (hn:Named m2) {x:Nat} {r:RoRow} (hc:FrzC F x r):RoOK m2 (m2.ro (x + 15)) r w:=by
 rw [hn x]
 rcases hc with ⟨h0,hfr⟩ | ⟨h1,h2⟩
 ·rcases hfr with ⟨rfl,hz⟩ | ⟨blk,off,ext,c,hx,hne,hF,hcell⟩
  ·exact absurd rfl h0
  ·rw [hx,tkLoc_name]
   refine ⟨rfl,hne,?_⟩
   simp only [Bool.false_eq_true,if_false]
   intro _
   obtain ⟨fz,hh⟩:=hf.blk _ _ _ hF
   refine ⟨c,fz,hh,fun j hj => ?_⟩
   obtain ⟨h1,h2⟩:=hcell j hj
   refine ⟨h1,fun o a ha => ?_⟩
   obtain ⟨h3,v,h4,h5⟩:=h2 o a ha
   exact ⟨h3,v,h4,h5 _ _ hn⟩
 ·refine ⟨h2.symm,by rw [h1]; exact Nat.zero_le _,?_⟩
  split
  ·exact h1
  ·intro hh; omega
end Go.Dc
namespace Go.Dc
open Go.RowKit
theorem SafeCall.cloneNil {P:Program} {R:Nat -> RoRow} {f:FuncId} {t z:TypeId} (hc:∀ (base:Option Addr) (c:Nat) (w:World),Calls P f #[.slice base 0 c] w fun e w' => ∃ ao,e = .returned (.slice ao 0 0) /\ (w' = w \/ w' = w.alloc (.cells #[] t)))
  {ro:Bool} {q:Nat} {cp:Cp} {h:Rows} (H:Nat -> AV):SafeCall P R f [.sl ro q 0 0 cp] h fun v h' => v = .sl false h.length 0 0 .no /\ h' = h ++ [some (.gen t z 0 H)]:=by
 intro m w m0 h0 w0 aa has hW hS
 simp only [DenL] at has
 obtain ⟨a1,l1,e1,d1,rfl⟩:=has
 obtain rfl:aa = #[a1]:=by rw [<- Array.toList_inj]; simpa using e1
 have hv:∃ base c,a1 = .slice base 0 c:=by
  simp only [Den] at d1
  have d2:=d1.2
  unfold SlDen at d2
  split at d2
  ·obtain ⟨_,ao,rfl,_⟩:=d2; exact ⟨_,_,rfl⟩
  ·obtain ⟨ad,cap,rfl,_⟩:=d2; exact ⟨_,_,rfl⟩
 obtain ⟨base,c,rfl⟩:=hv
 refine (hc base c w).mono ?_
 rintro e w' ⟨ao,rfl,hw⟩
 have key:Others w w' /\ w'.os = w.os /\ w'.tape = w.tape /\ w'.output = w.output /\ ∀ k,k < w.heap.size -> w'.heap[k]? = w.heap[k]?:=by
  rcases hw with rfl | rfl
  ·exact ⟨⟨Nat.le_refl _,fun _ _ _ _ h => h⟩,rfl,rfl,rfl,fun _ _ => rfl⟩
  ·have hb:∀ k,k < w.heap.size -> (w.alloc (.cells #[] t)).heap[k]? = w.heap[k]?:=fun k hk => by
    show (w.heap.push _)[k]? = _
    rw [Array.getElem?_push,if_neg (by omega)]
   refine ⟨⟨by show w.heap.size <= (w.heap.push _).size; simp,fun k c t fz hk => by rw [hb k (Array.getElem?_eq_some_iff.1 hk).1]; exact hk⟩,rfl,rfl,rfl,hb⟩
 obtain ⟨ho,k1,k2,k3,hbelow⟩:=key
 have ht:Turned w0.heap.size w w':=⟨k1,k2,k3,ho,fun k hk => hbelow k (Nat.lt_of_lt_of_le hk hS.size)⟩
 obtain ⟨vW,vS⟩:=(hW.others ho).pushVir (.gen t z 0 H) rfl
 refine ⟨_,.sl false h.length 0 0 .no,_,_,rfl,⟨rfl,rfl⟩,?_,vW,(hS.turned ht).trans vS⟩
 simp only [Den]
 refine ⟨fun _ => by simp,?_⟩
 simp only [Map.loc,Bool.false_eq_true,if_false,Map.setMu_same,SlDen]
 exact ⟨trivial,ao,rfl,trivial⟩
end Go.Dc
end
