/- Pieces of code put together by hand; operations shown by hand; deferred calls. -/
import Derived.Test.YtfajmjhijanggaaDcXe
import Derived.Recover
import Derived.WideLaws
set_option linter.unusedVariables false
set_option linter.unusedSimpArgs false
namespace Go.Dc
section
variable {P:Program} {R:Nat -> RoRow} {ds:List Deferred} {st:St} {F:Fz} {Q:Exit -> St -> Fz -> Prop} {HP:AV -> Rows -> Fz -> Prop}
theorem SafeX.seq {x y:Code} (h:SafeX P R ds x st F (fun e st' F' => match e with | .normal => SafeX P R ds y st' F' Q HP | e => Q e st' F') HP):SafeX P R ds (.seq x y) st F Q HP:=by
 intro m a w m0 h0 w0 F0 hr hf hs hl
 refine wp_seq (wp_mono (h m a w m0 h0 w0 F0 hr hf hs hl) ?_)
 intro e a' w' hp
 cases e with
 | panic ch => exact hp
 | goto l => obtain ⟨_,_,_,h,_⟩:=hp; exact h.elim
 | outgrown => obtain ⟨_,_,_,h,_⟩:=hp; exact h.elim
 | normal => obtain ⟨m',st',F',_,hq,hr',hf',hs',hl'⟩:=hp; exact hq m' a' w' m0 h0 w0 F0 hr' hf' hs' hl'
 | _ => exact hp
theorem SafeX.condB {x:Operand} {y z:Code} {b:Bool} (hx:st.ev x = .bool b) (h:SafeX P R ds (cond b y z) st F Q HP):SafeX P R ds (.cond x y z) st F Q HP:=by
 intro m a w m0 h0 w0 F0 hr hf hs hl
 have hev:=hr.ev x
 rw [hx] at hev
 simp only [Den] at hev
 cases b with
 | true => exact wp_cond_true hev (h m a w m0 h0 w0 F0 hr hf hs hl)
 | false => exact wp_cond_false hev (h m a w m0 h0 w0 F0 hr hf hs hl)
theorem SafeX.skip (h:Q .normal st F):SafeX P R ds .skip st F Q HP:=fun m a w m0 h0 w0 F0 hr hf hs hl => wp_skip ⟨m,st,F,trivial,h,hr,hf,hs,hl⟩
def HandOp (P:Program) (R:Nat -> RoRow) (o:Oper) (st:St) (v:AV):Prop:=∀ ds m a w,RelX R ds m st a w -> ∃ c,(execOp a.eval o).run P w = .ok (.value c) w /\ Den m st.rows.length v c
theorem SafeX.handOp {E:EnvX} (hT:TabOK P E.T) {id:Nat} {ops:Array Oper} {pre suf:List Oper} {o:Oper} (ho:ops.toList = pre ++ o :: suf) (hg:o.guard = none)
  {st:St} {F:Fz} {k:St -> Fz -> Prop} (hk:runOpsB ansX E (fun _ _ _ _ _ => False) ops.toList pre st (fun st1 F1 => ∃ v,HandOp P E.R o st1 v /\ runOpsB ansX E (fun _ _ _ _ _ => False) ops.toList suf (st1.put o.dst v) k F1) F) :
  SafeX P E.R ds (.region id ops false) st F (fun e st' F' => e = .normal /\ k st' F') HP:=by
 intro m a w m0 h0 w0 F0 hr hf hs hl
 refine wp_region_list ?_
 rw [ho]
 refine wpList_append pre a w ?_
 refine runOps_okX (HP:=HP) ansX_holds hT (call:=fun _ _ _ _ _ => False) (fun f args h k F hh => hh.elim) ops pre st _ F hk hr hf hs hl _ ?_ ?_
 ·intro a' c v m' h' w' F' hd h1 h2 h3 h4 h5 h6
  exact ⟨m',h',v,c,F',rfl,h1,h2,h3,h4,h5,h6,hd⟩
 ·rintro F' m' st' a' w' ⟨v,hv,hsuf⟩ hr' hf' hs' hl'
  unfold wpList
  have hw:Region.wanted o (yielded ops a'.tmps) = true:=by simp [Region.wanted,hg]
  rw [if_pos hw]
  refine .inl ?_
  unfold Oper.wp
  obtain ⟨c,hrun,hd⟩:=hv ds m' a' w' hr'
  rw [hrun]
  have hr2:=hr'.put (Step.refl _ _ _) hr'.wr o.dst hd
  refine runOps_okX (HP:=HP) ansX_holds hT (call:=fun _ _ _ _ _ => False) (fun f args h k F hh => hh.elim) ops suf _ _ F' hsuf hr2 hf' hs' hl' _ (postX_to _ _ _ _ _ _ _ _) ?_
  intro F2 m2 st2 a2 w2 hk2 hr3 hf3 hs3 hl3
  exact ⟨m2,st2,F2,trivial,⟨rfl,hk2⟩,hr3,hf3,hs3,hl3⟩
end
theorem HandOp.neqNil {P:Program} {R:Nat -> RoRow} {dst:Option Tmp} {t:TypeId} {x:Operand} {ot:TypeId} {ty:TypeId} {pos:String} {after:Array Edge} {guard:Option (Nat × Bool)} {st:St}
  (ht:P.underlying t = some (.interface (P.methodsAt t))) {b:Bool} (hx:(b = true /\ ∃ t y,st.ev x = .ifc t y) \/ (b = false /\ st.ev x = .nili)):HandOp P R ⟨dst,.binOp .neq t x (.const .nilIface) ot,ty,pos,after,guard⟩ st (.bool b):=by
 intro ds m a w hr
 have hev:=hr.ev x
 have hc:a.eval (.const .nilIface) = .nilIface:=rfl
 refine ⟨.bool b,?_,by simp [Den]⟩
 rcases hx with ⟨rfl,t',y,hx⟩ | ⟨rfl,hx⟩
 ·rw [hx] at hev
  simp only [Den] at hev
  obtain ⟨u,hu,_⟩:=hev
  have h1:=run_equal_held_nil (P:=P) w t t' u ht
  simp [execOp,hu,hc,eqGuard,binOp,Sem.run_bind,h1]
 ·rw [hx] at hev
  simp only [Den] at hev
  have h1:=run_equal_nil_nil (P:=P) w t ht
  simp [execOp,hev,hc,eqGuard,binOp,Sem.run_bind,h1]
theorem HandOp.assertIs {P:Program} {R:Nat -> RoRow} {dst:Option Tmp} {t want:TypeId} {x:Operand} {ty:TypeId} {pos:String} {after:Array Edge} {guard:Option (Nat × Bool)} {st:St} {y:AV}
  {fs:Array Field} (hu:P.underlying want = some (.struct fs)) (hx:st.ev x = .ifc want y):HandOp P R ⟨dst,.typeAssert x t want true,ty,pos,after,guard⟩ st (.tup [y,.bool true]):=by
 intro ds m a w hr
 have hev:=hr.ev x
 rw [hx] at hev
 simp only [Den] at hev
 obtain ⟨u,he,hd⟩:=hev
 refine ⟨.tuple #[u,.bool true],?_,by simp only [Den,DenL]; exact ⟨_,rfl,u,[.bool true],rfl,hd,.bool true,[],rfl,rfl,rfl⟩⟩
 have h1:(underlying want).run P w = .ok (.struct fs) w:=by simp [underlying,program,Sem.run,hu,pure]
 simp [execOp,he,Instr.typeAssert,Sem.run_bind,h1]
theorem enter_rel {R:Nat -> RoRow} {m:Map} {args:List AV} {h:Rows} {w:World} {as:Array Value} (n:Nat) (has:DenL m h.length args as.toList) (hW:WR R m h w) :
  RelX R [] m ⟨enterT args n,h⟩ { tmps:=as ++ Array.replicate (n - as.size) undef,defers:=[] } w:=by
 have hlen:=has.length
 simp only [Array.length_toList] at hlen
 refine ⟨by simp [enterT,hlen],?_,rfl,hW⟩
 intro i x hx
 simp only [enterT] at hx
 by_cases hi:i < args.length
 ·rw [List.getElem?_append_left hi] at hx
  obtain ⟨c,hc,hd⟩:=has.get hx
  have hi2:i < as.size:=by omega
  refine ⟨c,?_,hd⟩
  rw [Array.getElem?_append_left hi2]
  simpa using hc
 ·rw [List.getElem?_append_right (by omega)] at hx
  have hx2:=List.getElem?_eq_some_iff.1 hx
  obtain ⟨hlt,hxe⟩:=hx2
  simp at hlt hxe
  subst hxe
  refine ⟨undef,?_,by simp [Den,DenL,undef]⟩
  rw [Array.getElem?_append_right (by omega)]
  rw [Array.getElem?_replicate]
  rw [if_pos (by omega)]
theorem results_run {P:Program} {T:TypeId -> Option TI} (hT:TabOK P T) {R:Nat -> RoRow} {ds:List Deferred} {f:FuncId} {fi:FI} (hF:FnOK P f fi) {m:Map} {st:St} {a:Act} {w:World} (hr:RelX R ds m st a w) {vs:List AV} (hvs:ResOK T R st fi.results vs) :
  ∀ fn,P.funcs[f]? = some fn -> ∃ c,(results fn a.tmps).run P w = .ok c w /\ Den m st.rows.length (tupOf vs) c:=by
 intro fn hfn0
 obtain ⟨fn',hfn,hbody,hnt,hres,hname⟩:=hF.fn
 rw [hfn] at hfn0; cases hfn0
 have hr':=hr.bare
 have hres':∃ F:ResultVar -> Sem Value,(∀ t,F (.tmp t) = pure (a.tmps.getD t undef)) /\ (∀ x t,F (.cell x t) = do loadVar t (<- asAddr (a.tmps.getD x undef))) /\
   results fn a.tmps = (do let vs <- fn.results.mapM F; pure (if h:vs.size = 1 then vs[0] else .tuple vs)):=⟨_,fun _ => rfl,fun _ _ => rfl,rfl⟩
 obtain ⟨F,hF1,hF2,hres'⟩:=hres'
 rw [hres',hres]
 simp only [Sem.run_bind]
 rw [List.mapM_toArray]
 simp only [Sem.run_map]
 obtain ⟨cs,hcs,hd⟩:=res_run hT hr' F hF1 hF2 hvs
 rw [hcs]
 simp only [Result.andThen_ok,Sem.run_pure]
 refine ⟨_,rfl,?_⟩
 cases vs with
 | nil =>
  simp only [DenL] at hd
  subst hd
  simp [tupOf,Den,DenL]
 | cons v vs =>
  simp only [DenL] at hd
  obtain ⟨u,us,rfl,h1,h2⟩:=hd
  cases vs with
  | nil =>
   simp only [DenL] at h2
   subst h2
   simpa [tupOf] using h1
  | cons v2 vs =>
   simp only [DenL] at h2
   obtain ⟨u2,us,rfl,h2,h3⟩:=h2
   simp only [tupOf,Den]
   refine ⟨(u :: u2 :: us).toArray,by simp,?_⟩
   simp only [DenL]
   exact ⟨u,_,rfl,h1,u2,us,rfl,h2,h3⟩
theorem RelX.carry {R:Nat -> RoRow} {ds:List Deferred} {m m':Map} {st:St} {a:Act} {w w':World} {h':Rows} (hr:RelX R ds m st a w) (hs:Step m st.rows w m' h' w') (hW:WR R m' h' w'):RelX R ds m' ⟨st.tmps,h'⟩ a w' where
 size:=hr.size
 tmps:=fun i x hx => by
  obtain ⟨c,hc,hd⟩:=hr.tmps i x hx
  exact ⟨c,hc,Den.mono hs.len hs.mu hs.ro _ _ hd⟩
 defers:=hr.defers
 wr:=hW
abbrev nocall:FuncId -> List AV -> Rows -> (AV -> Rows -> Fz -> Prop) -> Fz -> Prop:=fun _ _ _ _ _ => False
theorem denL_app {m:Map} {n:Nat}:∀ {l1 l2:List AV} {v1 v2:List Value},DenL m n l1 v1 -> DenL m n l2 v2 -> DenL m n (l1 ++ l2) (v1 ++ v2)
 | [],l2,v1,v2,h1,h2 => by simp only [DenL] at h1; subst h1; simpa using h2
 | x :: l1,l2,v1,v2,h1,h2 => by
  simp only [DenL] at h1
  obtain ⟨u,us,rfl,hd,hl⟩:=h1
  simp only [List.cons_append,DenL]
  exact ⟨u,_,rfl,hd,denL_app hl h2⟩
section
variable {P:Program} {E:EnvX} {ds:List Deferred}
theorem wp_callRegion (hT:TabOK P E.T) {id:Nat} {ops:Array Oper} {pre suf:List Oper} {o:Oper} (ho:ops.toList = pre ++ o :: suf) (hog:o.guard = none) {fop:Operand} {cargs:Array Operand} {atys:Array TypeId} (hop:o.op = .call ⟨.value fop,cargs,atys⟩)
  {st st1:St} {F:Fz} (hpre:∀ k:St -> Fz -> Prop,k st1 F -> runOpsB ansX E nocall ops.toList pre st k F) {g:FuncId} {first cap:List AV} (hfn:st1.ev fop = .fn g first cap) {fi:FI} (hF:FnOK P g fi)
  {Qc HPc:AV -> Rows -> Fz -> Prop} (hc:SafeCallX P E.R g (first ++ (cargs.toList.map st1.ev ++ cap)) st1.rows F Qc HPc) {Qf:Exit -> Act -> World -> Prop}
  {m:Map} {a:Act} {w:World} {m0:Map} {h0:Rows} {w0:World} {F0:Fz} (hr:RelX E.R ds m st a w) (hf:FzOK F m st.rows w) (hs:Step m0 h0 w0 m st.rows w) (hl:F0.To m0 h0 w0 F)
  (hret:∀ v h' F' m' a' w',Qc v h' F' -> RelX E.R ds m' ⟨putT st1.tmps o.dst v,h'⟩ a' w' -> FzOK F' m' h' w' -> Step m0 h0 w0 m' h' w' -> F0.To m0 h0 w0 F' -> wpList P ops Qf suf a' w')
  (hpan:∀ a' v h' F' m' c w',HPc v h' F' -> RelX E.R ds m' ⟨st1.tmps,h'⟩ a' w' -> Den m' h'.length v c -> FzOK F' m' h' w' -> Step m0 h0 w0 m' h' w' -> F0.To m0 h0 w0 F' -> Qf (.panic [{ v:=c,recovered:=false }]) a' w') :
  (Code.region id ops false).wp P Qf a w:=by
 refine wp_region_list ?_
 rw [ho]
 refine wpList_append pre a w ?_
 refine runOps_okX (HP:=fun _ _ _ => False) ansX_holds hT (call:=nocall) (fun f args h k F hh => hh.elim) ops pre st (fun st' F' => st' = st1 /\ F' = F) F (hpre _ ⟨rfl,rfl⟩) hr hf hs hl _ ?_ ?_
 ·intro a' c v m' h' w' F' _ h1; exact h1.elim
 ·rintro F' m1 st' a1 w1 ⟨rfl,rfl⟩ hr1 hf1 hs1 hl1
  unfold wpList
  have hw:Region.wanted o (yielded ops a1.tmps) = true:=by simp [Region.wanted,hog]
  rw [if_pos hw]
  refine .inl ?_
  unfold Oper.wp
  have hev:=hr1.ev fop
  rw [hfn] at hev
  simp only [Den] at hev
  obtain ⟨us,vs,hfe,hus,hvs⟩:=hev
  obtain ⟨fn,hfn1,hbody,_,_,hname⟩:=hF.fn
  have hrun:(execOp a1.eval o).run P w1 = .ok (.enter g (us ++ cargs.map a1.eval ++ vs)) w1:=by
   obtain ⟨dst,op,type,pos,after,guard⟩:=o
   simp only at hop
   subst hop
   simp only [execOp,resolve,Sem.run_bind,Deferred.ofValue,hfe,Sem.run_pure,Result.andThen_ok,invoke,callFunc]
   simp only [program,Sem.run,pure,Result.andThen_ok,hfn1,Sem.bind]
   have hb:fn.body.isNone = false:=by rw [hbody]; rfl
   simp [hname,hb,Sem.run]
  rw [hrun]
  have hargs:DenL m1 st'.rows.length (first ++ (cargs.toList.map st'.ev ++ cap)) (us ++ cargs.map a1.eval ++ vs).toList:=by
   have hm:DenL m1 st'.rows.length (cargs.toList.map st'.ev) (cargs.map a1.eval).toList:=by simpa using DenL.map_op hr1.ev cargs.toList
   have:=denL_app hus (denL_app hm hvs)
   simpa [List.append_assoc] using this
  refine (hc m1 w1 m1 st'.rows w1 F' _ hargs hr1.wr hf1 (Step.refl _ _ _) (.refl _ _ _ _)).mono ?_
  rintro e w' ⟨m',h',F2,hW,hf',hle,hS,⟨c,v,rfl,hk,hd⟩ | ⟨c,v,rfl,hk,hd⟩⟩
  ·exact hret v h' F2 m' _ w' hk (hr1.put hS hW o.dst hd) hf' (hs1.trans hS) (hl1.trans hs1 hle)
  ·exact hpan a1 v h' F2 m' c w' hk (hr1.carry hS hW) hd hf' (hs1.trans hS) (hl1.trans hs1 hle)
theorem wp_deferRegion (hT:TabOK P E.T) {id:Nat} {ops:Array Oper} {pre:List Oper} {o:Oper} (ho:ops.toList = pre ++ [o]) (hog:o.guard = none) {fop:Operand} {atys:Array TypeId} (hop:o.op = .defer ⟨.value fop,#[],atys⟩) (hod:o.dst = none)
  {st st1:St} {F:Fz} (hpre:∀ k:St -> Fz -> Prop,k st1 F -> runOpsB ansX E nocall ops.toList pre st k F) {g:FuncId} {cap:List AV} (hfn:st1.ev fop = .fn g [] cap)
  {Qf:Exit -> Act -> World -> Prop} {m:Map} {a:Act} {w:World} {m0:Map} {h0:Rows} {w0:World} {F0:Fz} (hr:RelX E.R [] m st a w) (hf:FzOK F m st.rows w) (hs:Step m0 h0 w0 m st.rows w) (hl:F0.To m0 h0 w0 F)
  (hret:∀ vs m' a' w',DenL m' st1.rows.length cap vs.toList -> RelX E.R [{ target:=.fn (.func g) vs,args:=#[] }] m' st1 a' w' -> FzOK F m' st1.rows w' -> Step m0 h0 w0 m' st1.rows w' -> F0.To m0 h0 w0 F -> Qf .normal a' w') :
  (Code.region id ops false).wp P Qf a w:=by
 refine wp_region_list ?_
 rw [ho]
 refine wpList_append pre a w ?_
 refine runOps_okX (HP:=fun _ _ _ => False) ansX_holds hT (call:=nocall) (fun f args h k F hh => hh.elim) ops pre st (fun st' F' => st' = st1 /\ F' = F) F (hpre _ ⟨rfl,rfl⟩) hr hf hs hl _ ?_ ?_
 ·intro a' c v m' h' w' F' _ h1; exact h1.elim
 ·rintro F' m1 st' a1 w1 ⟨rfl,rfl⟩ hr1 hf1 hs1 hl1
  unfold wpList
  have hw:Region.wanted o (yielded ops a1.tmps) = true:=by simp [Region.wanted,hog]
  rw [if_pos hw]
  refine .inl ?_
  unfold Oper.wp
  have hev:=hr1.ev fop
  rw [hfn] at hev
  simp only [Den] at hev
  obtain ⟨us,vs,hfe,hus,hvs⟩:=hev
  simp only [DenL] at hus
  have hus:us = #[]:=by cases us; simpa using hus
  subst hus
  have hrun:(execOp a1.eval o).run P w1 = .ok (.defer { target:=.fn (.func g) vs,args:=#[] }) w1:=by
   obtain ⟨dst,op,type,pos,after,guard⟩:=o
   simp only at hop
   subst hop
   simp [execOp,resolve,Sem.run_bind,Deferred.ofValue,hfe]
  rw [hrun]
  have e:({ a1 with defers:={ target:=.fn (.func g) vs,args:=#[] } :: a1.defers }:Act).put o.dst undef = { tmps:=a1.tmps,defers:=[{ target:=.fn (.func g) vs,args:=#[] }] }:=by
   rw [hod,hr1.defers]; rfl
  show wpList P ops Qf [] (({ a1 with defers:={ target:=.fn (.func g) vs,args:=#[] } :: a1.defers }:Act).put o.dst undef) w1
  rw [e]
  exact wpList_nil (hret vs m1 _ w1 hvs ⟨hr1.size,hr1.tmps,rfl,hr1.wr⟩ hf1 hs1 hl1)
end
theorem wpOpsS_recover {P:Program} {ops:Array Oper} {Q:Exit -> Act -> List Frame -> World -> Prop} {i:Nat} {rest:List Nat} {a:Act} {cs:List Frame} {w:World} {o:Oper} (ho:ops[i]? = some o) (hw:Region.wanted o (yielded ops a.tmps) = true) (hr:(execOp a.eval o).run P w = .ok .recover w)
  (h:match recoverD cs with | some (v,cs') => wpOpsS P ops Q rest (a.put o.dst v) cs' w | none => wpOpsS P ops Q rest (a.put o.dst .nilIface) cs w):wpOpsS P ops Q (i :: rest) a cs w:=by
 unfold wpOpsS
 rw [ho]
 simp only [hw,if_true,hr]
 exact h
theorem wpOpsS_value {P:Program} {ops:Array Oper} {Q:Exit -> Act -> List Frame -> World -> Prop} {i:Nat} {rest:List Nat} {a:Act} {cs:List Frame} {w:World} {o:Oper} {v:Value} (ho:ops[i]? = some o) (hw:Region.wanted o (yielded ops a.tmps) = true) (hr:(execOp a.eval o).run P w = .ok (.value v) w)
  (h:wpOpsS P ops Q rest (a.put o.dst v) cs w):wpOpsS P ops Q (i :: rest) a cs w:=by
 unfold wpOpsS
 rw [ho]
 simp only [hw,if_true,hr]
 exact h
end Go.Dc
