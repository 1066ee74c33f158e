/- A region's operations in two parts, with a row told otherwise in between. -/
import Derived.Test.YtfajmjhijanggaaDcXh
set_option linter.unusedVariables false
set_option linter.unusedSimpArgs false
namespace Go.Dc
theorem wpList_mono {P:Program} {ops:Array Oper} {Q Q':Exit -> Act -> World -> Prop} (hq:∀ e a w,Q e a w -> Q' e a w):∀ (l:List Oper) (a:Act) (w:World),wpList P ops Q l a w -> wpList P ops Q' l a w
 | [],a,w,h => hq _ _ _ h
 | o :: l,a,w,h => by
  unfold wpList at h ⊢
  split
  ·rename_i hw
   rw [if_pos hw] at h
   rcases h with h | ⟨h1,a',w',h2⟩
   ·exact .inl (upon_mono (fun a w h => wpList_mono hq l a w h) (fun e a w _ h => hq e a w h) _ h)
   ·exact .inr ⟨h1,a',w',hq _ _ _ h2⟩
  ·rename_i hw
   rw [if_neg hw] at h
   exact wpList_mono hq l _ _ h
def SafeO (P:Program) (R:Nat -> RoRow) (ds:List Deferred) (ops:Array Oper) (l:List Oper) (st:St) (F:Fz) (Q:Exit -> St -> Fz -> Prop) (HP:AV -> Rows -> Fz -> Prop):Prop :=
 ∀ m a w m0 h0 w0 F0,RelX R ds m st a w -> FzOK F m st.rows w -> Step m0 h0 w0 m st.rows w -> F0.To m0 h0 w0 F -> wpList P ops (PostX R ds Q HP m0 h0 w0 F0) l a w
theorem SafeX.ofO {P:Program} {R:Nat -> RoRow} {ds:List Deferred} {id:Nat} {ops:Array Oper} {st:St} {F:Fz} {Q:Exit -> St -> Fz -> Prop} {HP:AV -> Rows -> Fz -> Prop} (h:SafeO P R ds ops ops.toList st F Q HP):SafeX P R ds (.region id ops false) st F Q HP :=
 fun m a w m0 h0 w0 F0 hr hf hs hl => wp_region_list (h m a w m0 h0 w0 F0 hr hf hs hl)
def callE (E:EnvX):FuncId -> List AV -> Rows -> (AV -> Rows -> Fz -> Prop) -> Fz -> Prop:=fun g args rows k => match E.calls g with | some spec => spec args rows k | none => fun _ => False
theorem callE_ok {P:Program} {E:EnvX} {ds:List Deferred} {HP:AV -> Rows -> Fz -> Prop} (hE:OKX P E ds HP):CallOKX P E.R atF HP (callE E):=by
 intro f args h k F hk
 unfold callE at hk
 cases hc:E.calls f with
 | none => rw [hc] at hk; exact hk.elim
 | some spec => rw [hc] at hk; exact hE.calls f spec hc args h k F hk
theorem SafeO.pre {P:Program} {E:EnvX} {ds:List Deferred} {ops:Array Oper} {pre suf:List Oper} {st:St} {F:Fz} {K:St -> Fz -> Prop} {Q:Exit -> St -> Fz -> Prop} {HP:AV -> Rows -> Fz -> Prop} (hE:OKX P E ds HP)
  (hk:runOpsB ansX E (callE E) ops.toList pre st K F) (hs:∀ st1 F1,K st1 F1 -> SafeO P E.R ds ops suf st1 F1 Q HP):SafeO P E.R ds ops (pre ++ suf) st F Q HP:=by
 intro m a w m0 h0 w0 F0 hr hf hst hl
 refine wpList_append pre a w ?_
 refine runOps_okX (HP:=HP) ansX_holds hE.T (callE_ok hE) ops pre st _ F hk hr hf hst hl _ ?_ ?_
 ·intro a' c v m' h' w' F' hd h1 h2 h3 h4 h5 h6
  exact ⟨m',h',v,c,F',rfl,h1,h2,h3,h4,h5,h6,hd⟩
 ·intro F' m' st' a' w' hk' hr' hf' hs' hl'
  exact hs st' F' hk' m' a' w' m0 h0 w0 F0 hr' hf' hs' hl'
theorem SafeO.run {P:Program} {E:EnvX} {ds:List Deferred} {ops:Array Oper} {l:List Oper} {st:St} {F:Fz} {k:St -> Fz -> Prop} {HP:AV -> Rows -> Fz -> Prop} (hE:OKX P E ds HP)
  (hk:runOpsB ansX E (callE E) ops.toList l st k F):SafeO P E.R ds ops l st F (fun e st' F' => e = .normal /\ k st' F') HP:=by
 intro m a w m0 h0 w0 F0 hr hf hst hl
 refine runOps_okX (HP:=HP) ansX_holds hE.T (callE_ok hE) ops l st k F hk hr hf hst hl _ (postX_to _ _ _ _ _ _ _ _) ?_
 intro F' m' st' a' w' hk' hr' hf' hs' hl'
 exact ⟨m',st',F',trivial,⟨rfl,hk'⟩,hr',hf',hs',hl'⟩
theorem SafeO.to {P:Program} {R:Nat -> RoRow} {ds:List Deferred} {ops:Array Oper} {l:List Oper} {st:St} {F:Fz} {Q:Exit -> St -> Fz -> Prop} {HP:AV -> Rows -> Fz -> Prop} (h:ToX R ds st.rows.length st F fun st' F' => SafeO P R ds ops l st' F' Q HP):SafeO P R ds ops l st F Q HP:=by
 intro m a w m0 h0 w0 F0 hr hf hs hl
 obtain ⟨m',st',F',h1,hr',hF',hs',hl'⟩:=h m a w m0 h0 w0 F0 hs.len hr hf hs hl
 exact h1 m' a w m0 h0 w0 F0 hr' hF' hs' hl'
theorem SafeO.post {P:Program} {R:Nat -> RoRow} {ds:List Deferred} {ops:Array Oper} {l:List Oper} {st:St} {F:Fz} {Q Q':Exit -> St -> Fz -> Prop} {HP:AV -> Rows -> Fz -> Prop} (h:SafeO P R ds ops l st F Q HP) (hq:∀ e st' F',F.le F' -> Q e st' F' -> ToX R ds st.rows.length st' F' (Q' e)):SafeO P R ds ops l st F Q' HP:=by
 intro m a w m0 h0 w0 F0 hr hf hs hl
 refine wpList_mono ?_ l _ _ (h m a w m st.rows w F hr hf (Step.refl _ _ _) (.refl _ _ _ _))
 intro e a' w' hp
 cases e with
 | panic ch => obtain ⟨m',h',v,c,F',h1,h2,h3,h4,h5,h6,h7,h8⟩:=hp; exact ⟨m',h',v,c,F',h1,h2,h3,h4,h5,hs.trans h6,hl.trans hs h7,h8⟩
 | goto l => obtain ⟨_,_,_,h,_⟩:=hp; exact h.elim
 | outgrown => obtain ⟨_,_,_,h,_⟩:=hp; exact h.elim
 | _ =>
  obtain ⟨m',st',F',h1,h2,h3,h4,h5,h6⟩:=hp
  obtain ⟨m2,st2,F2,q1,q2,q3,q4,q5⟩:=hq _ _ _ h6.le h2 m' a' w' m st.rows w F (Nat.le_refl _) h3 h4 h5 h6
  exact ⟨m2,st2,F2,h1,q1,q2,q3,hs.trans q4,hl.trans hs q5⟩
theorem SafeX.blockN {P:Program} {R:Nat -> RoRow} {ds:List Deferred} {c:Code} {id:Nat} {st:St} {F:Fz} {Q:Exit -> St -> Fz -> Prop} {HP:AV -> Rows -> Fz -> Prop} (hs:SafeX P R ds c st F (fun e st' F' => e = .normal /\ Q .normal st' F') HP):SafeX P R ds (.block id c) st F Q HP:=by
 intro m a w m0 h0 w0 F0 hr hf hst hl
 refine wp_block (wp_mono (hs m a w m0 h0 w0 F0 hr hf hst hl) ?_)
 intro e a' w' hp
 cases e with
 | panic ch => exact hp
 | goto l => obtain ⟨_,_,_,h,_⟩:=hp; exact h.elim
 | outgrown => obtain ⟨_,_,_,h,_⟩:=hp; exact h.elim
 | normal => obtain ⟨m',st',F',h0,⟨_,h1⟩,h2⟩:=hp; exact ⟨m',st',F',h0,h1,h2⟩
 | ret => obtain ⟨m',st',F',h0,⟨h1,_⟩,h2⟩:=hp; cases h1
 | exit i => obtain ⟨m',st',F',h0,⟨h1,_⟩,h2⟩:=hp; cases h1
section
variable {P:Program} {R:Nat -> RoRow} {ds:List Deferred} {k x:Nat} {ro:RoRow} {F:Fz} {m:Map} {w:World}
theorem SafeO.swap {ops:Array Oper} {l:List Oper} {st:St} {Q Q1:Exit -> St -> Fz -> Prop} {HP HP1:AV -> Rows -> Fz -> Prop} (hk:k < 15) (hfr:Frz F x ro) (h0:(R k).n = 0) (hR:Quits R k) (h:SafeO P (updR R k ro) ds ops l st F Q HP)
  (hq:∀ e st' F',F.le F' -> Q e st' F' -> nmSt k x st' = st' /\ Q1 e st' F') (hp:∀ v h' F',F.le F' -> HP v h' F' -> nm k x v = v /\ nmRows k x h' = h' /\ HP1 v h' F'):SafeO P R ds ops l (nmSt k x st) F Q1 HP1:=by
 intro m a w m0 h1 w0 F0 hr hf hs hl
 have hm:Named m:=hf.ro
 obtain ⟨hW2,hf2⟩:=WR.inward hk hfr h0 hR hr.wr hf
 have hN:=inner_nm hm k x ro.esz
 have hr2:RelX (updR R k ro) ds (inner m k x ro.esz) st a w:=by
  refine ⟨by simpa [nmSt] using hr.size,?_,hr.defers,hW2⟩
  intro i y hy
  obtain ⟨c,hc,hd⟩:=hr.tmps i (nm k x y) (by simp only [nmSt,List.getElem?_map,hy]; rfl)
  refine ⟨c,hc,?_⟩
  simp only [nmSt,nmRows_length] at hd
  exact (nm_den hN _ _ _).2 hd
 have hesz:∀ i,(R i).esz = (m.ro i).esz:=fun i => (hr.wr.ro i).1.symm
 have key:∀ {m':Map} {w':World} {h':Rows},Step (inner m k x ro.esz) st.rows w m' h' w' -> NmOK k x m' ⟨m'.mu,m.ro⟩ /\ ∀ i,Nat.beq i k = false -> m'.ro i = m.ro i:=by
  intro m' w' h' hS
  refine ⟨⟨rfl,fun i => ?_⟩,fun i hi => ?_⟩
  ·rw [hS.ro]; exact hN.ro i
  ·rw [hS.ro]; simp only [inner,hi,cond_false]
 refine wpList_mono ?_ l _ _ (h (inner m k x ro.esz) a w (inner m k x ro.esz) st.rows w F hr2 hf2 (Step.refl _ _ _) (.refl _ _ _ _))
 intro e a' w' hpost
 cases e with
 | panic ch =>
  obtain ⟨m',h',v,cv,F',h1,h2,h3,h4,h5,h6,h7,h8⟩:=hpost
  obtain ⟨e1,e2,e3⟩:=hp _ _ _ h7.le h2
  obtain ⟨hN',hro'⟩:=key h6
  obtain ⟨hW3,hf3⟩:=WR.outward hm h0 hR hN' hro' hesz h4 h5 e2 (h:=st.rows)
  refine ⟨⟨m'.mu,m.ro⟩,h',v,cv,F',h1,e3,?_,hW3,hf3,hs.trans (Step.inward (m:=m) (m2:=inner m k x ro.esz) rfl h6),hl.trans hs (Fz.To.inward (m:=m) (m2:=inner m k x ro.esz) rfl h7),h8⟩
  rw [<- e1]; exact (nm_den hN' _ _ _).1 h3
 | goto l => obtain ⟨_,_,_,h,_⟩:=hpost; exact h.elim
 | outgrown => obtain ⟨_,_,_,h,_⟩:=hpost; exact h.elim
 | _ =>
  obtain ⟨m',st',F',hok,hqq,hr',hf',hs',hl'⟩:=hpost
  obtain ⟨e1,e2⟩:=hq _ _ _ hl'.le hqq
  obtain ⟨hN',hro'⟩:=key hs'
  have eT:st'.tmps.map (nm k x) = st'.tmps:=congrArg St.tmps e1
  have eR:nmRows k x st'.rows = st'.rows:=congrArg St.rows e1
  obtain ⟨hW3,hf3⟩:=WR.outward hm h0 hR hN' hro' hesz hr'.wr hf' eR (h:=st.rows)
  refine ⟨⟨m'.mu,m.ro⟩,st',F',hok,e2,⟨hr'.size,?_,hr'.defers,hW3⟩,hf3,hs.trans (Step.inward (m:=m) (m2:=inner m k x ro.esz) rfl hs'),hl.trans hs (Fz.To.inward (m:=m) (m2:=inner m k x ro.esz) rfl hl')⟩
  intro i y hy
  obtain ⟨y0,hy0,hye⟩:∃ y0,st'.tmps[i]? = some y0 /\ nm k x y0 = y:=by
   rw [<- eT,List.getElem?_map] at hy
   obtain ⟨y0,h1,h2⟩:=Option.map_eq_some_iff.1 hy
   exact ⟨y0,h1,h2⟩
  obtain ⟨c,hc,hd⟩:=hr'.tmps i y0 hy0
  exact ⟨c,hc,by rw [<- hye]; exact (nm_den hN' _ _ _).1 hd⟩
end
end Go.Dc
