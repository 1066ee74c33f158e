/- Runs that may panic and leave frozen memory: environments, views, loops. -/
import Derived.Test.YtfajmjhijanggaaDcX
set_option linter.unusedVariables false
set_option linter.unusedSimpArgs false
section
namespace Go.Dc
def ansX:AnsB (Fz -> Prop):={ bot:=fun _ => False,both:=fun x y F => x F /\ y F,eqv:=fun u v x F => u = v /\ x F,br:=fun b x y F => cond b (x F) (y F) }
abbrev atF (F:Fz) (x:Fz -> Prop):Prop:=x F
theorem ansX_holds (F:Fz):HoldsB ansX (atF F):=⟨fun h => h,fun _ _ h => h,fun _ _ _ h => h,fun b x y h => by cases b with | true => exact .inl ⟨rfl,h⟩ | false => exact .inr ⟨rfl,h⟩⟩
abbrev CallSpecX:=List AV -> Rows -> (AV -> Rows -> Fz -> Prop) -> Fz -> Prop
abbrev LoopSpX:=St -> (Exit -> St -> Fz -> Prop) -> Fz -> Prop
abbrev EnvX:=Env (Fz -> Prop)
abbrev OKX (P:Program) (E:EnvX) (ds:List Deferred) (HP:AV -> Rows -> Fz -> Prop):Prop:=EnvOKX P E ds atF HP
def EnvX.base (T:TypeId -> Option TI) (F:FuncId -> Option FI) (R:Nat -> RoRow):EnvX:=⟨T,R,F,fun _ => none,fun _ _ => none⟩
theorem OKX.base {P:Program} {T:TypeId -> Option TI} {F:FuncId -> Option FI} {R:Nat -> RoRow} {ds:List Deferred} {HP:AV -> Rows -> Fz -> Prop} (hT:TabOK P T) (hF:∀ f fi,F f = some fi -> FnOK P f fi):OKX P (EnvX.base T F R) ds HP :=
 ⟨hT,hF,fun f spec h => by simp [EnvX.base] at h,fun f i spec h => by simp [EnvX.base] at h⟩
def EnvX.addCall (E:EnvX) (f:FuncId) (spec:CallSpecX):EnvX :=
 { E with calls:=fun g => bif Nat.beq f g then some spec else E.calls g }
theorem OKX.addCall {P:Program} {E:EnvX} {ds:List Deferred} {HP:AV -> Rows -> Fz -> Prop} (h:OKX P E ds HP) {f:FuncId} {spec:CallSpecX} {fi:FI} (hF:E.F f = some fi) (hs:∀ args h k F,spec args h k F -> SafeCallX P E.R f args h F k HP):OKX P (E.addCall f spec) ds HP where
 T:=h.T
 F:=h.F
 calls:=fun g sp hg args rows k F hk => by
  simp only [EnvX.addCall] at hg
  cases hb:Nat.beq f g with
  | true =>
   rw [hb] at hg
   simp only [cond_true,Option.some.injEq] at hg
   have:=Nat.eq_of_beq_eq_true hb
   subst this; subst hg
   obtain ⟨fn,h1,h2,_,_,h5⟩:=(h.F f fi hF).fn
   exact ⟨hs args rows k F hk,fn,h1,by rw [h2]; rfl,h5⟩
  | false =>
   rw [hb] at hg
   exact h.calls g sp hg args rows k F hk
 loops:=h.loops
def liftC (spec:CallSpec):CallSpecX:=fun args h k F => spec args h fun v h' => k v h' F
theorem liftC_ok {P:Program} {R:Nat -> RoRow} {f:FuncId} {spec:CallSpec} {HP:AV -> Rows -> Fz -> Prop} (hs:∀ args h k,spec args h k -> SafeCall P R f args h k):∀ args h k F,liftC spec args h k F -> SafeCallX P R f args h F k HP :=
 fun args h k F hk => (hs args h _ hk).toX fun _ _ h => h
def EnvX.addLoop (E:EnvX) (f:FuncId) (id:Nat) (spec:LoopSpX):EnvX :=
 { E with loops:=fun g i => bif Nat.beq f g && Nat.beq id i then some spec else E.loops g i }
theorem OKX.addLoop {P:Program} {E:EnvX} {ds:List Deferred} {HP:AV -> Rows -> Fz -> Prop} (h:OKX P E ds HP) {f:FuncId} {i:Nat} {spec:LoopSpX} {fi:FI} (hF:E.F f = some fi) {body:Code} (hb:blockOf fi i = some body)
  (hs:∀ st k F,spec st k F -> SafeX P E.R ds (.block i body) st F k HP):OKX P (E.addLoop f i spec) ds HP where
 T:=h.T
 F:=h.F
 calls:=h.calls
 loops:=fun g j sp hg b hmem st k F hk => by
  simp only [EnvX.addLoop] at hg
  cases hbb:(Nat.beq f g && Nat.beq i j) with
  | true =>
   rw [hbb] at hg
   simp only [cond_true,Option.some.injEq] at hg
   simp only [Bool.and_eq_true] at hbb
   have e1:=Nat.eq_of_beq_eq_true hbb.1
   have e2:=Nat.eq_of_beq_eq_true hbb.2
   subst e1; subst e2; subst hg
   have hm:(i,b) ∈ subs fi.body:=by
    have:(i,b) ∈ E.subsOf f:=hmem
    unfold Env.subsOf at this
    rwa [hF] at this
   have:b = body:=by
    unfold blockOf at hb
    have hf:(i,b) ∈ (subs fi.body).filter fun p => Nat.beq p.1 i:=by simp [hm]
    split at hb
    ·rename_i j' b' he
     rw [he] at hf
     simp at hf hb
     exact hf.2.trans hb
    ·exact absurd hb (by simp)
   subst this
   exact hs st k F hk
  | false =>
   rw [hbb] at hg
   exact h.loops g j sp hg b hmem st k F hk
theorem subs_sub:∀ (c:Code) (p:Nat × Code),p ∈ subs c -> ∀ q ∈ subs p.2,q ∈ subs c:=by
 intro c
 induction c with
 | block id b ih =>
  intro p hp q hq
  simp only [subs,List.mem_cons] at hp ⊢
  rcases hp with rfl | hp
  ·exact .inr hq
  ·exact .inr (ih p hp q hq)
 | seq x y ihx ihy =>
  intro p hp q hq
  simp only [subs,List.mem_append] at hp ⊢
  rcases hp with hp | hp
  ·exact .inl (ihx p hp q hq)
  ·exact .inr (ihy p hp q hq)
 | cond x y z ihx ihy =>
  intro p hp q hq
  simp only [subs,List.mem_append] at hp ⊢
  rcases hp with hp | hp
  ·exact .inl (ihx p hp q hq)
  ·exact .inr (ihy p hp q hq)
 | loop b ih => exact ih
 | rangeFunc g ps x y ihx ihy =>
  intro p hp q hq
  simp only [subs,List.mem_append] at hp ⊢
  rcases hp with hp | hp
  ·exact .inl (ihx p hp q hq)
  ·exact .inr (ihy p hp q hq)
 | _ => intro p hp; simp [subs] at hp
theorem blockOf_sub {fi:FI} {i:Nat} {b:Code} (hb:blockOf fi i = some b):∀ q ∈ subs b,q ∈ subs fi.body:=by
 have hm:(i,b) ∈ subs fi.body:=by
  unfold blockOf at hb
  split at hb
  ·rename_i j' b' he
   simp only [Option.some.injEq] at hb
   subst hb
   have:(j',b') ∈ (subs fi.body).filter fun p => Nat.beq p.1 i:=by rw [he]; simp
   simp only [List.mem_filter] at this
   obtain ⟨h1,h2⟩:=this
   have:=Nat.eq_of_beq_eq_true h2
   subst this
   exact h1
  ·exact absurd hb (by simp)
 exact subs_sub fi.body (i,b) hm
def vcx (E:EnvX) (n:Nat) (f:FuncId) (fi:FI) (args:List AV) (h:Rows) (Q:AV -> Rows -> Fz -> Prop):Fz -> Prop :=
 codeB ansX E (drawAllB ansX E) n f fi.body ⟨enterT args fi.ntmps,h⟩ fun e st => match e with
  | .normal | .ret => resKB ansX E st fi.results fun v => Q v st.rows
  | _ => fun _ => False
def rnx (E:EnvX) (n:Nat) (f:FuncId) (c:Code) (st:St) (k:Exit -> St -> Fz -> Prop):Fz -> Prop:=codeB ansX E (drawAllB ansX E) n f c st k
section
variable {P:Program} {E:EnvX} {HP:AV -> Rows -> Fz -> Prop}
theorem SafeX.rnx (hm:P.follows .mixedOrders = true) (hE:OKX P E [] HP) {f:FuncId} {c:Code} (hc:∀ p ∈ subs c,p ∈ E.subsOf f) {st:St} {F:Fz} {k:Exit -> St -> Fz -> Prop} (n:Nat)
  (hk:Dc.rnx E n f c st k F):SafeX P E.R [] c st F k HP :=
 code_okX ansX_holds hE hE (drawAll_okX ansX_holds hE.T hm) (drawAll_okX ansX_holds hE.T hm) n [] (.inl rfl) f c st k F hc hk
theorem SafeX.round (hm:P.follows .mixedOrders = true) (hE:OKX P E [] HP) {f:FuncId} {fi:FI} (hF:E.F f = some fi) {i:Nat} {b c:Code} (hb:blockOf fi i = some b) (hc:subs c = subs b) {st:St} {F:Fz} {k:Exit -> St -> Fz -> Prop} (n:Nat)
  (hk:Dc.rnx E n f c st k F):SafeX P E.R [] c st F k HP :=
 SafeX.rnx hm hE (fun p hp => by unfold Env.subsOf; rw [hF]; rw [hc] at hp; exact blockOf_sub hb p hp) n hk
theorem SafeCallX.vcx (hm:P.follows .mixedOrders = true) (hE:OKX P E [] HP) {f:FuncId} {fi:FI} (hF:E.F f = some fi) {args:List AV} {h:Rows} {F:Fz} {Q:AV -> Rows -> Fz -> Prop} (n:Nat)
  (hk:Dc.vcx E n f fi args h Q F):SafeCallX P E.R f args h F Q HP:=by
 refine SafeCallX.of_body hE.T (hE.F f fi hF) ((SafeX.rnx hm hE (f:=f) (fun p hp => by unfold Env.subsOf; rw [hF]; exact hp) n hk).mono ?_ fun _ _ _ h => h)
 intro e st' F' he
 cases e <;> first
  | exact ⟨.inl rfl,resL_okB (ansX_holds F') he⟩
  | exact ⟨.inr rfl,resL_okB (ansX_holds F') he⟩
  | exact he.elim
end
theorem FzOK.view {F:Fz} {m:Map} {f:Nat -> Option Nat} {hL h:Rows} {w:World} (hf:FzOK F m h w) (hV:View f hL h):FzOK F (m.view f hL.es) hL w where
 blk:=hf.blk
 apart:=fun c r hc hv => by
  obtain ⟨b,r',h1,h2,h3,h4⟩:=hV.real hc hv
  rw [h4] at hv ⊢
  exact hf.apart b r' h2 hv
 ro:=hf.ro
theorem RelX.view {R:Nat -> RoRow} {ds:List Deferred} {m:Map} {f:Nat -> Option Nat} {stL st:St} {a:Act} {w:World} (h:RelX R ds m st a w) (hV:StV f stL st):RelX R ds (m.view f stL.rows.es) stL a w:=by
 have:=h.bare.view hV
 exact ⟨this.size,this.tmps,h.defers,this.wr⟩
def ToX (R:Nat -> RoRow) (ds:List Deferred) (nk:Nat) (st:St) (F:Fz) (S:St -> Fz -> Prop):Prop :=
 ∀ m a w m0 h0 w0 (F0:Fz),h0.length <= nk -> RelX R ds m st a w -> FzOK F m st.rows w -> Step m0 h0 w0 m st.rows w -> F0.To m0 h0 w0 F ->
  ∃ m' st' F',S st' F' /\ RelX R ds m' st' a w /\ FzOK F' m' st'.rows w /\ Step m0 h0 w0 m' st'.rows w /\ F0.To m0 h0 w0 F'
section
variable {R:Nat -> RoRow} {ds:List Deferred} {nk:Nat} {st stE:St} {F:Fz} {S S':St -> Fz -> Prop}
theorem ToX.here (h:S st F):ToX R ds nk st F S:=fun m a w m0 h0 w0 F0 _ hr hf hs hl => ⟨m,st,F,h,hr,hf,hs,hl⟩
theorem ToX.fit (hF:Fit nk stE st) (h:ToX R ds nk stE F S):ToX R ds nk st F S:=by
 obtain ⟨f,hV,hf,hl⟩:=hF
 intro m a w m0 h0 w0 F0 hn hr hF hs hl0
 exact h _ a w m0 h0 w0 F0 hn (hr.view hV) (hF.view hV.rows) (hs.forget hV.rows (fun c hc => hf c (Nat.lt_of_lt_of_le hc hn)) (Nat.le_trans hn hl)) hl0
theorem SafeX.pre {P:Program} {c:Code} {Q:Exit -> St -> Fz -> Prop} {HP:AV -> Rows -> Fz -> Prop} (h:ToX R ds st.rows.length st F fun st' F' => SafeX P R ds c st' F' Q HP):SafeX P R ds c st F Q HP:=by
 intro m a w m0 h0 w0 F0 hr hf hs hl
 obtain ⟨m',st',F',h1,hr',hF',hs',hl'⟩:=h m a w m0 h0 w0 F0 hs.len hr hf hs hl
 exact h1 m' a w m0 h0 w0 F0 hr' hF' hs' hl'
theorem SafeX.post {P:Program} {c:Code} {Q Q':Exit -> St -> Fz -> Prop} {HP:AV -> Rows -> Fz -> Prop} (h:SafeX P R ds c st F Q HP) (hq:∀ e st' F',F.le F' -> Q e st' F' -> ToX R ds st.rows.length st' F' (Q' e)):SafeX P R ds c st F Q' HP:=by
 intro m a w m0 h0 w0 F0 hr hf hs hl
 refine wp_mono (h m a w m st.rows w F hr hf (Step.refl _ _ _) (.refl _ _ _ _)) ?_
 intro e a' w' hp
 cases e with
 | panic ch => obtain ⟨m',h',v,c,F',h1,h2,h3,h4,h5,h6,h7,h8⟩:=hp; exact ⟨m',h',v,c,F',h1,h2,h3,h4,h5,hs.trans h6,hl.trans hs h7,h8⟩
 | goto l => obtain ⟨_,_,_,h,_⟩:=hp; exact h.elim
 | outgrown => obtain ⟨_,_,_,h,_⟩:=hp; exact h.elim
 | _ =>
  obtain ⟨m',st',F',h1,h2,h3,h4,h5,h6⟩:=hp
  obtain ⟨m2,st2,F2,q1,q2,q3,q4,q5⟩:=hq _ _ _ h6.le h2 m' a' w' m st.rows w F (Nat.le_refl _) h3 h4 h5 h6
  exact ⟨m2,st2,F2,h1,q1,q2,q3,hs.trans q4,hl.trans hs q5⟩
end
def ToV (R:Nat -> RoRow) (nk:Nat) (v:AV) (h:Rows) (F:Fz) (S:AV -> Rows -> Fz -> Prop):Prop :=
 ∀ m (c:Value) w m0 h0 w0 (F0:Fz),h0.length <= nk -> Den m h.length v c -> WR R m h w -> FzOK F m h w -> Step m0 h0 w0 m h w -> F0.To m0 h0 w0 F ->
  ∃ m' v' h' F',S v' h' F' /\ Den m' h'.length v' c /\ WR R m' h' w /\ FzOK F' m' h' w /\ Step m0 h0 w0 m' h' w /\ F0.To m0 h0 w0 F'
section
variable {R:Nat -> RoRow} {nk:Nat} {v vE:AV} {h hE:Rows} {F:Fz} {S S':AV -> Rows -> Fz -> Prop}
theorem ToV.here (hh:S v h F):ToV R nk v h F S:=fun m c w m0 h0 w0 F0 _ hd hW hf hs hl => ⟨m,v,h,F,hh,hd,hW,hf,hs,hl⟩
theorem ToV.fit (hF:FitV nk vE hE v h) (hh:ToV R nk vE hE F S):ToV R nk v h F S:=by
 obtain ⟨f,hV,hv,hf,hl⟩:=hF
 intro m c w m0 h0 w0 F0 hn hd hW hF hs hl0
 exact hh _ c w m0 h0 w0 F0 hn (hv.den _ _ _ hd) (hW.view hV) (hF.view hV) (hs.forget hV (fun c hc => hf c (Nat.lt_of_lt_of_le hc hn)) (Nat.le_trans hn hl)) hl0
theorem SafeCallX.post {P:Program} {f:FuncId} {args:List AV} {Q Q' HP HP':AV -> Rows -> Fz -> Prop} (hs:SafeCallX P R f args h F Q HP) (hq:∀ v h' F',F.le F' -> Q v h' F' -> ToV R h.length v h' F' Q') (hp:∀ v h' F',F.le F' -> HP v h' F' -> ToV R h.length v h' F' HP'):SafeCallX P R f args h F Q' HP':=by
 intro m w m0 h0 w0 F0 as h1 h2 h3 h4 h5
 refine (hs m w m h w F as h1 h2 h3 (Step.refl _ _ _) (.refl _ _ _ _)).mono ?_
 rintro e w' ⟨m',h',F',hW,hF,hl,hS,⟨c,v,rfl,hqq,hd⟩ | ⟨c,v,rfl,hqq,hd⟩⟩
 ·obtain ⟨m2,v2,h2',F2,q1,q2,q3,q4,q5,q6⟩:=hq _ _ _ hl.le hqq m' c w' m h w F (Nat.le_refl _) hd hW hF hS hl
  exact ⟨m2,h2',F2,q3,q4,h5.trans h4 q6,h4.trans q5,.inl ⟨c,v2,rfl,q1,q2⟩⟩
 ·obtain ⟨m2,v2,h2',F2,q1,q2,q3,q4,q5,q6⟩:=hp _ _ _ hl.le hqq m' c w' m h w F (Nat.le_refl _) hd hW hF hS hl
  exact ⟨m2,h2',F2,q3,q4,h5.trans h4 q6,h4.trans q5,.inr ⟨c,v2,rfl,q1,q2⟩⟩
end
theorem FzOK.out {R:Nat -> RoRow} {F F':Fz} {m m' m'':Map} {f:Nat -> Option Nat} {hL h h':Rows} {w w':World} (hV:View f hL h) (hW:WR R m h w) (hf:FzOK F m h w) (hf':FzOK F' m' h' w')
  (hTo:F.To (m.view f hL.es) hL w F') (hg:∀ c,c < h'.length -> m''.mu (ext f hL.length h.length c) = m'.mu c) (hro:m''.ro = m'.ro) (hS:Step m h w m'' (merged f hL.length hL.length h h') w') :
  FzOK F' m'' (merged f hL.length hL.length h h') w' /\ F.To m h w F':=by
 refine ⟨⟨hf'.blk,?_,fun i => by rw [hro]; exact hf'.ro i⟩,hTo.le,?_⟩
 ·intro b r hb hv
  obtain ⟨hblt,⟨c,r',hc,hcb,hlc,rfl⟩ | ⟨hlb,hnn⟩⟩:=merged_live hb
  ·subst hcb
   rw [hg c hc] at hv ⊢
   exact hf'.apart c r' hlc hv
  ·have hmu:m''.mu b = m.mu b:=hS.mu b (live_lt hlb)
   rw [hmu] at hv ⊢
   cases hx:F' (m.mu b).blk with
   | none => rfl
   | some x =>
    exfalso
    rcases hTo.new _ x hx with h1 | h1 | ⟨c,r',hc,hcv,hce⟩
    ·rw [hf.apart b r hlb hv] at h1; cases h1
    ·obtain ⟨_,_,h3⟩:=hW.row b r hlb
     rw [if_neg (by rw [hv]; simp)] at h3
     obtain ⟨cc,fz,hh,_⟩:=h3
     have:=(Array.getElem?_eq_some_iff.1 hh).1
     omega
    ·obtain ⟨d,r2,h1,h2,_,e1⟩:=hV.real hc hcv
     rw [e1] at hcv hce
     have hdb:d = b:=hW.apart d b r2 r h2 hlb hcv hv hce
     subst hdb
     have:=seen_of (live_lt hc) h1
     rw [this] at hnn; cases hnn
 ·intro b x hx
  rcases hTo.new b x hx with h1 | h1 | ⟨c,r',hc,hcv,hce⟩
  ·exact .inl h1
  ·exact .inr (.inl h1)
  ·obtain ⟨d,r2,h1,h2,_,e1⟩:=hV.real hc hcv
   rw [e1] at hcv hce
   exact .inr (.inr ⟨d,r2,h2,hcv,hce⟩)
theorem SafeCallX.focus {P:Program} {R:Nat -> RoRow} {fn:FuncId} {f:Nat -> Option Nat} {argsL args:List AV} {hL h:Rows} {F:Fz} {Q HP:AV -> Rows -> Fz -> Prop} (hV:View f hL h) (hA:VwL f hL.length argsL args) (hs:SafeCallX P R fn argsL hL F Q HP) :
  SafeCallX P R fn args h F (fun v'' h'' F' => ∃ v' h',Q v' h' F' /\ v'' = ren (ext f hL.length h.length) v' /\ h'' = merged f hL.length hL.length h h') (fun v'' h'' F' => ∃ v' h',HP v' h' F' /\ v'' = ren (ext f hL.length h.length) v' /\ h'' = merged f hL.length hL.length h h'):=by
 intro m w m0 h0 w0 F0 as has hW hf hstep hTo
 refine (hs _ w _ _ w F as (hA.den _ _ _ has) (hW.view hV) (hf.view hV) (Step.refl _ _ _) (.refl _ _ _ _)).mono ?_
 rintro e w' ⟨m',h',F',hW',hf',hl,hs',hcase⟩
 obtain ⟨m'',hg,hro,hW2,hS⟩:=merge_ok hV hW hW' hs'.toK
 obtain ⟨hf2,hl2⟩:=FzOK.out hV hW hf hf' hl (fun c hc => (hg c hc).2) hro hS
 refine ⟨m'',_,F',hW2,hf2,hTo.trans hstep hl2,hstep.trans hS,?_⟩
 rcases hcase with ⟨c,v,rfl,hq,hd⟩ | ⟨c,v,rfl,hq,hd⟩
 ·exact .inl ⟨c,_,rfl,⟨v,h',hq,rfl,rfl⟩,ren_den hg hro v c hd⟩
 ·exact .inr ⟨c,_,rfl,⟨v,h',hq,rfl,rfl⟩,ren_den hg hro v c hd⟩
theorem SafeX.loop {P:Program} {R:Nat -> RoRow} {ds:List Deferred} {HP:AV -> Rows -> Fz -> Prop} {body:Code} (nk:Nat) (Inv:Nat -> St -> Fz -> Prop) {X:Exit -> St -> Fz -> Prop}
  (hround:∀ n st F,Inv n st F -> SafeX P R ds body st F (fun e st' F' => match e with
   | .normal => ToX R ds nk st' F' fun st'' F'' => ∃ n',n' < n /\ Inv n' st'' F''
   | e => ToX R ds nk st' F' (X e)) HP) :
  ∀ n st F,Inv n st F -> ∀ m a w m0 h0 w0 F0,h0.length <= nk -> RelX R ds m st a w -> FzOK F m st.rows w -> Step m0 h0 w0 m st.rows w -> F0.To m0 h0 w0 F -> (Code.loop body).wp P (PostX R ds X HP m0 h0 w0 F0) a w:=by
 intro n st F hi m a w m0 h0 w0 F0 hn hr hf hs hl
 refine wp_loop_rounds (n + 1) ?_
 have key:∀ N n,n < N -> ∀ st F,Inv n st F -> ∀ m a w,RelX R ds m st a w -> FzOK F m st.rows w -> Step m0 h0 w0 m st.rows w -> F0.To m0 h0 w0 F -> Code.rounds P body (PostX R ds X HP m0 h0 w0 F0) N a w:=by
  intro N
  induction N with
  | zero => intro n h; omega
  | succ N ih =>
   intro n hlt st F hi m a w hr hf hs hl
   rw [rounds_succ]
   refine wp_mono (hround n st F hi m a w m0 h0 w0 F0 hr hf hs hl) ?_
   intro e a' w' hp
   cases e with
   | panic ch => exact hp
   | goto l => obtain ⟨_,_,_,h,_⟩:=hp; exact h.elim
   | outgrown => obtain ⟨_,_,_,h,_⟩:=hp; exact h.elim
   | normal =>
    obtain ⟨m',st',F',_,hq,hr',hf',hs',hl'⟩:=hp
    obtain ⟨m2,st2,F2,⟨n',hlt',hi'⟩,q2,q3,q4,q5⟩:=hq m' a' w' m0 h0 w0 F0 hn hr' hf' hs' hl'
    exact ih n' (by omega) st2 F2 hi' m2 a' w' q2 q3 q4 q5
   | exit id =>
    obtain ⟨m',st',F',_,hq,hr',hf',hs',hl'⟩:=hp
    obtain ⟨m2,st2,F2,q1,q2,q3,q4,q5⟩:=hq m' a' w' m0 h0 w0 F0 hn hr' hf' hs' hl'
    exact ⟨m2,st2,F2,trivial,q1,q2,q3,q4,q5⟩
   | ret =>
    obtain ⟨m',st',F',_,hq,hr',hf',hs',hl'⟩:=hp
    obtain ⟨m2,st2,F2,q1,q2,q3,q4,q5⟩:=hq m' a' w' m0 h0 w0 F0 hn hr' hf' hs' hl'
    exact ⟨m2,st2,F2,trivial,q1,q2,q3,q4,q5⟩
 exact key (n + 1) n (Nat.lt_succ_self n) st F hi m a w hr hf hs hl
theorem SafeX.loop_block {P:Program} {R:Nat -> RoRow} {ds:List Deferred} {HP:AV -> Rows -> Fz -> Prop} {body:Code} {id:Nat} {st:St} {F:Fz} (Inv:Nat -> St -> Fz -> Prop) {Q:Exit -> St -> Fz -> Prop}
  (h0:ToX R ds st.rows.length st F fun st' F' => ∃ n,Inv n st' F')
  (hround:∀ n st' F',Inv n st' F' -> SafeX P R ds body st' F' (fun e st2 F2 => match e with
   | .normal => ToX R ds st.rows.length st2 F2 fun st3 F3 => ∃ n',n' < n /\ Inv n' st3 F3
   | e => ToX R ds st.rows.length st2 F2 fun st3 F3 => Q (blockExit id e) st3 F3) HP) :
  SafeX P R ds (.block id (.loop body)) st F Q HP:=by
 intro m a w m0 h1 w0 F0 hr hf hs hl
 obtain ⟨m',st',F',⟨n,hi⟩,hr',hF',hs',hl'⟩:=h0 m a w m0 h1 w0 F0 hs.len hr hf hs hl
 have:=SafeX.loop (X:=fun e st3 F3 => Q (blockExit id e) st3 F3) st.rows.length Inv (fun n st' F' hi => hround n st' F' hi) n st' F' hi m' a w m0 h1 w0 F0 hs.len hr' hF' hs' hl'
 refine wp_block (wp_mono this ?_)
 intro e a' w' hp
 cases e with
 | panic ch => exact hp
 | goto l => obtain ⟨_,_,_,h,_⟩:=hp; exact h.elim
 | outgrown => obtain ⟨_,_,_,h,_⟩:=hp; exact h.elim
 | normal => exact hp
 | ret => exact hp
 | exit id' =>
  obtain ⟨m2,st2,F2,h1,h2,h3⟩:=hp
  simp only [Exit.inBlock]
  by_cases hid:id' = id
  ·rw [if_pos hid]
   subst hid
   simp only [blockExit,Nat.beq_refl,cond_true] at h2
   exact ⟨m2,st2,F2,trivial,h2,h3⟩
  ·rw [if_neg hid]
   have e:Nat.beq id' id = false:=by rw [Bool.eq_false_iff]; exact fun e => hid (Nat.eq_of_beq_eq_true e)
   simp only [blockExit,e,cond_false] at h2
   exact ⟨m2,st2,F2,trivial,h2,h3⟩
end Go.Dc
end
section
namespace Go.Dc
def gtk:AV -> Prop
 | .bool _ | .int .. | .str _ | .nilp | .nils | .nilf | .nili => True
 | .sl true i _ _ _ => ∃ x,i = x + 15
 | .ptr true i _ _ => ∃ x,i = x + 15
 | _ => False
def Named (m:Map):Prop:=∀ i,m.ro (i + 15) = tkLoc i
def DenT (a:AV) (v:Value):Prop:=∀ m n,Named m -> Den m n a v
theorem gtk.den {a:AV} (hg:gtk a) {m:Map} {n:Nat} (hm:Named m) {v:Value} (h:Den m n a v):DenT a v:=by
 intro m' n' hm'
 cases a with
 | sl ro i o l c =>
  cases ro with
  | false => exact hg.elim
  | true =>
   obtain ⟨x,rfl⟩:=hg
   simp only [Den,Map.loc,if_true] at h ⊢
   rw [hm' x]; rw [hm x] at h
   first | exact ⟨(fun e => absurd e (by decide)),h.2⟩ | exact h
 | ptr ro i o l =>
  cases ro with
  | false => exact hg.elim
  | true =>
   obtain ⟨x,rfl⟩:=hg
   simp only [Den,Map.loc,if_true] at h ⊢
   rw [hm' x]; rw [hm x] at h
   first | exact ⟨(fun e => absurd e (by decide)),h.2⟩ | exact h
 | any => exact hg.elim
 | fn => exact hg.elim
 | ifc => exact hg.elim
 | agg => exact hg.elim
 | tup => exact hg.elim
 | _ => simpa [Den] using h
def Frz (F:Fz) (x:Nat) (r:RoRow):Prop :=
 (x = 0 /\ r.n = 0) \/ ∃ blk off ext c,x = tkName r.esz blk off ext /\ r.n <= ext /\ F blk = some (r.ty,c) /\ ∀ i,i < r.n -> (r.at_ i).cells.length = r.esz /\
  ∀ o a,(r.at_ i).cells[o]? = some a -> a.one = true /\ ∃ v,c[off + (i * r.esz + o)]? = some v /\ DenT a v
theorem Frz.le {F F':Fz} {x:Nat} {r:RoRow} (h:Frz F x r) (hl:F.le F'):Frz F' x r:=by
 rcases h with h | ⟨blk,off,ext,c,h1,h2,h3,h4⟩
 ·exact .inl h
 ·exact .inr ⟨blk,off,ext,c,h1,h2,hl _ _ h3,h4⟩
structure RoOf (r:Row) (ro:RoRow):Prop where
 ty:ro.ty = r.ty
 esz:ro.esz = r.esz
 len:ro.n <= r.len
 get:∀ i,i < ro.n -> r.get? i = some (ro.at_ i)
 gtk:∀ i,i < ro.n -> ∀ a ∈ (ro.at_ i).cells,gtk a
theorem RoOf.gen {t z n:Nat} {G:Nat -> AV} (hg:∀ i,i < n -> ∀ a ∈ (G i).cells,Dc.gtk a):RoOf (.gen t z n G) ⟨t,z,n,G⟩ where
 ty:=rfl
 esz:=rfl
 len:=Nat.le_refl _
 get:=fun i hi => by
  have hi:i < n:=hi
  simp only [Row.get?]; rw [blt_t hi]; rfl
 gtk:=hg
def Fz.add (F:Fz) (b:Nat) (x:TypeId × Array Value):Fz:=fun k => if k = b then some x else F k
theorem live_set_none {h:Rows} {b c:Nat} {r:Row} (hc:Rows.live (h.set b none) c = some r):c ≠ b /\ h.live c = some r:=by
 unfold Rows.live at hc ⊢
 rw [List.getElem?_set] at hc
 by_cases e:b = c
 ·subst e
  rw [if_pos rfl] at hc
  split at hc <;> simp at hc
 ·rw [if_neg e] at hc
  exact ⟨fun e2 => e e2.symm,hc⟩
theorem freeze_ok {R:Nat -> RoRow} {F:Fz} {m:Map} {h:Rows} {w:World} (hW:WR R m h w) (hf:FzOK F m h w) {b:Nat} {r:Row} {ro:RoRow} (hb:h.live b = some r) (hr:RoOf r ro) :
  ∃ F' x,F.le F' /\ (∀ k y,F' k = some y -> F k = some y \/ (k = (m.mu b).blk /\ (m.mu b).vir = false)) /\ Frz F' x ro /\ FzOK F' m (h.set b none) w /\
   ∀ n len cp v,Den m n (.sl false b 0 len cp) v -> Den m n (tok x len) v:=by
 obtain ⟨hesz,hlen,hrow⟩:=hW.row b r hb
 have hro:Named m:=hf.ro
 split at hrow
 ·rename_i hv
  refine ⟨F,0,F.le_refl,fun _ _ h => .inl h,.inl ⟨rfl,by have:=hr.len; omega⟩,⟨hf.blk,fun c r' hc hcv => hf.apart c r' (live_set_none hc).2 hcv,hf.ro⟩,?_⟩
  intro n len cp v hd
  simp only [Den,Map.loc,Bool.false_eq_true,if_false,SlDen,hv,if_true] at hd
  obtain ⟨_,h1,ao,h2,_⟩:=hd
  simp only [tok,Den,Map.loc,if_true]
  have:=hro 0
  simp only [Nat.zero_add] at this ⊢
  rw [this]
  first | exact ⟨(fun e => absurd e (by decide)),by simp only [SlDen,tkLoc,if_true]; exact ⟨h1,ao,h2,trivial⟩⟩ | (simp only [SlDen,tkLoc,if_true]; exact ⟨h1,ao,h2,trivial⟩)
 ·rename_i hv
  have hv:(m.mu b).vir = false:=by simpa using hv
  obtain ⟨c,fz,hh,hsz,hfz,hcell⟩:=hrow
  have hlt:(m.mu b).blk < w.heap.size:=(Array.getElem?_eq_some_iff.1 hh).1
  have hnone:=hf.apart b r hb hv
  refine ⟨F.add (m.mu b).blk (r.ty,c),tkName (m.mu b).esz (m.mu b).blk (m.mu b).shift (m.mu b).ext,?_,?_,.inr ⟨(m.mu b).blk,(m.mu b).shift,(m.mu b).ext,c,?_,?_,?_,?_⟩,⟨?_,?_,hf.ro⟩,?_⟩
  ·intro k x hk
   simp only [Fz.add]
   rw [if_neg]
   ·exact hk
   ·rintro rfl; rw [hnone] at hk; cases hk
  ·intro k y hk
   simp only [Fz.add] at hk
   split at hk
   ·rename_i e; exact .inr ⟨e,hv⟩
   ·exact .inl hk
  ·rw [hr.esz,hesz]
  ·exact Nat.le_trans hr.len hlen
  ·simp [Fz.add,hr.ty]
  ·intro i hi
   obtain ⟨h1,h2⟩:=hcell i _ (hr.get i hi)
   refine ⟨by rw [h1,hr.esz,hesz],fun o a ha => ?_⟩
   obtain ⟨h3,v,h4,h5⟩:=h2 o a ha
   exact ⟨h3,v,by rw [hr.esz,<- hesz]; exact h4,(hr.gtk i hi a (List.mem_of_getElem? ha)).den hro h5⟩
  ·intro k ty c' hk
   simp only [Fz.add] at hk
   split at hk
   ·rename_i e; subst e; cases hk; exact ⟨fz,hh⟩
   ·exact hf.blk k ty c' hk
  ·intro c' r' hc hcv
   obtain ⟨hne,hc⟩:=live_set_none hc
   simp only [Fz.add]
   rw [if_neg]
   ·exact hf.apart c' r' hc hcv
   ·intro e; exact hne (hW.apart c' b r' r hc hb hcv hv e)
  ·intro n len cp v hd
   simp only [Den,Map.loc,Bool.false_eq_true,if_false,SlDen,hv] at hd
   obtain ⟨_,a,cap,h1,h2,h3,h4,h5⟩:=hd
   simp only [tok,Den,Map.loc,if_true]
   rw [hro,tkLoc_name]
   first | refine ⟨(fun e => absurd e (by decide)),?_⟩ | skip
   simp only [SlDen,Bool.false_eq_true,if_false]
   exact ⟨a,cap,h1,h2,h3,trivial,h5⟩
def tk1 (b x:Nat):AV -> AV
 | .sl false c 0 l u => bif Nat.beq c b then tok x l else .sl false c 0 l u
 | y => y
def tkE (b x:Nat):AV -> AV
 | .agg cs => .agg (cs.map (tk1 b x))
 | y => tk1 b x y
def tk2 (b x:Nat):AV -> AV
 | .tup cs => .tup (cs.map (tkE b x))
 | y => tkE b x y
def tkRow (b x:Nat):Row -> Row
 | .lst t z l => .lst t z (l.map (tkE b x))
 | .gen t z n G => .gen t z n fun i => tkE b x (G i)
 | .byt t l => .byt t l
section
variable {m:Map} {b x:Nat} (hx:∀ n len cp v,Den m n (.sl false b 0 len cp) v -> Den m n (tok x len) v)
include hx
theorem tk1_den {n:Nat} {y:AV} {v:Value} (h:Den m n y v):Den m n (tk1 b x y) v:=by
 unfold tk1
 split
 ·rename_i c l u
  cases hb:Nat.beq c b with
  | true => have:=Nat.eq_of_beq_eq_true hb; subst this; exact hx _ _ _ _ h
  | false => exact h
 ·exact h
theorem tk1_denL {n:Nat}:∀ {l:List AV} {v:List Value},DenL m n l v -> DenL m n (l.map (tk1 b x)) v
 | [],_,h => h
 | y :: l,v,h => by
  simp only [DenL] at h
  obtain ⟨u,us,rfl,h1,h2⟩:=h
  simp only [List.map_cons,DenL]
  exact ⟨u,us,rfl,tk1_den hx h1,tk1_denL h2⟩
theorem tkE_den {n:Nat} {y:AV} {v:Value} (h:Den m n y v):Den m n (tkE b x y) v:=by
 unfold tkE
 split
 ·simp only [Den] at h ⊢
  obtain ⟨vs,h1,h2⟩:=h
  exact ⟨vs,h1,tk1_denL hx h2⟩
 ·exact tk1_den hx h
theorem tkE_denL {n:Nat}:∀ {l:List AV} {v:List Value},DenL m n l v -> DenL m n (l.map (tkE b x)) v
 | [],_,h => h
 | y :: l,v,h => by
  simp only [DenL] at h
  obtain ⟨u,us,rfl,h1,h2⟩:=h
  simp only [List.map_cons,DenL]
  exact ⟨u,us,rfl,tkE_den hx h1,tkE_denL h2⟩
theorem tk2_den {n:Nat} {y:AV} {v:Value} (h:Den m n y v):Den m n (tk2 b x y) v:=by
 unfold tk2
 split
 ·simp only [Den] at h ⊢
  obtain ⟨vs,h1,h2⟩:=h
  exact ⟨vs,h1,tkE_denL hx h2⟩
 ·exact tkE_den hx h
end
theorem tk1_one (b x:Nat) (y:AV):(tk1 b x y).one = y.one:=by
 unfold tk1
 split
 ·rename_i c l u
  cases hb:Nat.beq c b <;> rfl
 ·rfl
theorem tk1_agg (b x:Nat) (y:AV) (cs:List AV) (hc:tk1 b x y = .agg cs):y = .agg cs:=by
 unfold tk1 at hc
 split at hc
 ·rename_i c l u
  cases hb:Nat.beq c b <;> rw [hb] at hc <;> cases hc
 ·exact hc
theorem cells_one {y:AV} (h:∀ cs,y ≠ .agg cs):y.cells = [y]:=by
 cases y <;> first | rfl | exact absurd rfl (h _)
theorem tkE_cells (b x:Nat) (y:AV):(tkE b x y).cells = y.cells.map (tk1 b x):=by
 unfold tkE
 split
 ·rfl
 ·rename_i h1
  rw [cells_one h1,cells_one (fun cs hc => h1 cs (tk1_agg _ _ _ _ hc))]
  rfl
theorem tkRow_ty (b x:Nat) (r:Row):(tkRow b x r).ty = r.ty:=by cases r <;> rfl
theorem tkRow_esz (b x:Nat) (r:Row):(tkRow b x r).esz = r.esz:=by cases r <;> rfl
theorem tkRow_len (b x:Nat) (r:Row):(tkRow b x r).len = r.len:=by cases r <;> simp [tkRow,Row.len]
theorem tkRow_get (b x:Nat) (r:Row) (i:Nat) (e:AV) (h:(tkRow b x r).get? i = some e):(∃ e',r.get? i = some e' /\ e.cells = e'.cells.map (tk1 b x)):=by
 cases r with
 | lst t z l =>
  simp only [tkRow,Row.get?,List.getElem?_map] at h ⊢
  obtain ⟨e',h1,rfl⟩:=Option.map_eq_some_iff.1 h
  exact ⟨e',h1,tkE_cells _ _ _⟩
 | gen t z n G =>
  simp only [tkRow,Row.get?] at h ⊢
  cases hb:Nat.blt i n <;> rw [hb] at h
  ·simp at h
  ·simp only [cond_true,Option.some.injEq] at h
   subst h
   exact ⟨G i,rfl,tkE_cells _ _ _⟩
 | byt t l =>
  refine ⟨e,h,?_⟩
  simp only [tkRow,Row.get?] at h
  obtain ⟨c,_,rfl⟩:=Option.map_eq_some_iff.1 h
  rfl
def tkRows (b x:Nat) (h:Rows):Rows:=h.map (Option.map (tkRow b x))
theorem tkRows_live {b x:Nat} {h:Rows} {c:Nat} {r:Row} (hc:(tkRows b x h).live c = some r):∃ r',h.live c = some r' /\ r = tkRow b x r':=by
 unfold Rows.live tkRows at hc
 unfold Rows.live
 rw [List.getElem?_map] at hc
 cases hh:h[c]? with
 | none => rw [hh] at hc; simp at hc
 | some o =>
  rw [hh] at hc
  cases o with
  | none => simp at hc
  | some r' => simp at hc; exact ⟨r',rfl,hc.symm⟩
theorem WR.tk {R:Nat -> RoRow} {m:Map} {b x:Nat} (hx:∀ n len cp v,Den m n (.sl false b 0 len cp) v -> Den m n (tok x len) v) {h:Rows} {w:World} (hW:WR R m h w):WR R m (tkRows b x h) w where
 row:=fun c r hc => by
  obtain ⟨r',hc',rfl⟩:=tkRows_live hc
  obtain ⟨h1,h2,h3⟩:=hW.row c r' hc'
  refine ⟨by rw [tkRow_esz]; exact h1,by rw [tkRow_len]; exact h2,?_⟩
  split
  ·rename_i hv
   rw [if_pos hv] at h3
   exact ⟨by rw [tkRow_len]; exact h3.1,h3.2⟩
  ·rename_i hv
   rw [if_neg hv] at h3
   obtain ⟨cc,fz,h4,h5,h6,h7⟩:=h3
   refine ⟨cc,fz,by rw [tkRow_ty]; exact h4,h5,h6,?_⟩
   intro i e he
   obtain ⟨e',he',hcells⟩:=tkRow_get _ _ _ _ _ he
   obtain ⟨h8,h9⟩:=h7 i e' he'
   refine ⟨by rw [hcells,List.length_map]; exact h8,fun o a ha => ?_⟩
   rw [hcells,List.getElem?_map] at ha
   obtain ⟨a',ha',rfl⟩:=Option.map_eq_some_iff.1 ha
   obtain ⟨h10,v,h11,h12⟩:=h9 o a' ha'
   refine ⟨by rw [tk1_one]; exact h10,v,h11,?_⟩
   have:(tkRows b x h).length = h.length:=by simp [tkRows]
   rw [this]
   exact tk1_den hx h12
 apart:=fun c c' r r' hc hc' hv hv' he => by
  obtain ⟨_,hc,_⟩:=tkRows_live hc
  obtain ⟨_,hc',_⟩:=tkRows_live hc'
  exact hW.apart _ _ _ _ hc hc' hv hv' he
 ro:=hW.ro
 roApart:=fun i c r hc hv hv' hn => by
  obtain ⟨_,hc,_⟩:=tkRows_live hc
  exact hW.roApart i c _ hc hv hv' hn
theorem WR.dropRow {R:Nat -> RoRow} {m:Map} {h:Rows} {w:World} (hW:WR R m h w) (b:Nat):WR R m (h.set b none) w where
 row:=fun c r hc => by
  have:=hW.row c r (live_set_none hc).2
  rw [List.length_set]; exact this
 apart:=fun c c' r r' hc hc' => hW.apart c c' r r' (live_set_none hc).2 (live_set_none hc').2
 ro:=hW.ro
 roApart:=fun i c r hc => hW.roApart i c r (live_set_none hc).2
theorem Step.dropRow {m0 m:Map} {h0 h:Rows} {w0 w:World} (hs:Step m0 h0 w0 m h w) (b x:Nat):Step m0 h0 w0 m ((tkRows b x h).set b none) w where
 os:=hs.os
 tape:=hs.tape
 output:=hs.output
 size:=hs.size
 block:=hs.block
 len:=by rw [List.length_set]; simp only [tkRows,List.length_map]; exact hs.len
 mu:=hs.mu
 ro:=hs.ro
 new:=fun c r hc hv => by
  obtain ⟨_,hc,_⟩:=tkRows_live (live_set_none hc).2
  exact hs.new c _ hc hv
theorem FzOK.tk {F:Fz} {m:Map} {h:Rows} {w:World} {b:Nat} (x:Nat) (hf:FzOK F m (h.set b none) w):FzOK F m ((tkRows b x h).set b none) w where
 blk:=hf.blk
 apart:=fun c r hc hv => by
  obtain ⟨hne,hc⟩:=live_set_none hc
  obtain ⟨r',hc,_⟩:=tkRows_live hc
  refine hf.apart c r' ?_ hv
  unfold Rows.live at hc ⊢
  rw [List.getElem?_set,if_neg (fun e => hne e.symm)]
  exact hc
 ro:=hf.ro
theorem Fz.To.freeze {F0 F F':Fz} {m0 m:Map} {h0 h:Rows} {w0 w:World} (hs:Step m0 h0 w0 m h w) (hl:F0.To m0 h0 w0 F) {b:Nat} {r:Row} (hb:h.live b = some r) (h1:F.le F')
  (h2:∀ k y,F' k = some y -> F k = some y \/ (k = (m.mu b).blk /\ (m.mu b).vir = false)):F0.To m0 h0 w0 F' where
 le:=Fz.le_trans hl.le h1
 new:=fun k y hk => by
  rcases h2 k y hk with h3 | ⟨rfl,hv⟩
  ·exact hl.new k y h3
  ·rcases hs.new b r hb hv with h4 | ⟨c,r',hc,hcv,hce⟩
   ·exact .inr (.inl h4)
   ·exact .inr (.inr ⟨c,r',hc,hcv,hce⟩)
theorem ToX.freeze {R:Nat -> RoRow} {ds:List Deferred} {nk:Nat} {st:St} {F:Fz} {S:St -> Fz -> Prop} (b:Nat) {r:Row} {ro:RoRow} (hb:st.rows.live b = some r) (hr:RoOf r ro)
  (hk:∀ F' x,F.le F' -> Frz F' x ro -> ToX R ds nk ⟨st.tmps.map (tk2 b x),(tkRows b x st.rows).set b none⟩ F' S):ToX R ds nk st F S:=by
 intro m a w m0 h0 w0 F0 hn hrel hf hs hl
 obtain ⟨F',x,h1,h2,h3,h4,h5⟩:=freeze_ok hrel.wr hf hb hr
 refine hk F' x h1 h3 m a w m0 h0 w0 F0 hn ⟨by simpa using hrel.size,?_,hrel.defers,(WR.tk h5 hrel.wr).dropRow b⟩ (FzOK.tk x h4) (hs.dropRow b x) (hl.freeze hs hb h1 h2)
 intro i y hy
 simp only [List.getElem?_map] at hy
 obtain ⟨y',hy',rfl⟩:=Option.map_eq_some_iff.1 hy
 obtain ⟨c,hc,hd⟩:=hrel.tmps i y' hy'
 refine ⟨c,hc,?_⟩
 have:((tkRows b x st.rows).set b none).length = st.rows.length:=by simp [tkRows]
 simp only [this]
 exact tk2_den h5 hd
theorem ToV.freeze {R:Nat -> RoRow} {nk:Nat} {v:AV} {h:Rows} {F:Fz} {S:AV -> Rows -> Fz -> Prop} (b:Nat) {r:Row} {ro:RoRow} (hb:h.live b = some r) (hr:RoOf r ro)
  (hk:∀ F' x,F.le F' -> Frz F' x ro -> ToV R nk (tk2 b x v) ((tkRows b x h).set b none) F' S):ToV R nk v h F S:=by
 intro m c w m0 h0 w0 F0 hn hd hW hf hs hl
 obtain ⟨F',x,h1,h2,h3,h4,h5⟩:=freeze_ok hW hf hb hr
 refine hk F' x h1 h3 m c w m0 h0 w0 F0 hn ?_ ((WR.tk h5 hW).dropRow b) (FzOK.tk x h4) (hs.dropRow b x) (hl.freeze hs hb h1 h2)
 have:((tkRows b x h).set b none).length = h.length:=by simp [tkRows]
 rw [this]
 exact tk2_den h5 hd
theorem SafeCallX.freeze {P:Program} {R:Nat -> RoRow} {f:FuncId} {args:List AV} {h:Rows} {F:Fz} {Q HP:AV -> Rows -> Fz -> Prop} (b:Nat) {r:Row} {ro:RoRow} (hb:h.live b = some r) (hr:RoOf r ro)
  (hk:∀ F' x,F.le F' -> Frz F' x ro -> SafeCallX P R f (args.map (tk2 b x)) ((tkRows b x h).set b none) F' Q HP):SafeCallX P R f args h F Q HP:=by
 intro m w m0 h0 w0 F0 as hd hW hf hs hl
 obtain ⟨F',x,h1,h2,h3,h4,h5⟩:=freeze_ok hW hf hb hr
 refine hk F' x h1 h3 m w m0 h0 w0 F0 as ?_ ((WR.tk h5 hW).dropRow b) (FzOK.tk x h4) (hs.dropRow b x) (hl.freeze hs hb h1 h2)
 have:((tkRows b x h).set b none).length = h.length:=by simp [tkRows]
 rw [this]
 have key:∀ {l:List AV} {v:List Value},DenL m h.length l v -> DenL m h.length (l.map (tk2 b x)) v:=by
  intro l
  induction l with
  | nil => intro v h; exact h
  | cons y l ih =>
   intro v h
   simp only [DenL] at h
   obtain ⟨u,us,rfl,h1,h2⟩:=h
   simp only [List.map_cons,DenL]
   exact ⟨u,us,rfl,tk2_den h5 h1,ih h2⟩
 exact key hd
theorem nils_tok {m:Map} (hm:Named m) {n:Nat} {v:Value} (h:Den m n .nils v):Den m n (tok 0 0) v:=by
 simp only [Den] at h
 subst h
 simp only [tok,Den,Map.loc,if_true]
 have:=hm 0
 simp only [Nat.zero_add] at this ⊢
 rw [this]
 exact ⟨(fun e => absurd e (by decide)),by simp [SlDen,tkLoc,CpOK]⟩
end Go.Dc
end
section
namespace Go.Dc
def updR (R:Nat -> RoRow) (k:Nat) (r:RoRow):Nat -> RoRow:=fun i => bif Nat.beq i k then r else R i
def nmI (k x i:Nat):Nat:=bif Nat.beq i k then x + 15 else i
mutual
/-- The number k told by the name x. -/
def nm (k x:Nat):AV -> AV
 | .ptr true i a b => .ptr true (nmI k x i) a b
 | .sl true i a b c => .sl true (nmI k x i) a b c
 | .fn f a c => .fn f (nmL k x a) (nmL k x c)
 | .ifc t a => .ifc t (nm k x a)
 | .agg cs => .agg (nmL k x cs)
 | .tup cs => .tup (nmL k x cs)
 | .ptr false i a b => .ptr false i a b
 | .sl false i a b c => .sl false i a b c
 | .any => .any
 | .bool b => .bool b
 | .int a b => .int a b
 | .str l => .str l
 | .nilp => .nilp
 | .nils => .nils
 | .nilf => .nilf
 | .nili => .nili
def nmL (k x:Nat):List AV -> List AV
 | [] => []
 | a :: l => nm k x a :: nmL k x l
end
theorem nmL_eq (k x:Nat):∀ l,nmL k x l = l.map (nm k x)
 | [] => rfl
 | a :: l => by simp only [nmL,List.map_cons,nmL_eq k x l]
structure NmOK (k x:Nat) (m2 m:Map):Prop where
 mu:m2.mu = m.mu
 ro:∀ i,m2.ro i = m.ro (nmI k x i) \/ ((m2.ro i).vir = true /\ (m.ro (nmI k x i)).vir = true)
theorem NmOK.sl {k x:Nat} {m2 m:Map} (h:NmOK k x m2 m) (i o l:Nat) (c:Cp) (v:Value):SlDen (m2.ro i) o l c v ↔ SlDen (m.ro (nmI k x i)) o l c v:=by
 rcases h.ro i with e | ⟨e1,e2⟩
 ·rw [e]
 ·simp only [SlDen,e1,e2,if_true]
mutual
theorem nm_den {k x:Nat} {m2 m:Map} (h:NmOK k x m2 m) (n:Nat):∀ (y:AV) (v:Value),Den m2 n y v ↔ Den m n (nm k x y) v
 | .ptr true i a b,v => by
  simp only [nm,Den,Map.loc,if_true]
  rcases h.ro i with e | ⟨e1,e2⟩
  ·rw [e]; simp
  ·rw [e1,e2]; simp
 | .sl true i a b c,v => by
  simp only [nm,Den,Map.loc,if_true]
  rw [h.sl]; simp
 | .ptr false i a b,v => by
  simp only [nm,Den,Map.loc,Bool.false_eq_true,if_false,h.mu]
 | .sl false i a b c,v => by
  simp only [nm,Den,Map.loc,Bool.false_eq_true,if_false,h.mu]
 | .fn f a c,v => by
  simp only [nm,Den]
  constructor
  ·rintro ⟨us,vs,e,h1,h2⟩; exact ⟨us,vs,e,(nmL_den h n _ _).1 h1,(nmL_den h n _ _).1 h2⟩
  ·rintro ⟨us,vs,e,h1,h2⟩; exact ⟨us,vs,e,(nmL_den h n _ _).2 h1,(nmL_den h n _ _).2 h2⟩
 | .ifc t a,v => by
  simp only [nm,Den]
  constructor
  ·rintro ⟨u,e,h1⟩; exact ⟨u,e,(nm_den h n _ _).1 h1⟩
  ·rintro ⟨u,e,h1⟩; exact ⟨u,e,(nm_den h n _ _).2 h1⟩
 | .agg cs,v => by
  simp only [nm,Den]
  constructor
  ·rintro ⟨u,e,h1⟩; exact ⟨u,e,(nmL_den h n _ _).1 h1⟩
  ·rintro ⟨u,e,h1⟩; exact ⟨u,e,(nmL_den h n _ _).2 h1⟩
 | .tup cs,v => by
  simp only [nm,Den]
  constructor
  ·rintro ⟨u,e,h1⟩; exact ⟨u,e,(nmL_den h n _ _).1 h1⟩
  ·rintro ⟨u,e,h1⟩; exact ⟨u,e,(nmL_den h n _ _).2 h1⟩
 | .any,v => by simp only [nm,Den]
 | .bool b,v => by simp only [nm,Den]
 | .int a b,v => by simp only [nm,Den]
 | .str l,v => by simp only [nm,Den]
 | .nilp,v => by simp only [nm,Den]
 | .nils,v => by simp only [nm,Den]
 | .nilf,v => by simp only [nm,Den]
 | .nili,v => by simp only [nm,Den]
theorem nmL_den {k x:Nat} {m2 m:Map} (h:NmOK k x m2 m) (n:Nat):∀ (y:List AV) (v:List Value),DenL m2 n y v ↔ DenL m n (nmL k x y) v
 | [],v => by simp only [nmL,DenL]
 | a :: l,v => by
  simp only [nmL,DenL]
  constructor
  ·rintro ⟨u,us,e,h1,h2⟩; exact ⟨u,us,e,(nm_den h n _ _).1 h1,(nmL_den h n _ _).1 h2⟩
  ·rintro ⟨u,us,e,h1,h2⟩; exact ⟨u,us,e,(nm_den h n _ _).2 h1,(nmL_den h n _ _).2 h2⟩
end
def nmRow (k x:Nat):Row -> Row
 | .lst t z l => .lst t z (l.map (nm k x))
 | .gen t z n G => .gen t z n fun i => nm k x (G i)
 | .byt t l => .byt t l
def nmRows (k x:Nat) (h:Rows):Rows:=h.map (Option.map (nmRow k x))
def nmSt (k x:Nat) (st:St):St:=⟨st.tmps.map (nm k x),nmRows k x st.rows⟩
theorem nm_one (k x:Nat) (y:AV):(nm k x y).one = y.one:=by
 cases y with
 | ptr ro => cases ro <;> simp [nm,AV.one]
 | sl ro => cases ro <;> simp [nm,AV.one]
 | _ => simp [nm,AV.one]
theorem nm_cells (k x:Nat) (y:AV):(nm k x y).cells = y.cells.map (nm k x):=by
 cases y with
 | ptr ro => cases ro <;> simp [nm,AV.cells]
 | sl ro => cases ro <;> simp [nm,AV.cells]
 | agg cs => simp [nm,AV.cells,nmL_eq]
 | _ => simp [nm,AV.cells]
theorem nmRow_ty (k x:Nat) (r:Row):(nmRow k x r).ty = r.ty:=by cases r <;> rfl
theorem nmRow_esz (k x:Nat) (r:Row):(nmRow k x r).esz = r.esz:=by cases r <;> rfl
theorem nmRow_len (k x:Nat) (r:Row):(nmRow k x r).len = r.len:=by cases r <;> simp [nmRow,Row.len]
theorem nmRow_get (k x:Nat) (r:Row) (i:Nat):(nmRow k x r).get? i = (r.get? i).map (nm k x):=by
 cases r with
 | lst t z l => simp [nmRow,Row.get?]
 | gen t z n G =>
  simp only [nmRow,Row.get?]
  cases Nat.blt i n <;> rfl
 | byt t l =>
  simp only [nmRow,Row.get?,Option.map_map]
  congr 1
theorem nmRows_live (k x:Nat) (h:Rows) (c:Nat):(nmRows k x h).live c = (h.live c).map (nmRow k x):=by
 unfold Rows.live nmRows
 rw [List.getElem?_map]
 cases h[c]? with
 | none => rfl
 | some o => cases o <;> rfl
theorem nmRows_length (k x:Nat) (h:Rows):(nmRows k x h).length = h.length:=by simp [nmRows]
theorem RowOK.nm {k x:Nat} {m2 m:Map} (hm:NmOK k x m2 m) {n:Nat} {l:Loc} {r:Row} {w:World}:RowOK m2 n l r w ↔ RowOK m n l (nmRow k x r) w:=by
 unfold RowOK
 rw [nmRow_esz,nmRow_len,nmRow_ty]
 refine and_congr Iff.rfl (and_congr Iff.rfl ?_)
 split
 ·exact Iff.rfl
 ·constructor
  ·rintro ⟨c,fz,h1,h2,h3,h4⟩
   refine ⟨c,fz,h1,h2,h3,fun i e he => ?_⟩
   rw [nmRow_get] at he
   obtain ⟨e',he',rfl⟩:=Option.map_eq_some_iff.1 he
   obtain ⟨h5,h6⟩:=h4 i e' he'
   refine ⟨by rw [nm_cells,List.length_map]; exact h5,fun o a ha => ?_⟩
   rw [nm_cells,List.getElem?_map] at ha
   obtain ⟨a',ha',rfl⟩:=Option.map_eq_some_iff.1 ha
   obtain ⟨h7,v,h8,h9⟩:=h6 o a' ha'
   exact ⟨by rw [nm_one]; exact h7,v,h8,(nm_den hm n _ _).1 h9⟩
  ·rintro ⟨c,fz,h1,h2,h3,h4⟩
   refine ⟨c,fz,h1,h2,h3,fun i e he => ?_⟩
   obtain ⟨h5,h6⟩:=h4 i (Dc.nm k x e) (by rw [nmRow_get,he]; rfl)
   rw [nm_cells,List.length_map] at h5
   refine ⟨h5,fun o a ha => ?_⟩
   obtain ⟨h7,v,h8,h9⟩:=h6 o (Dc.nm k x a) (by rw [nm_cells,List.getElem?_map,ha]; rfl)
   exact ⟨by rw [nm_one] at h7; exact h7,v,h8,(nm_den hm n _ _).2 h9⟩
structure WRl (m:Map) (h:Rows) (w:World):Prop where
 row:∀ b r,h.live b = some r -> RowOK m h.length (m.mu b) r w
 apart:∀ b b' r r',h.live b = some r -> h.live b' = some r' -> (m.mu b).vir = false -> (m.mu b').vir = false -> (m.mu b).blk = (m.mu b').blk -> b = b'
theorem WRl.nm {k x:Nat} {m2 m:Map} (hm:NmOK k x m2 m) {h:Rows} {w:World}:WRl m2 h w ↔ WRl m (nmRows k x h) w:=by
 constructor
 ·intro hw
  refine ⟨fun b r hb => ?_,fun b b' r r' hb hb' => ?_⟩
  ·rw [nmRows_live] at hb
   obtain ⟨r0,hb0,rfl⟩:=Option.map_eq_some_iff.1 hb
   rw [nmRows_length,<- hm.mu]
   exact (RowOK.nm hm).1 (hw.row b r0 hb0)
  ·rw [nmRows_live] at hb hb'
   obtain ⟨r0,hb0,rfl⟩:=Option.map_eq_some_iff.1 hb
   obtain ⟨r1,hb1,rfl⟩:=Option.map_eq_some_iff.1 hb'
   rw [<- hm.mu]
   exact hw.apart b b' _ _ hb0 hb1
 ·intro hw
  refine ⟨fun b r hb => ?_,fun b b' r r' hb hb' => ?_⟩
  ·have:=hw.row b (nmRow k x r) (by rw [nmRows_live,hb]; rfl)
   rw [nmRows_length,<- hm.mu] at this
   exact (RowOK.nm hm).2 this
  ·have:=hw.apart b b' (nmRow k x r) (nmRow k x r') (by rw [nmRows_live,hb]; rfl) (by rw [nmRows_live,hb']; rfl)
   rw [<- hm.mu] at this
   exact this
noncomputable def inner (m:Map) (k x:Nat) (z:Nat):Map:=⟨m.mu,fun i => bif Nat.beq i k then (match x with | 0 => ⟨0,0,z,0,true⟩ | x + 1 => tkLoc (x + 1)) else m.ro i⟩
theorem inner_nm {m:Map} (hm:Named m) (k x z:Nat):NmOK k x (inner m k x z) m:=by
 refine ⟨rfl,fun i => ?_⟩
 simp only [inner,nmI]
 cases hb:Nat.beq i k with
 | false => exact .inl rfl
 | true =>
  simp only [cond_true]
  rw [hm x]
  cases x with
  | zero => exact .inr ⟨rfl,rfl⟩
  | succ x => exact .inl rfl
theorem inner_named {m:Map} (hm:Named m) {k:Nat} (hk:k < 15) (x z:Nat):Named (inner m k x z):=by
 intro i
 simp only [inner]
 have:Nat.beq (i + 15) k = false:=by rw [Bool.eq_false_iff]; intro e; have:=Nat.eq_of_beq_eq_true e; omega
 rw [this]
 exact hm i
theorem RoOK.same {m m':Map} {l:Loc} {r:RoRow} {w:World} (h:RoOK m l r w) (hd:∀ i,i < r.n -> ∀ a ∈ (r.at_ i).cells,∀ v,Den m 0 a v -> Den m' 0 a v):RoOK m' l r w:=by
 obtain ⟨h1,h2,h3⟩:=h
 refine ⟨h1,h2,?_⟩
 split
 ·rename_i hv; rw [if_pos hv] at h3; exact h3
 ·rename_i hv
  rw [if_neg hv] at h3
  intro hn
  obtain ⟨c,fz,hc,hel⟩:=h3 hn
  refine ⟨c,fz,hc,fun j hj => ?_⟩
  obtain ⟨hl,hcell⟩:=hel j hj
  refine ⟨hl,fun o a ha => ?_⟩
  obtain ⟨h4,v,h5,h6⟩:=hcell o a ha
  exact ⟨h4,v,h5,hd j hj a (List.mem_of_getElem? ha) v h6⟩
def Quits (R:Nat -> RoRow) (k:Nat):Prop:=∀ i j,j < (R i).n -> ∀ a ∈ ((R i).at_ j).cells,∀ x,nm k x a = a
section
variable {P:Program} {R:Nat -> RoRow} {ds:List Deferred} {k x:Nat} {ro:RoRow} {F:Fz} {m:Map} {w:World}
theorem WR.inward (hk:k < 15) (hfr:Frz F x ro) (h0:(R k).n = 0) (hR:Quits R k) {h:Rows} (hW:WR R m (nmRows k x h) w) (hf:FzOK F m (nmRows k x h) w) :
  WR (updR R k ro) (inner m k x ro.esz) h w /\ FzOK F (inner m k x ro.esz) h w:=by
 have hm:Named m:=hf.ro
 have hN:=inner_nm hm k x ro.esz
 have hl:WRl (inner m k x ro.esz) h w:=(WRl.nm hN).2 ⟨hW.row,hW.apart⟩
 have hap:∀ b r,h.live b = some r -> (m.mu b).vir = false -> F (m.mu b).blk = none:=fun b r hb hv => hf.apart b (nmRow k x r) (by rw [nmRows_live,hb]; rfl) hv
 refine ⟨⟨hl.row,hl.apart,?_,?_⟩,⟨hf.blk,hap,inner_named hm hk x ro.esz⟩⟩
 ·intro i
  cases hb:Nat.beq i k with
  | false =>
   have e1:updR R k ro i = R i:=by simp only [updR,hb,cond_false]
   have e2:(inner m k x ro.esz).ro i = m.ro i:=by simp only [inner,hb,cond_false]
   rw [e1,e2]
   refine (hW.ro i).same fun j hj a ha v hd => ?_
   rw [nm_den hN,hR i j hj a ha x]
   exact hd
  | true =>
   have e1:updR R k ro i = ro:=by simp only [updR,hb,cond_true]
   rw [e1]
   rcases hfr with ⟨rfl,hn⟩ | ⟨blk,off,ext,c,hx,hne,hF,hcell⟩
   ·have e2:(inner m k 0 ro.esz).ro i = ⟨0,0,ro.esz,0,true⟩:=by simp only [inner,hb,cond_true]
    rw [e2]
    exact ⟨rfl,by rw [hn]; exact Nat.zero_le _,by simp only [if_true]; exact hn⟩
   ·obtain ⟨y,hy⟩:∃ y,x = y + 1:=⟨_,hx⟩
    have e2:(inner m k x ro.esz).ro i = ⟨blk,off,ro.esz,ext,false⟩:=by
     simp only [inner,hb,cond_true]
     rw [hy]
     show tkLoc (y + 1) = _
     rw [<- hy,hx,tkLoc_name]
    rw [e2]
    refine ⟨rfl,hne,?_⟩
    simp only [Bool.false_eq_true,if_false]
    intro _
    obtain ⟨fz,hh⟩:=hf.blk _ _ _ hF
    refine ⟨c,fz,hh,fun j hj => ?_⟩
    obtain ⟨h1,h2⟩:=hcell j hj
    refine ⟨h1,fun o a ha => ?_⟩
    obtain ⟨h3,v,h4,h5⟩:=h2 o a ha
    exact ⟨h3,v,h4,h5 _ _ (inner_named hm hk x ro.esz)⟩
 ·intro i b r hb hv hv2 hn
  simp only [updR,inner] at hv2 hn ⊢
  cases hbk:Nat.beq i k with
  | false =>
   rw [hbk] at hv2 hn
   simp only [cond_false] at hv2 hn ⊢
   exact hW.roApart i b (nmRow k x r) (by rw [nmRows_live,hb]; rfl) hv hv2 hn
  | true =>
   rw [hbk] at hv2 hn
   simp only [cond_true] at hv2 hn ⊢
   rcases hfr with ⟨rfl,hn0⟩ | ⟨blk,off,ext,c,hx,hne,hF,hcell⟩
   ·simp at hv2
   ·obtain ⟨y,rfl⟩:∃ y,x = y + 1:=⟨_,hx⟩
    simp only []
    rw [hx,tkLoc_name]
    simp only []
    intro e
    rw [e,hap b r hb hv] at hF
    cases hF
theorem WR.outward {h h':Rows} {m':Map} {w':World} {F':Fz} (hm:Named m) (h0:(R k).n = 0) (hR:Quits R k) (hN:NmOK k x m' ⟨m'.mu,m.ro⟩) (hro:∀ i,Nat.beq i k = false -> m'.ro i = m.ro i) (hW0:∀ i,(R i).esz = (m.ro i).esz)
  (hW:WR (updR R k ro) m' h' w') (hf:FzOK F' m' h' w') (hh:nmRows k x h' = h'):WR R ⟨m'.mu,m.ro⟩ h' w' /\ FzOK F' ⟨m'.mu,m.ro⟩ h' w':=by
 have hl:WRl ⟨m'.mu,m.ro⟩ h' w':=by have:=(WRl.nm hN).1 ⟨hW.row,hW.apart⟩; rwa [hh] at this
 refine ⟨⟨hl.row,hl.apart,?_,?_⟩,⟨hf.blk,hf.apart,hm⟩⟩
 ·intro i
  cases hb:Nat.beq i k with
  | false =>
   have:=hW.ro i
   simp only [updR,hb,cond_false] at this
   rw [hro i hb] at this
   refine this.same fun j hj a ha v hd => ?_
   rw [<- hR i j hj a ha x,<- nm_den hN]
   exact hd
  | true =>
   have:=Nat.eq_of_beq_eq_true hb
   subst this
   refine ⟨(hW0 i).symm,by rw [h0]; exact Nat.zero_le _,?_⟩
   split
   ·exact h0
   ·rw [h0]; intro h; exact absurd h (Nat.lt_irrefl _)
 ·intro i b r hb hv hv2 hn
  cases hbk:Nat.beq i k with
  | false =>
   have:=hW.roApart i b r hb hv
   simp only [updR,hbk,cond_false] at this
   rw [hro i hbk] at this
   exact this hv2 hn
  | true =>
   have:=Nat.eq_of_beq_eq_true hbk
   subst this
   rw [h0] at hn
   exact absurd hn (Nat.lt_irrefl _)
theorem Step.inward {h h':Rows} {m2 m':Map} {w':World} (hmu:m2.mu = m.mu) (hs:Step m2 h w m' h' w'):Step m (nmRows k x h) w ⟨m'.mu,m.ro⟩ h' w' where
 os:=hs.os
 tape:=hs.tape
 output:=hs.output
 size:=hs.size
 block:=fun j hj hn => hs.block j hj fun b r hb hv => by
  rw [hmu] at hv ⊢
  exact hn b (nmRow k x r) (by rw [nmRows_live,hb]; rfl) hv
 len:=by rw [nmRows_length]; exact hs.len
 mu:=fun b hb => by rw [nmRows_length] at hb; rw [<- hmu]; exact hs.mu b hb
 ro:=rfl
 new:=fun b r hb hv => by
  rcases hs.new b r hb hv with h1 | ⟨c,r',hc,hcv,hce⟩
  ·exact .inl h1
  ·rw [hmu] at hcv hce
   exact .inr ⟨c,nmRow k x r',by rw [nmRows_live,hc]; rfl,hcv,hce⟩
theorem Fz.To.inward {h:Rows} {m2:Map} {F':Fz} (hmu:m2.mu = m.mu) (hl:F.To m2 h w F'):F.To m (nmRows k x h) w F' where
 le:=hl.le
 new:=fun b y hb => by
  rcases hl.new b y hb with h1 | h1 | ⟨c,r',hc,hcv,hce⟩
  ·exact .inl h1
  ·exact .inr (.inl h1)
  ·rw [hmu] at hcv hce
   exact .inr (.inr ⟨c,nmRow k x r',by rw [nmRows_live,hc]; rfl,hcv,hce⟩)
theorem SafeX.swap {c:Code} {st:St} {Q Q1:Exit -> St -> Fz -> Prop} {HP HP1:AV -> Rows -> Fz -> Prop} (hk:k < 15) (hfr:Frz F x ro) (h0:(R k).n = 0) (hR:Quits R k) (h:SafeX P (updR R k ro) ds c st F Q HP)
  (hq:∀ e st' F',F.le F' -> Q e st' F' -> nmSt k x st' = st' /\ Q1 e st' F') (hp:∀ v h' F',F.le F' -> HP v h' F' -> nm k x v = v /\ nmRows k x h' = h' /\ HP1 v h' F'):SafeX P R ds c (nmSt k x st) F Q1 HP1:=by
 intro m a w m0 h1 w0 F0 hr hf hs hl
 have hm:Named m:=hf.ro
 obtain ⟨hW2,hf2⟩:=WR.inward hk hfr h0 hR hr.wr hf
 have hN:=inner_nm hm k x ro.esz
 have hr2:RelX (updR R k ro) ds (inner m k x ro.esz) st a w:=by
  refine ⟨by simpa [nmSt] using hr.size,?_,hr.defers,hW2⟩
  intro i y hy
  obtain ⟨c,hc,hd⟩:=hr.tmps i (nm k x y) (by simp only [nmSt,List.getElem?_map,hy]; rfl)
  refine ⟨c,hc,?_⟩
  simp only [nmSt,nmRows_length] at hd
  exact (nm_den hN _ _ _).2 hd
 have hesz:∀ i,(R i).esz = (m.ro i).esz:=fun i => (hr.wr.ro i).1.symm
 have key:∀ {m':Map} {w':World} {h':Rows},Step (inner m k x ro.esz) st.rows w m' h' w' -> NmOK k x m' ⟨m'.mu,m.ro⟩ /\ ∀ i,Nat.beq i k = false -> m'.ro i = m.ro i:=by
  intro m' w' h' hS
  refine ⟨⟨rfl,fun i => ?_⟩,fun i hi => ?_⟩
  ·rw [hS.ro]; exact hN.ro i
  ·rw [hS.ro]; simp only [inner,hi,cond_false]
 refine wp_mono (h (inner m k x ro.esz) a w (inner m k x ro.esz) st.rows w F hr2 hf2 (Step.refl _ _ _) (.refl _ _ _ _)) ?_
 intro e a' w' hpost
 cases e with
 | panic ch =>
  obtain ⟨m',h',v,cv,F',h1,h2,h3,h4,h5,h6,h7,h8⟩:=hpost
  obtain ⟨e1,e2,e3⟩:=hp _ _ _ h7.le h2
  obtain ⟨hN',hro'⟩:=key h6
  obtain ⟨hW3,hf3⟩:=WR.outward hm h0 hR hN' hro' hesz h4 h5 e2 (h:=st.rows)
  refine ⟨⟨m'.mu,m.ro⟩,h',v,cv,F',h1,e3,?_,hW3,hf3,hs.trans (Step.inward (m:=m) (m2:=inner m k x ro.esz) rfl h6),hl.trans hs (Fz.To.inward (m:=m) (m2:=inner m k x ro.esz) rfl h7),h8⟩
  rw [<- e1]; exact (nm_den hN' _ _ _).1 h3
 | goto l => obtain ⟨_,_,_,h,_⟩:=hpost; exact h.elim
 | outgrown => obtain ⟨_,_,_,h,_⟩:=hpost; exact h.elim
 | _ =>
  obtain ⟨m',st',F',hok,hqq,hr',hf',hs',hl'⟩:=hpost
  obtain ⟨e1,e2⟩:=hq _ _ _ hl'.le hqq
  obtain ⟨hN',hro'⟩:=key hs'
  have eT:st'.tmps.map (nm k x) = st'.tmps:=congrArg St.tmps e1
  have eR:nmRows k x st'.rows = st'.rows:=congrArg St.rows e1
  obtain ⟨hW3,hf3⟩:=WR.outward hm h0 hR hN' hro' hesz hr'.wr hf' eR (h:=st.rows)
  refine ⟨⟨m'.mu,m.ro⟩,st',F',hok,e2,⟨hr'.size,?_,hr'.defers,hW3⟩,hf3,hs.trans (Step.inward (m:=m) (m2:=inner m k x ro.esz) rfl hs'),hl.trans hs (Fz.To.inward (m:=m) (m2:=inner m k x ro.esz) rfl hl')⟩
  intro i y hy
  obtain ⟨y0,hy0,hye⟩:∃ y0,st'.tmps[i]? = some y0 /\ nm k x y0 = y:=by
   rw [<- eT,List.getElem?_map] at hy
   obtain ⟨y0,h1,h2⟩:=Option.map_eq_some_iff.1 hy
   exact ⟨y0,h1,h2⟩
  obtain ⟨c,hc,hd⟩:=hr'.tmps i y0 hy0
  exact ⟨c,hc,by rw [<- hye]; exact (nm_den hN' _ _ _).1 hd⟩
theorem SafeCallX.swap {f:FuncId} {args:List AV} {h:Rows} {Q Q1:AV -> Rows -> Fz -> Prop} {HP HP1:AV -> Rows -> Fz -> Prop} (hk:k < 15) (hfr:Frz F x ro) (h0:(R k).n = 0) (hR:Quits R k) (hs:SafeCallX P (updR R k ro) f args h F Q HP)
  (hq:∀ v h' F',F.le F' -> Q v h' F' -> nm k x v = v /\ nmRows k x h' = h' /\ Q1 v h' F') (hp:∀ v h' F',F.le F' -> HP v h' F' -> nm k x v = v /\ nmRows k x h' = h' /\ HP1 v h' F'):SafeCallX P R f (nmL k x args) (nmRows k x h) F Q1 HP1:=by
 intro m w m0 h1 w0 F0 as hd hW hf hst hl
 have hm:Named m:=hf.ro
 obtain ⟨hW2,hf2⟩:=WR.inward hk hfr h0 hR hW hf
 have hN:=inner_nm hm k x ro.esz
 have hesz:∀ i,(R i).esz = (m.ro i).esz:=fun i => (hW.ro i).1.symm
 rw [nmRows_length] at hd
 refine (hs (inner m k x ro.esz) w (inner m k x ro.esz) h w F as ((nmL_den hN _ _ _).2 hd) hW2 hf2 (Step.refl _ _ _) (.refl _ _ _ _)).mono ?_
 rintro e w' ⟨m',h',F',hW',hf',hl',hs',hcase⟩
 have hN':NmOK k x m' ⟨m'.mu,m.ro⟩:=⟨rfl,fun i => by rw [hs'.ro]; exact hN.ro i⟩
 have hro':∀ i,Nat.beq i k = false -> m'.ro i = m.ro i:=fun i hi => by rw [hs'.ro]; simp only [inner,hi,cond_false]
 rcases hcase with ⟨c,v,rfl,hqq,hd'⟩ | ⟨c,v,rfl,hqq,hd'⟩
 ·obtain ⟨e1,e2,e3⟩:=hq _ _ _ hl'.le hqq
  obtain ⟨hW3,hf3⟩:=WR.outward hm h0 hR hN' hro' hesz hW' hf' e2 (h:=h)
  refine ⟨⟨m'.mu,m.ro⟩,h',F',hW3,hf3,hl.trans hst (Fz.To.inward (m:=m) (m2:=inner m k x ro.esz) rfl hl'),hst.trans (Step.inward (m:=m) (m2:=inner m k x ro.esz) rfl hs'),.inl ⟨c,v,rfl,e3,?_⟩⟩
  rw [<- e1]; exact (nm_den hN' _ _ _).1 hd'
 ·obtain ⟨e1,e2,e3⟩:=hp _ _ _ hl'.le hqq
  obtain ⟨hW3,hf3⟩:=WR.outward hm h0 hR hN' hro' hesz hW' hf' e2 (h:=h)
  refine ⟨⟨m'.mu,m.ro⟩,h',F',hW3,hf3,hl.trans hst (Fz.To.inward (m:=m) (m2:=inner m k x ro.esz) rfl hl'),hst.trans (Step.inward (m:=m) (m2:=inner m k x ro.esz) rfl hs'),.inr ⟨c,v,rfl,e3,?_⟩⟩
  rw [<- e1]; exact (nm_den hN' _ _ _).1 hd'
end
end Go.Dc
end
