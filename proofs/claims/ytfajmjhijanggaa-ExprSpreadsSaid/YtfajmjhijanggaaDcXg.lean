/- A call where a frozen row is read, of a function that doesn't read it. -/
import Derived.Test.YtfajmjhijanggaaDcXf
import Derived.Below
set_option linter.unusedVariables false
set_option linter.unusedSimpArgs false
namespace Go.Dc
open Go.RowKit
noncomputable def lessR (m:Map) (k z:Nat):Map:=⟨m.mu,fun i => bif Nat.beq i k then ⟨0,0,z,0,true⟩ else m.ro i⟩
theorem lessR_nm {m:Map} (hm:Named m) (k z:Nat):NmOK k 0 (lessR m k z) m:=by
 refine ⟨rfl,fun i => ?_⟩
 simp only [lessR,nmI]
 cases hb:Nat.beq i k with
 | false => exact .inl rfl
 | true =>
  simp only [cond_true]
  have:=hm 0
  simp only [Nat.zero_add] at this ⊢
  rw [this]
  exact .inr (by simp [tkLoc])
theorem lessR_named {m:Map} (hm:Named m) {k:Nat} (hk:k < 15) (z:Nat):Named (lessR m k z):=by
 intro i
 simp only [lessR]
 have:Nat.beq (i + 15) k = false:=by rw [Bool.eq_false_iff]; intro e; have:=Nat.eq_of_beq_eq_true e; omega
 rw [this]
 exact hm i
section
variable {P:Program} {R:Nat -> RoRow} {k:Nat} {ro:RoRow} {F:Fz}
theorem WR.less {m:Map} {w:World} (hm:Named m) (h0:(R k).n = 0) (hR:Quits R k) {h:Rows} (hW:WR (updR R k ro) m h w) (hh:nmRows k 0 h = h):WR R (lessR m k (R k).esz) h w:=by
 have hN:=lessR_nm hm k (R k).esz
 have hl:WRl (lessR m k (R k).esz) h w:=(WRl.nm hN).2 (by rw [hh]; exact ⟨hW.row,hW.apart⟩)
 refine ⟨hl.row,hl.apart,?_,?_⟩
 ·intro i
  cases hb:Nat.beq i k with
  | false =>
   have h1:=hW.ro i
   have e1:updR R k ro i = R i:=by simp only [updR,hb,cond_false]
   have e2:(lessR m k (R k).esz).ro i = m.ro i:=by simp only [lessR,hb,cond_false]
   rw [e1] at h1
   rw [e2]
   refine h1.same fun j hj a ha v hd => ?_
   rw [nm_den hN,hR i j hj a ha 0]
   exact hd
  | true =>
   have:=Nat.eq_of_beq_eq_true hb
   subst this
   have e2:(lessR m i (R i).esz).ro i = ⟨0,0,(R i).esz,0,true⟩:=by simp only [lessR,Nat.beq_refl,cond_true]
   rw [e2]
   exact ⟨rfl,by rw [h0]; exact Nat.zero_le _,by simp only [if_true]; exact h0⟩
 ·intro i b r hb hv hv2 hn
  cases hbk:Nat.beq i k with
  | false =>
   have h1:=hW.roApart i b r hb hv
   have e1:updR R k ro i = R i:=by simp only [updR,hbk,cond_false]
   have e2:(lessR m k (R k).esz).ro i = m.ro i:=by simp only [lessR,hbk,cond_false]
   rw [e1] at h1
   rw [e2] at hv2 ⊢
   exact h1 hv2 hn
  | true =>
   have:=Nat.eq_of_beq_eq_true hbk
   subst this
   rw [h0] at hn
   exact absurd hn (Nat.lt_irrefl _)
theorem RoOK.step {m m3:Map} {w w':World} {h h':Rows} {l:Loc} {r:RoRow} (h1:RoOK m l r w) (ha:∀ b q,h.live b = some q -> (m.mu b).vir = false -> l.vir = false -> 0 < r.n -> l.blk ≠ (m.mu b).blk)
  {m1 m2:Map} (hmu:m1.mu = m.mu) (hs:Step m1 h w m2 h' w') (hro:m3.ro = m.ro):RoOK m3 l r w':=by
 obtain ⟨h2,h3,h4⟩:=h1
 refine ⟨h2,h3,?_⟩
 split
 ·rename_i hv; rw [if_pos hv] at h4; exact h4
 ·rename_i hv
  rw [if_neg hv] at h4
  intro hn
  obtain ⟨c,fz,hc,hel⟩:=h4 hn
  refine ⟨c,fz,?_,fun j hj => ?_⟩
  ·rw [hs.block l.blk (Array.getElem?_eq_some_iff.1 hc).1 (fun b q hb hbv => by rw [hmu] at hbv ⊢; exact fun e => ha b q hb hbv (by simpa using hv) hn e.symm)]
   exact hc
  ·obtain ⟨hl,hcell⟩:=hel j hj
   refine ⟨hl,fun o a ha => ?_⟩
   obtain ⟨h5,v,h6,h7⟩:=hcell o a ha
   exact ⟨h5,v,h6,Den.ground (m:=m) hro h7⟩
theorem SafeCallX.unread {f:FuncId} {args:List AV} {h:Rows} {Q Q1 HP HP1:AV -> Rows -> Fz -> Prop} (hk:k < 15) (h0:(R k).n = 0) (hR:Quits R k) (hargs:nmL k 0 args = args) (hh:nmRows k 0 h = h) (hs:SafeCallX P R f args h F Q HP)
  (hq:∀ v h' F',F.le F' -> Q v h' F' -> nm k 0 v = v /\ nmRows k 0 h' = h' /\ Q1 v h' F') (hp:∀ v h' F',F.le F' -> HP v h' F' -> nm k 0 v = v /\ nmRows k 0 h' = h' /\ HP1 v h' F'):SafeCallX P (updR R k ro) f args h F Q1 HP1:=by
 intro m w m0 h1 w0 F0 vs hd hW hf hst hl
 have hm:Named m:=hf.ro
 have hN:=lessR_nm hm k (R k).esz
 have hW1:=WR.less hm h0 hR hW hh
 have hd1:DenL (lessR m k (R k).esz) h.length args vs.toList:=(nmL_den hN _ _ _).2 (by rw [hargs]; exact hd)
 have hf1:FzOK F (lessR m k (R k).esz) h w:=⟨hf.blk,hf.apart,lessR_named hm hk _⟩
 have hst1:Step (lessR m k (R k).esz) h w (lessR m k (R k).esz) h w:=Step.refl _ _ _
 refine (hs (lessR m k (R k).esz) w (lessR m k (R k).esz) h w F vs hd1 hW1 hf1 hst1 (.refl _ _ _ _)).mono ?_
 have back:∀ {m':Map} {h':Rows} {w':World} {F':Fz},WR R m' h' w' -> FzOK F' m' h' w' -> Step (lessR m k (R k).esz) h w m' h' w' -> F.To (lessR m k (R k).esz) h w F' -> nmRows k 0 h' = h' ->
   WR (updR R k ro) ⟨m'.mu,m.ro⟩ h' w' /\ FzOK F' ⟨m'.mu,m.ro⟩ h' w' /\ Step m h w ⟨m'.mu,m.ro⟩ h' w' /\ F.To m h w F' /\ NmOK k 0 m' ⟨m'.mu,m.ro⟩:=by
  intro m' h' w' F' hW' hf' hs' hl' hh'
  have hN':NmOK k 0 m' ⟨m'.mu,m.ro⟩:=⟨rfl,fun i => by rw [hs'.ro]; exact hN.ro i⟩
  have hl2:WRl ⟨m'.mu,m.ro⟩ h' w':=by have:=(WRl.nm hN').1 ⟨hW'.row,hW'.apart⟩; rwa [hh'] at this
  have hstep:Step m h w ⟨m'.mu,m.ro⟩ h' w':=⟨hs'.os,hs'.tape,hs'.output,hs'.size,hs'.block,hs'.len,hs'.mu,rfl,hs'.new⟩
  refine ⟨⟨hl2.row,hl2.apart,?_,?_⟩,⟨hf'.blk,hf'.apart,hm⟩,hstep,⟨hl'.le,hl'.new⟩,hN'⟩
  ·intro i
   exact RoOK.step (m1:=lessR m k (R k).esz) (hW.ro i) (fun b q hb hbv hv hn => hW.roApart i b q hb hbv hv hn) rfl hs' rfl
  ·intro i b r hb hv hv2 hn
   rcases hstep.new b r hb hv with h2 | ⟨c,r',hc,hcv,hce⟩
   ·have h3:=hW.ro i
    obtain ⟨_,_,h4⟩:=h3
    rw [if_neg (by rw [show (m.ro i).vir = false from hv2]; simp)] at h4
    obtain ⟨cc,fz,hcc,_⟩:=h4 hn
    have:=(Array.getElem?_eq_some_iff.1 hcc).1
    show (m.ro i).blk ≠ _
    intro e
    rw [e] at this
    omega
   ·show (m.ro i).blk ≠ _
    rw [<- hce]
    exact hW.roApart i c r' hc hcv hv2 hn
 rintro e w' ⟨m',h',F',hW',hf',hl',hs',⟨c,v,rfl,hqq,hd'⟩ | ⟨c,v,rfl,hqq,hd'⟩⟩
 ·obtain ⟨e1,e2,e3⟩:=hq _ _ _ hl'.le hqq
  obtain ⟨b1,b2,b3,b4,b5⟩:=back hW' hf' hs' hl' e2
  refine ⟨⟨m'.mu,m.ro⟩,h',F',b1,b2,hl.trans hst b4,hst.trans b3,.inl ⟨c,v,rfl,e3,?_⟩⟩
  rw [<- e1]; exact (nm_den b5 _ _ _).1 hd'
 ·obtain ⟨e1,e2,e3⟩:=hp _ _ _ hl'.le hqq
  obtain ⟨b1,b2,b3,b4,b5⟩:=back hW' hf' hs' hl' e2
  refine ⟨⟨m'.mu,m.ro⟩,h',F',b1,b2,hl.trans hst b4,hst.trans b3,.inr ⟨c,v,rfl,e3,?_⟩⟩
  rw [<- e1]; exact (nm_den b5 _ _ _).1 hd'
end
theorem SafeCallX.at1v {P:Program} {R:Nat -> RoRow} {fn:FuncId} {argsL args:List AV} {r r0:Row} {h:Rows} {b:Nat} {F:Fz} {Q HP:AV -> Row -> Fz -> Prop}
  (hb:h.live b = some r0) (hr:RowG r) (hrv:RowV (oneV b) 1 r r0) (hA:VwL (oneV b) 1 argsL args)
  (hs:SafeCallX P R fn argsL [some r] F (fun v h' F' => ∃ r' tl,h' = some r' :: tl /\ gnd v = true /\ RowG r' /\ Q v r' F') (fun v h' F' => ∃ r' tl,h' = some r' :: tl /\ gnd v = true /\ RowG r' /\ HP v r' F')) :
  SafeCallX P R fn args h F (fun v h' F' => ∃ r',h' = h.set b (some r') /\ Q v r' F') (fun v h' F' => ∃ r',h' = h.set b (some r') /\ HP v r' F'):=by
 have hlt:b < h.length:=live_lt hb
 have hb':h[b]? = some (some r0):=by
  unfold Rows.live at hb
  rw [List.getElem?_eq_getElem hlt] at hb ⊢
  simpa using hb
 have hV:View (oneV b) [some r] h:=View.of (fun c o ho => by
  cases c with
  | zero => cases ho; exact ViewL.at_ (b:=b) rfl hb' hrv
  | succ c => simp at ho) (fun c c' d hc hc' _ _ => by simp at hc hc'; omega)
 intro m w m0 h0 w0 F0 as hd hW hf hst hl
 have hV0:=hW.idView
 refine (SafeCallX.focus hV hA hs m w m h w F as hd hW hf (Step.refl _ _ _) (.refl _ _ _ _)).mono ?_
 have fin:∀ {c v v':AV} {cv:Value} {h':Rows} {m':Map} {F':Fz} {w':World} {r':Row} {tl:Rows},h' = some r' :: tl -> gnd v' = true -> RowG r' -> v = ren (ext (oneV b) [some r].length h.length) v' -> Den m' (merged (oneV b) [some r].length [some r].length h h').length v cv ->
   WR R m' (merged (oneV b) [some r].length [some r].length h h') w' -> FzOK F' m' (merged (oneV b) [some r].length [some r].length h h') w' -> Step m h w m' (merged (oneV b) [some r].length [some r].length h h') w' ->
   ∃ m2,WR R m2 (h.set b (some r')) w' /\ FzOK F' m2 (h.set b (some r')) w' /\ Step m h w m2 (h.set b (some r')) w' /\ Den m2 (h.set b (some r')).length v' cv:=by
  intro c v v' cv h' m' F' w' r' tl e1 hg hrg e2 hd' hW' hf' hS'
  subst e1
  have em:merged (oneV b) [some r].length [some r].length h (some r' :: tl) = h.set b (some r') ++ (Option.none :: tl.map (Option.map (renRow (g1 b h.length)))):=by
   have:=merged_one hlt (some r') tl
   rw [Option.map_some,hrg.ren] at this
   exact this
  rw [em] at hd' hW' hf' hS'
  have hV2:=View.setSame hlt hrg (Option.none :: tl.map (Option.map (renRow (g1 b h.length)))) hV0 ⟨r0,hb⟩
  rw [gnd_ren _ _ hg] at e2
  subst e2
  exact ⟨_,hW'.view hV2,hf'.view hV2,hS'.forget hV2 (fun c hc => rfl) (by simp),(gnd_vw some _ v hg).den _ _ _ hd'⟩
 rintro e w' ⟨m',h',F',hW',hf',hl',hs',⟨c,v,rfl,⟨v',h2,⟨r',tl,e1,hg,hrg,hq⟩,e2,e3⟩,hd'⟩ | ⟨c,v,rfl,⟨v',h2,⟨r',tl,e1,hg,hrg,hq⟩,e2,e3⟩,hd'⟩⟩
 ·subst e3
  obtain ⟨m2,q1,q2,q3,q4⟩:=fin (c:=v) e1 hg hrg e2 hd' hW' hf' hs'
  exact ⟨m2,_,F',q1,q2,hl.trans hst hl',hst.trans q3,.inl ⟨c,v',rfl,⟨r',rfl,hq⟩,q4⟩⟩
 ·subst e3
  obtain ⟨m2,q1,q2,q3,q4⟩:=fin (c:=v) e1 hg hrg e2 hd' hW' hf' hs'
  exact ⟨m2,_,F',q1,q2,hl.trans hst hl',hst.trans q3,.inr ⟨c,v',rfl,⟨r',rfl,hq⟩,q4⟩⟩
theorem SafeCallX.at0 {P:Program} {R:Nat -> RoRow} {fn:FuncId} {args:List AV} {h:Rows} {F:Fz} {Q HP:AV -> Fz -> Prop} (hA:gndL args = true)
  (hs:SafeCallX P R fn args [] F (fun v h' F' => gnd v = true /\ Q v F') (fun v h' F' => gnd v = true /\ HP v F')) :
  SafeCallX P R fn args h F (fun v h' F' => h' = h /\ Q v F') (fun v h' F' => h' = h /\ HP v F'):=by
 intro m w m0 h0 w0 F0 vs hd hW hf hst hl
 have hV0:=hW.idView
 have hV:View noView [] h:=⟨fun c b hc => absurd hc (Nat.not_lt_zero _),fun c c' b hc => absurd hc (Nat.not_lt_zero _),fun c r hc => by simp [Rows.live] at hc⟩
 refine (SafeCallX.focus (hL:=[]) hV (gndL_vw _ _ _ hA) hs m w m h w F vs hd hW hf (Step.refl _ _ _) (.refl _ _ _ _)).mono ?_
 have fin:∀ {v v':AV} {cv:Value} {h':Rows} {m':Map} {F':Fz} {w':World},gnd v' = true -> v = ren (ext noView ([]:Rows).length h.length) v' -> Den m' (merged noView ([]:Rows).length ([]:Rows).length h h').length v cv ->
   WR R m' (merged noView ([]:Rows).length ([]:Rows).length h h') w' -> FzOK F' m' (merged noView ([]:Rows).length ([]:Rows).length h h') w' -> Step m h w m' (merged noView ([]:Rows).length ([]:Rows).length h h') w' ->
   ∃ m2,WR R m2 h w' /\ FzOK F' m2 h w' /\ Step m h w m2 h w' /\ Den m2 h.length v' cv:=by
  intro v v' cv h' m' F' w' hg e2 hd' hW' hf' hS'
  have em:merged noView ([]:Rows).length ([]:Rows).length h h' = h ++ shiftRows h.length h':=merged_nil h h'
  rw [em] at hd' hW' hf' hS'
  have hV2:View some h (h ++ shiftRows h.length h'):=hW.prefixView _
  rw [gnd_ren _ _ hg] at e2
  subst e2
  exact ⟨_,hW'.view hV2,hf'.view hV2,hS'.forget hV2 (fun c hc => rfl) (Nat.le_refl _),(gnd_vw some _ v hg).den _ _ _ hd'⟩
 rintro e w' ⟨m',h',F',hW',hf',hl',hs',⟨c,v,rfl,⟨v',h2,⟨hg,hq⟩,e2,e3⟩,hd'⟩ | ⟨c,v,rfl,⟨v',h2,⟨hg,hq⟩,e2,e3⟩,hd'⟩⟩
 ·subst e3
  obtain ⟨m2,q1,q2,q3,q4⟩:=fin hg e2 hd' hW' hf' hs'
  exact ⟨m2,_,F',q1,q2,hl.trans hst hl',hst.trans q3,.inl ⟨c,v',rfl,⟨rfl,hq⟩,q4⟩⟩
 ·subst e3
  obtain ⟨m2,q1,q2,q3,q4⟩:=fin hg e2 hd' hW' hf' hs'
  exact ⟨m2,_,F',q1,q2,hl.trans hst hl',hst.trans q3,.inr ⟨c,v',rfl,⟨rfl,hq⟩,q4⟩⟩
noncomputable def mapX:Map:=⟨fun _ => ⟨0,0,0,0,true⟩,fun i => if i < 15 then ⟨0,0,0,0,true⟩ else tkLoc (i - 15)⟩
noncomputable def RX:Nat -> RoRow:=fun i => ⟨0,(mapX.ro i).esz,0,fun _ => .any⟩
theorem mapX_named:Named mapX:=by
 intro i
 simp only [mapX]
 rw [if_neg (by omega)]
 congr 1
theorem RX_ok (w:World) (i:Nat):RoOK mapX (mapX.ro i) (RX i) w:=by
 refine ⟨rfl,Nat.zero_le _,?_⟩
 split
 ·rfl
 ·intro h; exact absurd h (Nat.lt_irrefl _)
theorem RX_quits (k:Nat):Quits RX k:=fun i j hj => absurd hj (Nat.not_lt_zero _)
theorem SafeCallX.law {P:Program} {f:FuncId} {args:List AV} (hs:SafeCallX P RX f args [] Fz.empty (fun v _ _ => v = .bool true) (fun _ _ _ => False)) (vs:Array Value) (w:World)
  (has:DenL mapX 0 args vs.toList):Calls P f vs w fun e w' => e = .returned (.bool true) /\ Below w.heap.size w w':=by
 have hW:WR RX mapX [] w:=⟨fun b r hb => by simp [Rows.live] at hb,fun b b' r r' hb => by simp [Rows.live] at hb,RX_ok w,fun i b r hb => by simp [Rows.live] at hb⟩
 have hf:FzOK Fz.empty mapX [] w:={ blk:=fun b ty c h => (by simp [Fz.empty] at h),apart:=fun b r hb => (by simp [Rows.live] at hb),ro:=mapX_named }
 refine (hs mapX w mapX [] w Fz.empty vs has hW hf (Step.refl _ _ _) (.refl _ _ _ _)).mono ?_
 rintro e w' ⟨m',h',F',hW',hf',hl',hS,⟨c,v,rfl,rfl,hd⟩ | ⟨c,v,rfl,h,_⟩⟩
 ·simp only [Den] at hd
  subst hd
  exact ⟨rfl,hS.os,hS.tape,hS.output,hS.size,fun k hk => hS.block k hk (fun b r hb => by simp [Rows.live] at hb)⟩
 ·exact h.elim
end Go.Dc
