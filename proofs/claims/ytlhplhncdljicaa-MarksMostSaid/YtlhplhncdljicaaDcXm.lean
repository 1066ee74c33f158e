/- A call that is known under other names of read-only rows, whose new rows bear no such name. -/
import Derived.Test.YtlhplhncdljicaaDcXl
set_option linter.unusedVariables false
set_option linter.unusedSimpArgs false
namespace Go.Dc
open Go.RowKit
def Bare (n:Nat) (a:AV):Prop:=∀ m m':Map,m.mu = m'.mu -> ∀ v,Den m n a v -> Den m' n a v
theorem Bare.str (n:Nat) (s:List UInt8):Bare n (.str s):=fun m m' _ v h => by simpa [Den] using h
theorem Bare.sl (n b i l:Nat) (c:Cp):Bare n (.sl false b i l c):=fun m m' e v h => by
 simp only [Den,Map.loc,Bool.false_eq_true,if_false] at h ⊢
 rw [<- e]
 exact h
theorem SafeCall.renRO {P:Program} {R R2:Nat -> RoRow} {f:FuncId} {args argsL:List AV} {Q:AV -> Rows -> Prop} (hs:SafeCall P R2 f argsL [] Q)
  (hq:∀ v h,Q v h -> Bare h.length v /\ ∀ b r,h.live b = some r -> ∀ i e,r.get? i = some e -> ∀ (o:Nat) a,e.cells[o]? = some a -> Bare h.length a)
  (hmap:∀ m w,WR R m [] w -> ∃ m2:Map,(∀ i,RoOK m2 (m2.ro i) (R2 i) w) /\ ∀ as,DenL m 0 args as -> DenL m2 0 argsL as):SafeCall P R f args [] Q:=by
 intro m w m0 h0 w0 aa has hW hS
 obtain ⟨m2,hro,hden⟩:=hmap m w hW
 have hW2:WR R2 m2 [] w:=⟨fun b r hb => by simp [Rows.live] at hb,fun b b' r r' hb => by simp [Rows.live] at hb,hro,fun i b r hb => by simp [Rows.live] at hb⟩
 refine (hs m2 w m2 [] w aa (hden _ has) hW2 (Step.refl _ _ _)).mono ?_
 rintro e w' ⟨c,v,m',h',rfl,hqq,hd,hW',hS'⟩
 obtain ⟨b1,b2⟩:=hq _ _ hqq
 have hbelow:∀ k,k < w.heap.size -> w'.heap[k]? = w.heap[k]?:=fun k hk => hS'.block k hk (fun b r hb => by simp [Rows.live] at hb)
 have hlt:∀ i,(m.ro i).vir = false -> 0 < (R i).n -> (m.ro i).blk < w.heap.size:=by
  intro i hv hn
  have h3:=(hW.ro i).2.2
  rw [if_neg (by rw [hv]; simp)] at h3
  obtain ⟨c,fz,h4,_⟩:=h3 hn
  exact (Array.getElem?_eq_some_iff.1 h4).1
 have hnew:∀ b r,h'.live b = some r -> (m'.mu b).vir = false -> w.heap.size <= (m'.mu b).blk:=by
  intro b r hb hv
  rcases hS'.new b r hb hv with h1 | ⟨c,r',hc,_⟩
  ·exact h1
  ·simp [Rows.live] at hc
 have hSt:Step m [] w ⟨m'.mu,m.ro⟩ h' w':=⟨hS'.os,hS'.tape,hS'.output,hS'.size,fun k hk _ => hbelow k hk,Nat.zero_le _,fun b hb => absurd hb (Nat.not_lt_zero _),rfl,fun b r hb hv => .inl (hnew b r hb hv)⟩
 refine ⟨c,v,⟨m'.mu,m.ro⟩,h',rfl,hqq,b1 m' ⟨m'.mu,m.ro⟩ rfl _ hd,⟨?_,hW'.apart,?_,?_⟩,hS.trans hSt⟩
 ·intro b r hb
  obtain ⟨g1,g2,g3⟩:=hW'.row b r hb
  refine ⟨g1,g2,?_⟩
  split
  ·rename_i hv; rw [if_pos hv] at g3; exact g3
  ·rename_i hv
   rw [if_neg hv] at g3
   obtain ⟨cc,fz,k1,k2,k3,k4⟩:=g3
   refine ⟨cc,fz,k1,k2,k3,fun i e he => ⟨(k4 i e he).1,fun o a ha => ?_⟩⟩
   obtain ⟨l1,vv,l2,l3⟩:=(k4 i e he).2 o a ha
   exact ⟨l1,vv,l2,b2 b r hb i e he o a ha m' ⟨m'.mu,m.ro⟩ rfl _ l3⟩
 ·intro i
  exact (hW.ro i).mono rfl fun hv hn => hbelow _ (hlt i hv hn)
 ·intro i b r hb hv hvi hn
  have h1:=hlt i hvi hn
  have h2:=hnew b r hb hv
  show (m.ro i).blk ≠ (m'.mu b).blk
  omega
theorem SafeCall.refitS {P:Program} {R:Nat -> RoRow} {f:FuncId} {args:List AV} {h:Rows} {Q Q':AV -> Rows -> Prop} (hs:SafeCall P R f args h Q)
  (hq:∀ v h',Q v h' -> ∃ (g:Nat -> Option Nat) (vE:AV) (hE:Rows),ViewS g hE h' /\ Vw g hE.length vE v /\ (∀ c,c < h.length -> g c = some c) /\ h.length <= hE.length /\ Q' vE hE):SafeCall P R f args h Q':=by
 intro m w m0 h0 w0 aa has hW hS
 refine (hs m w m h w aa has hW (Step.refl _ _ _)).mono ?_
 rintro e w' ⟨c,v,m',h',rfl,hqq,hd,hW',hs'⟩
 obtain ⟨g,vE,hE,hV,hv,hg,hl,hq'⟩:=hq _ _ hqq
 refine ⟨c,vE,m'.view g hE.es,hE,rfl,hq',hv.den _ _ _ hd,hW'.viewS hV,hS.trans ⟨hs'.os,hs'.tape,hs'.output,hs'.size,hs'.block,hl,?_,hs'.ro,?_⟩⟩
 ·intro b hb
  rw [view_some (hg b hb),hs'.mu b hb]
 ·intro b r hb hv
  obtain ⟨d,r1,h1,h2,_,e1⟩:=hV.real hb hv
  rw [e1] at hv ⊢
  exact hs'.new _ _ h2 hv
end Go.Dc
