/- What runs over read-only rows runs over frozen memory too, whose names are those rows. -/
import Derived.Test.YtlhplhncdljicaaDcXk
set_option linter.unusedVariables false
set_option linter.unusedSimpArgs false
namespace Go.Dc
open Go.RowKit
theorem FrzC.apart {F:Fz} {m:Map} {h:Rows} {w:World} (hf:FzOK F m h w) {x:Nat} {r:RoRow} (hc:FrzC F x r) (hn:0 < r.n) {b:Nat} {q:Row} (hb:h.live b = some q) (hv:(m.mu b).vir = false):(m.ro (x + 15)).blk ≠ (m.mu b).blk:=by
 rcases hc with ⟨h0,⟨h1,_⟩ | ⟨blk,off,ext,c,hx,hne,hF,_⟩⟩ | ⟨h1,_⟩
 ·exact absurd h1 h0
 ·rw [hf.ro x,hx,tkLoc_name]
  intro e
  have h2:=hf.apart b q hb hv
  rw [<- e] at h2
  have h3:F blk = none:=h2
  rw [hF] at h3
  cases h3
 ·omega
structure Names (F:Fz) (R R2:Nat -> RoRow):Prop where
 low:∀ i,i < 15 -> R2 i = R i
 tok:∀ x,FrzC F x (R2 (x + 15))
theorem WR.names {F:Fz} {R R2:Nat -> RoRow} {m:Map} {h:Rows} {w:World} (hN:Names F R R2) (hW:WR R m h w) (hf:FzOK F m h w):WR R2 m h w where
 row:=hW.row
 apart:=hW.apart
 ro:=fun i => by
  by_cases hi:i < 15
  ·rw [hN.low i hi]; exact hW.ro i
  ·obtain ⟨x,rfl⟩:∃ x,i = x + 15:=⟨i - 15,by omega⟩
   exact (hN.tok x).ok (R:=R) hf hf.ro
 roApart:=fun i b r hb hv hvi hn => by
  by_cases hi:i < 15
  ·rw [hN.low i hi] at hn; exact hW.roApart i b r hb hv hvi hn
  ·obtain ⟨x,rfl⟩:∃ x,i = x + 15:=⟨i - 15,by omega⟩
   exact (hN.tok x).apart hf hn hb hv
theorem SafeCall.toXT {P:Program} {R R2:Nat -> RoRow} {f:FuncId} {args:List AV} {h:Rows} {F:Fz} {Q:AV -> Rows -> Prop} {Q' HP:AV -> Rows -> Fz -> Prop} (hN:Names F R R2) (hB:Names F R2 R) (hs:SafeCall P R2 f args h Q) (hq:∀ v h,Q v h -> Q' v h F):SafeCallX P R f args h F Q' HP:=by
 intro m w m0 h0 w0 F0 as h1 h2 h3 h4 h5
 refine (hs m w m h w as h1 (h2.names hN h3) (Step.refl _ _ _)).mono ?_
 rintro e w' ⟨c,v,m',h',rfl,hqq,hd,hW,hS⟩
 have hf':=h3.step hS
 exact ⟨m',h',F,hW.names hB hf',hf',h5,h4.trans hS,.inl ⟨c,v,rfl,hq _ _ hqq,hd⟩⟩
theorem RX_frz' (F:Fz) (x:Nat):FrzC F x (RX (x + 15)):=.inr ⟨rfl,by show (mapX.ro (x + 15)).esz = _; rw [mapX_named]⟩
end Go.Dc
