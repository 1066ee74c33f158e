/- Lists of marks: attributes that are frozen, told as read-only rows. -/
import Derived.Test.YtlhplhncdljicaaAliF
import Derived.Test.YtlhplhncdljicaaSa
import Derived.Test.YtlhplhncdljicaaDcXl
set_option linter.unusedVariables false
set_option linter.unusedSimpArgs false
namespace Go.Dc.Kb
open Go.Proofs Go.RowKit
set_option maxRecDepth 100000
structure Whole (F:Fz) (x:Nat) (D:List At):Prop where
 h:FrzC F x ⟨90,2,D.length,atL D⟩ \/ (x = 0 /\ D = [])
theorem Whole.of {F:Fz} {x:Nat} {D:List At} (h:Frz F x ⟨90,2,D.length,atL D⟩):Whole F x D:=by
 by_cases hx:x = 0
 ·refine ⟨.inr ⟨hx,?_⟩⟩
  rcases h with ⟨_,h⟩ | ⟨blk,off,ext,c,h,_⟩
  ·exact List.length_eq_zero_iff.1 h
  ·rw [hx] at h; unfold tkName at h; omega
 ·exact ⟨.inl (.inl ⟨hx,h⟩)⟩
theorem Whole.le {F F':Fz} {x:Nat} {D:List At} (h:Whole F x D) (hl:F.le F'):Whole F' x D:=by
 rcases h.h with (⟨h0,h⟩ | h) | h
 ·exact ⟨.inl (.inl ⟨h0,h.le hl⟩)⟩
 ·exact ⟨.inl (.inr h)⟩
 ·exact ⟨.inr h⟩
theorem Whole.len {F:Fz} {x:Nat} {D:List At} (h:Whole F x D):D.length <= (tkLoc x).ext:=by
 rcases h.h with (⟨h0,⟨h1,_⟩ | ⟨blk,off,ext,c,rfl,hne,_⟩⟩ | ⟨h1,_⟩) | ⟨_,rfl⟩
 ·exact absurd h1 h0
 ·rw [tkLoc_name]; exact hne
 ·have h1:D.length = 0:=h1
  omega
 ·exact Nat.zero_le _
theorem Whole.frz {F:Fz} {x:Nat} {D:List At} (h:Whole F x D) (hx:x ≠ 0):FrzC F x ⟨90,2,D.length,atL D⟩:=by
 rcases h.h with h | ⟨h,_⟩
 ·exact h
 ·exact absurd h hx
theorem ba_inj {a b:List UInt8} (h:(⟨⟨a⟩⟩:ByteArray) = ⟨⟨b⟩⟩):a = b:=by injection h with h; injection h
theorem atL_str (D:List At) (j:Nat):atL D j = .agg [.str (D.getD j ([],[])).1,.str (D.getD j ([],[])).2]:=rfl
theorem tkName_inj {a b c d a' b' c' d':Nat} (h:tkName a b c d = tkName a' b' c' d'):a = a' /\ b = b' /\ c = c' /\ d = d':=by
 have h1:=tkLoc_name a b c d
 rw [h,tkLoc_name] at h1
 injection h1 with h1 h2 h3 h4
 exact ⟨h3.symm,h1.symm,h2.symm,h4.symm⟩
theorem Whole.same {F:Fz} {x:Nat} {D D':List At} (h:Whole F x D) (h':Whole F x D') {j:Nat} (hj:j < D.length) (hj':j < D'.length):atL D j = atL D' j:=by
 rcases h.h with (⟨h0,⟨h1,_⟩ | ⟨blk,off,ext,c,rfl,_,hF,hc⟩⟩ | ⟨h1,_⟩) | ⟨_,rfl⟩
 ·exact absurd h1 h0
 ·rcases h'.h with (⟨h0',⟨h1',_⟩ | ⟨blk',off',ext',c',hx,_,hF',hc'⟩⟩ | ⟨h1',_⟩) | ⟨_,rfl⟩
  ·exact absurd h1' h0'
  ·obtain ⟨_,rfl,rfl,rfl⟩:=tkName_inj hx
   rw [hF] at hF'
   injection hF' with hF'
   injection hF' with _ e
   subst e
   have key:∀ (o:Nat) (a a':Tx),(atL D j).cells[o]? = some (AV.str a) -> (atL D' j).cells[o]? = some (AV.str a') -> a = a':=by
    intro o a a' ha ha'
    obtain ⟨_,v,hv,hd⟩:=(hc j hj).2 o _ ha
    obtain ⟨_,v',hv',hd'⟩:=(hc' j hj').2 o _ ha'
    have hv:c[off + (j * 2 + o)]? = some v:=hv
    have hv':c[off + (j * 2 + o)]? = some v':=hv'
    rw [hv] at hv'
    injection hv' with e
    subst e
    have d1:=hd mapX 0 mapX_named
    have d2:=hd' mapX 0 mapX_named
    simp only [Den] at d1 d2
    rw [d1] at d2
    injection d2 with d2
    exact ba_inj d2
   have e1:=key 0 _ _ rfl rfl
   have e2:=key 1 _ _ rfl rfl
   rw [atL_str,atL_str,e1,e2]
  ·have h1':D'.length = 0:=h1'
   omega
  ·exact absurd hj' (Nat.not_lt_zero _)
 ·have h1:D.length = 0:=h1
  omega
 ·exact absurd hj (Nat.not_lt_zero _)
theorem Whole.max {F:Fz} {x:Nat} (h:∃ D,Whole F x D):∃ D,Whole F x D /\ ∀ D',Whole F x D' -> D'.length <= D.length:=by
 have key:∀ k,(∃ D,Whole F x D /\ (tkLoc x).ext - D.length = k) -> ∃ D,Whole F x D /\ ∀ D',Whole F x D' -> D'.length <= D.length:=by
  intro k
  induction k using Nat.strongRecOn with
  | ind k ih =>
   rintro ⟨D,hD,hk⟩
   by_cases hm:∀ D',Whole F x D' -> D'.length <= D.length
   ·exact ⟨D,hD,hm⟩
   ·obtain ⟨D',h1⟩:=Classical.not_forall.1 hm
    obtain ⟨h2,h3⟩:=Classical.not_imp.1 h1
    have:=h2.len
    exact ih ((tkLoc x).ext - D'.length) (by omega) ⟨D',h2,rfl⟩
 obtain ⟨D,hD⟩:=h
 exact key _ ⟨D,hD,rfl⟩
noncomputable def best (F:Fz) (x:Nat):RoRow:=open Classical in if h:x ≠ 0 /\ ∃ D,Whole F x D then ⟨90,2,(Whole.max h.2).choose.length,atL (Whole.max h.2).choose⟩ else RX (x + 15)
theorem best_frz (F:Fz) (x:Nat):FrzC F x (best F x):=by
 unfold best
 split
 ·rename_i h; exact (Whole.max h.2).choose_spec.1.frz h.1
 ·exact RX_frz' F x
def lo (x:Nat) (l:Loc):Loc:=if x = 0 then ⟨l.blk,l.shift,2,l.ext,l.vir⟩ else l
theorem lo_den {x:Nat} {l:Loc} {len:Nat} {c:Cp} {v:Value} (h:SlDen l 0 len c v):SlDen (lo x l) 0 len c v:=by
 unfold lo
 split
 ·unfold SlDen at h ⊢
  simp only [Nat.zero_mul] at h ⊢
  exact h
 ·exact h
noncomputable def RT (R:RR) (F:Fz):RR:=fun i => if i < 15 then R i else best F (i - 15)
theorem RT_tok (R:RR) (F:Fz) (x:Nat):RT R F (x + 15) = best F x:=by
 unfold RT
 rw [if_neg (by omega),Nat.add_sub_cancel]
theorem RT_names (R:RR) (F:Fz):Names F R (RT R F):=⟨fun i hi => by unfold RT; rw [if_pos hi],fun x => by rw [RT_tok]; exact best_frz F x⟩
theorem RT_back (R:RR) (F:Fz) (h:∀ x,FrzC F x (R (x + 15))):Names F (RT R F) R:=⟨fun i hi => by unfold RT; rw [if_pos hi],h⟩
theorem best_row {R:RR} {F:Fz} {m m2:Map} {w:World} {x:Nat} {D:List At} (hW:RoOK m (m.ro (x + 15)) (RT R F (x + 15)) w) (h:Whole F x D):RoOK m2 (lo x (m.ro (x + 15))) ⟨90,2,D.length,atL D⟩ w:=by
 by_cases hx:x = 0
 ·rcases h.h with h | ⟨_,rfl⟩
  ·rcases h with ⟨h0,_⟩ | ⟨h1,h2⟩
   ·exact absurd hx h0
   ·rw [hx] at h2; exact absurd h2 (by simp [tkLoc])
  ·unfold lo
   rw [if_pos hx]
   refine ⟨rfl,Nat.zero_le _,?_⟩
   split
   ·rfl
   ·intro hh; exact absurd hh (Nat.lt_irrefl _)
 unfold lo
 rw [if_neg hx]
 rw [RT_tok] at hW
 unfold best at hW
 rw [dif_pos ⟨hx,D,h⟩] at hW
 have hs:=(Whole.max ⟨D,h⟩).choose_spec
 generalize (Whole.max ⟨D,h⟩).choose = E at hW hs
 obtain ⟨h1,h2⟩:=hs
 have hle:=h2 D h
 obtain ⟨g1,g2,g3⟩:=hW
 refine ⟨g1,Nat.le_trans hle g2,?_⟩
 cases hv:(m.ro (x + 15)).vir with
 | true =>
  rw [hv] at g3
  simp only [if_true] at g3 ⊢
  have g3:E.length = 0:=g3
  show D.length = 0
  omega
 | false =>
  rw [hv] at g3
  simp only [Bool.false_eq_true,if_false] at g3 ⊢
  intro hn
  obtain ⟨c,fz,k1,k2⟩:=g3 (Nat.lt_of_lt_of_le hn hle)
  refine ⟨c,fz,k1,fun i hi => ?_⟩
  have hi:i < D.length:=hi
  have hiE:i < E.length:=by omega
  obtain ⟨k3,k4⟩:=k2 i hiE
  have e:=h1.same h hiE hi
  refine ⟨k3,fun o a ha => ?_⟩
  have ha:(atL D i).cells[o]? = some a:=ha
  rw [<- e] at ha
  obtain ⟨k5,v,k6,k7⟩:=k4 o a ha
  refine ⟨k5,v,k6,?_⟩
  rw [e] at ha
  match o,ha with
  | 0,ha => cases ha; exact k7
  | 1,ha => cases ha; exact k7
  | o + 2,ha => simp [atL_str,AV.cells] at ha
theorem alikeT (R:RR) (F:Fz) {x y:Nat} {D D':List At} (h:Whole F x D) (h':Whole F y D') (hD:D.length <= 1000000) (hD':D'.length <= 1000000) (nd nd':Int) (nm nm':Tx) (r:Rows) :
  SafeCall Try.prog (RT R F) 15 [entA nd nm (tok x D.length),entA nd' nm' (tok y D'.length)] r fun v h' => v = .bool (alikeB nm nm' D D') /\ h' = r:=by
 refine (safe15 90 D 90 D' nd nd' nm nm' hD hD').ofRead (fun v hv => by rw [hv]; rfl) ?_
 intro m w hW
 refine ⟨⟨fun _ => ⟨0,0,0,0,true⟩,fun i => match i with | 0 => lo x (m.ro (x + 15)) | 1 => lo y (m.ro (y + 15)) | _ + 2 => ⟨0,0,0,0,true⟩⟩,?_,?_⟩
 ·intro i
  match i with
  | 0 => exact best_row (hW.ro (x + 15)) h
  | 1 => exact best_row (hW.ro (y + 15)) h'
  | i + 2 => exact ⟨rfl,Nat.le_refl _,by simp [ro2D]⟩
 ·intro vs0 has
  simp only [DenL,Den,Map.loc,Bool.false_eq_true,if_false,if_true] at has ⊢
  obtain ⟨v,vs,rfl,⟨us,rfl,x1,y1,e1,g1,x2,y2,e2,g2,x3,y3,e3,g3,g3'⟩,v',vs',rfl,⟨us',rfl,x1',y1',e1',g1',x2',y2',e2',g2',x3',y3',e3',g4,g4'⟩,rfl⟩:=has
  refine ⟨_,_,rfl,⟨us,rfl,x1,y1,e1,g1,x2,y2,e2,g2,x3,y3,e3,⟨by simp,lo_den g3.2⟩,g3'⟩,_,_,rfl,⟨us',rfl,x1',y1',e1',g1',x2',y2',e2',g2',x3',y3',e3',⟨by simp,lo_den g4.2⟩,g4'⟩,rfl⟩
def spec15T (F:Fz):CallSpec:=fun args h k => match args with
 | [.agg [.int .i64 nd,.str nm,.sl true a 0 n .no],.agg [.int .i64 nd',.str nm',.sl true b 0 n' .no]] => ∃ x y D D',(a = x + 15 /\ b = y + 15 /\ n = D.length /\ n' = D'.length /\ Whole F x D /\ Whole F y D' /\ D.length <= 1000000 /\ D'.length <= 1000000) /\ k (.bool (alikeB nm nm' D D')) h
 | _ => False
theorem spec15T_ok (R:RR) (F:Fz):∀ args h k,spec15T F args h k -> SafeCall Try.prog (RT R F) 15 args h k:=by
 intro args h k hk
 unfold spec15T at hk
 split at hk
 ·obtain ⟨x,y,D,D',⟨rfl,rfl,rfl,rfl,h1,h2,h3,h4⟩,hk⟩:=hk
  refine (alikeT R F h1 h2 h3 h4 _ _ _ _ h).mono ?_
  rintro v h' ⟨rfl,rfl⟩
  exact hk
 ·exact hk.elim
end Go.Dc.Kb
