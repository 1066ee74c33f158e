/- What is known of some rows holds wherever they lie; what a call answers seen under new numbers. -/
import Derived.Test.YtfajmjhijanggaaDcXg
set_option linter.unusedVariables false
set_option linter.unusedSimpArgs false
namespace Go.Dc
def layAt:Rows -> List Nat -> Rows -> Rows
 | h,b :: bs,o :: os => layAt (h.set b o) bs os
 | h,_,_ => h
theorem layAt_length:∀ (bs:List Nat) (os:Rows) (h:Rows),(layAt h bs os).length = h.length
 | [],os,h => by cases os <;> rfl
 | b :: bs,[],h => rfl
 | b :: bs,o :: os,h => by rw [layAt,layAt_length bs os,List.length_set]
theorem layAt_out:∀ (bs:List Nat) (os:Rows) (h:Rows) (i:Nat),i ∉ bs -> (layAt h bs os)[i]? = h[i]?
 | [],os,h,i,_ => by cases os <;> rfl
 | b :: bs,[],h,i,_ => rfl
 | b :: bs,o :: os,h,i,hi => by
  rw [layAt,layAt_out bs os _ i (fun h => hi (List.mem_cons_of_mem _ h)),List.getElem?_set_ne (fun e => hi (by rw [e]; exact List.mem_cons_self))]
theorem layAt_in:∀ (bs:List Nat) (os:Rows) (h:Rows) (c i:Nat),bs.Nodup -> os.length = bs.length -> i < h.length -> bs[c]? = some i -> (layAt h bs os)[i]? = os[c]?
 | [],os,h,c,i,_,_,_,hc => by simp at hc
 | b :: bs,[],h,c,i,_,ho,_,_ => by simp at ho
 | b :: bs,o :: os,h,0,i,hd,ho,hi,hc => by
  simp only [List.getElem?_cons_zero,Option.some.injEq] at hc
  subst hc
  rw [layAt,layAt_out bs os _ b (List.nodup_cons.1 hd).1,List.getElem?_set_self hi]; rfl
 | b :: bs,o :: os,h,c + 1,i,hd,ho,hi,hc => by
  rw [layAt,layAt_in bs os _ c i (List.nodup_cons.1 hd).2 (by simpa using ho) (by rw [List.length_set]; exact hi) (by simpa using hc)]; rfl
theorem nodup_inj:∀ {l:List Nat} (_:l.Nodup) (i j b:Nat),l[i]? = some b -> l[j]? = some b -> i = j
 | [],_,i,j,b,h,_ => by simp at h
 | a :: l,hd,0,0,b,_,_ => rfl
 | a :: l,hd,0,j + 1,b,h1,h2 => by
  simp only [List.getElem?_cons_zero,Option.some.injEq] at h1
  subst h1
  exact absurd (List.mem_of_getElem? (by simpa using h2)) (List.nodup_cons.1 hd).1
 | a :: l,hd,i + 1,0,b,h1,h2 => by
  simp only [List.getElem?_cons_zero,Option.some.injEq] at h2
  subst h2
  exact absurd (List.mem_of_getElem? (by simpa using h1)) (List.nodup_cons.1 hd).1
 | a :: l,hd,i + 1,j + 1,b,h1,h2 => by rw [nodup_inj (List.nodup_cons.1 hd).2 i j b (by simpa using h1) (by simpa using h2)]
def posV (bs:List Nat):Nat -> Option Nat:=fun c => bs[c]?
def gP (bs:List Nat) (N:Nat):Nat -> Nat:=fun c => match bs[c]? with | some b => b | none => N + c
theorem ext_pos (bs:List Nat) (N:Nat):ext (posV bs) bs.length N = gP bs N:=by
 funext c
 unfold ext gP posV
 cases h:Nat.blt c bs.length with
 | true => rfl
 | false =>
  have:bs.length <= c:=by
   rcases Nat.lt_or_ge c bs.length with h1 | h1
   ·rw [blt_t h1] at h; cases h
   ·exact h1
  rw [List.getElem?_eq_none this]; rfl
theorem seen_pos {bs:List Nat} {i:Nat} (hi:i ∉ bs):∀ n,seen (posV bs) i n = false
 | 0 => rfl
 | n + 1 => by
  unfold seen posV
  cases h:bs[n]? with
  | none => exact seen_pos hi n
  | some b =>
   have hb:b ∈ bs:=List.mem_of_getElem? h
   have:Nat.beq b i = false:=by rw [Bool.eq_false_iff]; exact fun e => hi (by rw [<- Nat.eq_of_beq_eq_true e]; exact hb)
   show (bif Nat.beq b i then true else seen (posV bs) i n) = false
   rw [this]
   exact seen_pos hi n
theorem gP_in {bs:List Nat} {N c b:Nat} (h:bs[c]? = some b):gP bs N c = b:=by unfold gP; rw [h]
theorem gP_out {bs:List Nat} {N c:Nat} (h:bs.length <= c):gP bs N c = N + c:=by unfold gP; rw [List.getElem?_eq_none h]
theorem merged_pos {bs:List Nat} {h:Rows} (hd:bs.Nodup) (hb:∀ b ∈ bs,b < h.length) (os tl:Rows) (ho:os.length = bs.length) :
  merged (posV bs) bs.length bs.length h (os ++ tl) = layAt h bs (os.map (Option.map (renRow (gP bs h.length)))) ++ (List.replicate bs.length none ++ tl.map (Option.map (renRow (gP bs h.length)))):=by
 unfold merged
 rw [ext_pos]
 refine List.ext_getElem? fun i => ?_
 rw [List.getElem?_map]
 have hinj:∀ c c',gP bs h.length c' = gP bs h.length c -> c' = c:=by
  intro c c' e
  rcases Nat.lt_or_ge c bs.length with h1 | h1 <;> rcases Nat.lt_or_ge c' bs.length with h2 | h2
  ·rw [gP_in (List.getElem?_eq_getElem h1),gP_in (List.getElem?_eq_getElem h2)] at e
   exact nodup_inj hd c' c _ (List.getElem?_eq_getElem h2) (by rw [e]; exact List.getElem?_eq_getElem h1)
  ·rw [gP_in (List.getElem?_eq_getElem h1),gP_out h2] at e
   have:=hb _ (List.getElem_mem h1); omega
  ·rw [gP_out h1,gP_in (List.getElem?_eq_getElem h2)] at e
   have:=hb _ (List.getElem_mem h2); omega
  ·rw [gP_out h1,gP_out h2] at e; omega
 have hfind:∀ c,c < (os ++ tl).length -> findC (gP bs h.length) (gP bs h.length c) (os ++ tl).length = some c:=fun c hc => findC_inj hc (fun c' _ e => hinj c c' e)
 rcases Nat.lt_or_ge i (h.length + (os ++ tl).length) with hlt | hge
 ·rw [List.getElem?_range hlt]
  simp only [Option.map_some]
  rcases Nat.lt_or_ge i h.length with h1 | h1
  ·rw [List.getElem?_append_left (by rw [layAt_length]; exact h1)]
   by_cases hi:i ∈ bs
   ·obtain ⟨c,hc,e⟩:=List.getElem_of_mem hi
    have hc':bs[c]? = some i:=by rw [List.getElem?_eq_getElem hc,e]
    have hf:=hfind c (by rw [List.length_append]; omega)
    rw [gP_in hc'] at hf
    rw [hf,layAt_in bs _ h c i hd (by rw [List.length_map]; exact ho) h1 hc',List.getElem?_map]
    simp only [Rows.live]
    rw [List.getElem?_append_left (by omega),List.getElem?_eq_getElem (by omega)]
    rfl
   ·have hf:findC (gP bs h.length) i (os ++ tl).length = none:=by
     cases hf:findC (gP bs h.length) i (os ++ tl).length with
     | none => rfl
     | some c =>
      have:=(findC_some hf).2
      rcases Nat.lt_or_ge c bs.length with h2 | h2
      ·rw [gP_in (List.getElem?_eq_getElem h2)] at this
       exact absurd (by rw [<- this]; exact List.getElem_mem h2) hi
      ·rw [gP_out h2] at this; omega
    rw [hf,layAt_out bs _ h i hi]
    simp only [seen_pos hi,cond_false,Rows.live,List.getElem?_eq_getElem h1,Option.join_some]
  ·rw [List.getElem?_append_right (by rw [layAt_length]; exact h1),layAt_length]
   obtain ⟨d,rfl⟩:∃ d,i = h.length + d:=⟨i - h.length,by omega⟩
   rw [show h.length + d - h.length = d by omega]
   have hni:h.length + d ∉ bs:=fun hm => by have:=hb _ hm; omega
   rcases Nat.lt_or_ge d bs.length with h2 | h2
   ·have hf:findC (gP bs h.length) (h.length + d) (os ++ tl).length = none:=by
     cases hf:findC (gP bs h.length) (h.length + d) (os ++ tl).length with
     | none => rfl
     | some c =>
      have:=(findC_some hf).2
      rcases Nat.lt_or_ge c bs.length with h3 | h3
      ·rw [gP_in (List.getElem?_eq_getElem h3)] at this
       exact absurd (by rw [<- this]; exact List.getElem_mem h3) hni
      ·rw [gP_out h3] at this; omega
    rw [hf,List.getElem?_append_left (by rw [List.length_replicate]; exact h2),List.getElem?_replicate,if_pos h2]
    simp only [seen_pos hni,cond_false,Rows.live]
    rw [List.getElem?_eq_none (by omega)]; rfl
   ·have hf:=hfind d (by omega)
    rw [gP_out h2] at hf
    rw [hf,List.getElem?_append_right (by rw [List.length_replicate]; exact h2),List.length_replicate,List.getElem?_map]
    simp only [Rows.live]
    have hd':d < os.length + tl.length:=by rw [List.length_append] at hlt; omega
    rw [List.getElem?_append_right (by omega),ho,List.getElem?_eq_getElem (by omega)]
    rfl
 ·rw [List.getElem?_eq_none (by simp; rw [List.length_append] at hge; omega),List.getElem?_eq_none]
  ·rfl
  ·simp only [List.length_append,layAt_length,List.length_replicate,List.length_map]
   rw [List.length_append] at hge; omega
theorem SafeCallX.atN {P:Program} {R:Nat -> RoRow} {fn:FuncId} {argsL args:List AV} {hL h:Rows} {F:Fz} {Q HP:AV -> Rows -> Rows -> Fz -> Prop} (bs:List Nat) (hn:hL.length = bs.length) (hd:bs.Nodup) (hb:∀ b ∈ bs,b < h.length)
  (hr:∀ c r,hL.live c = some r -> ∃ b r',bs[c]? = some b /\ h.live b = some r' /\ RowV (posV bs) bs.length r r') (hA:VwL (posV bs) bs.length argsL args)
  (hs:SafeCallX P R fn argsL hL F (fun v h' F' => ∃ os tl,h' = os ++ tl /\ os.length = bs.length /\ Q v os tl F') (fun v h' F' => ∃ os tl,h' = os ++ tl /\ os.length = bs.length /\ HP v os tl F')) :
  SafeCallX P R fn args h F (fun v h' F' => ∃ v0 os tl,v = ren (gP bs h.length) v0 /\ h' = layAt h bs (os.map (Option.map (renRow (gP bs h.length)))) ++ (List.replicate bs.length none ++ tl.map (Option.map (renRow (gP bs h.length)))) /\ Q v0 os tl F')
   (fun v h' F' => ∃ v0 os tl,v = ren (gP bs h.length) v0 /\ h' = layAt h bs (os.map (Option.map (renRow (gP bs h.length)))) ++ (List.replicate bs.length none ++ tl.map (Option.map (renRow (gP bs h.length)))) /\ HP v0 os tl F'):=by
 have hV:View (posV bs) hL h:=⟨fun c b _ he => hb b (List.mem_of_getElem? he),fun c c' b h1 h2 e1 e2 => by
   exact nodup_inj hd c c' b e1 e2,fun c r hc => by
   obtain ⟨b,r',e1,e2,e3⟩:=hr c r hc
   exact .inl ⟨b,r',e1,e2,by rw [hn]; exact e3⟩⟩
 refine (SafeCallX.focus hV (by rw [hn]; exact hA) hs).mono ?_ ?_
 ·rintro v h' F' _ ⟨v0,h0,⟨os,tl,rfl,ho,hq⟩,rfl,rfl⟩
  rw [hn,ext_pos,merged_pos hd hb os tl ho]
  exact ⟨v0,os,tl,rfl,rfl,hq⟩
 ·rintro v h' F' _ ⟨v0,h0,⟨os,tl,rfl,ho,hq⟩,rfl,rfl⟩
  rw [hn,ext_pos,merged_pos hd hb os tl ho]
  exact ⟨v0,os,tl,rfl,rfl,hq⟩
theorem ToV.fitW {R:Nat -> RoRow} {nk:Nat} {v vE:AV} {h hE:Rows} {F:Fz} {S:AV -> Rows -> Fz -> Prop} (f:Nat -> Option Nat) (hV:ViewW f hE h) (hv:Vw f hE.length vE v) (hf:∀ c,c < nk -> f c = some c) (hl:nk <= hE.length)
  (hh:ToV R nk vE hE F S):ToV R nk v h F S:=by
 intro m c w m0 h0 w0 F0 hn hd hW hF hs hl0
 refine hh (m.view f hE.es) c w m0 h0 w0 F0 hn (hv.den _ _ _ hd) (hW.viewW hV) ⟨hF.blk,?_,hF.ro⟩ ⟨hs.os,hs.tape,hs.output,hs.size,hs.block,Nat.le_trans hn hl,?_,hs.ro,?_⟩ hl0
 ·intro c r hc hv
  obtain ⟨b,r',h1,h2,h3,h4⟩:=hV.real hc hv
  rw [h4] at hv ⊢
  exact hF.apart b r' h2 hv
 ·intro b hb
  rw [view_some (hf b (Nat.lt_of_lt_of_le hb hn)),hs.mu b hb]
 ·intro b r hb hv
  obtain ⟨d,r1,h1,h2,_,e1⟩:=hV.real hb hv
  rw [e1] at hv ⊢
  exact hs.new _ _ h2 hv
end Go.Dc
