/- What came in: lists of structs whose fields are numbers, texts and bools. -/
import Derived.Test.YtlhplhncdljicaaDcZi
import Derived.ChangeSlices
import Derived.Deep.SlicePairs
set_option linter.unusedVariables false
set_option linter.unusedSimpArgs false
namespace Go.Dc
inductive CK where
 | int (k:IntKind)
 | str
 | bool
def CK.ok:CK -> Value -> Prop
 | .int k,v => ∃ n,v = .int k n /\ (Lit.int k n).wf = true
 | .str,v => ∃ s:ByteArray,v = .string s /\ s.size <= maxLen
 | .bool,v => ∃ b,v = .bool b
def CK.Of (P:Program) (t:TypeId):CK -> Prop
 | .int k => P.underlying t = some (.int k)
 | .str => P.underlying t = some .string
 | .bool => P.underlying t = some .bool
section
variable {H:Type} {enc:TypeId × Value -> H} {P:Program} {w:World} {base:Nat} {spare:Nat -> Bool} {held:Bool}
theorem trod_ck {k:CK} {t:TypeId} (hk:CK.Of P t k) {fuel:Nat} {v:Value} {x:DataW H × List MemPlace} (h:DataW.trod enc P w base spare held fuel t [v] = some x):k.ok v:=by
 cases fuel with
 | zero => simp [DataW.trod] at h
 | succ fuel =>
  unfold DataW.trod at h
  cases k with
  | int k =>
   rw [show P.underlying t = some (.int k) from hk] at h
   cases v <;> simp at h
   obtain ⟨⟨rfl,h1⟩,_⟩:=h
   exact ⟨_,rfl,h1⟩
  | str =>
   rw [show P.underlying t = some .string from hk] at h
   cases v <;> simp at h
   exact ⟨_,rfl,h.1⟩
  | bool =>
   rw [show P.underlying t = some .bool from hk] at h
   cases v <;> simp at h
   exact ⟨_,rfl⟩
def FieldsOK (P:Program) (fs:Array Field) (ks:List CK):Prop:=∀ o k,ks[o]? = some k -> ∃ f:Field,fs[o]? = some f /\ f.offset = o /\ P.cellsOf f.type = 1 /\ CK.Of P f.type k
theorem struct_ck {t:TypeId} {fs:Array Field} {ks:List CK} (ht:P.underlying t = some (.struct fs)) (hf:FieldsOK P fs ks) {fuel:Nat} {cs:List Value} {x:DataW H × List MemPlace} (h:DataW.trod enc P w base spare held fuel t cs = some x) :
  cs.length = P.cellsOf t /\ ∀ o k,ks[o]? = some k -> o < cs.length -> ∃ v,cs[o]? = some v /\ k.ok v:=by
 obtain ⟨xs,n,_,_,hl,hxl,hx⟩:=DataW.trod_struct ht h
 refine ⟨hl,fun o k hk ho => ?_⟩
 obtain ⟨f,hfo,hoff,hc,hkd⟩:=hf o k hk
 have h1:=hx o f hfo
 rw [hoff,hc] at h1
 have h2:(cs.drop o).take 1 = [cs[o]]:=by
  rw [List.drop_eq_getElem_cons ho,List.take_succ_cons,List.take_zero]
 rw [h2] at h1
 have hlt:o < xs.length:=by rw [hxl]; exact (Array.getElem?_eq_some_iff.1 hfo).1
 rw [List.getElem?_eq_getElem hlt] at h1
 exact ⟨cs[o],List.getElem?_eq_getElem ho,trod_ck hkd h1⟩
theorem open_flat {t e:TypeId} {fs:Array Field} {ks:List CK} (ht:P.underlying t = some (.slice e)) (he:P.underlying e = some (.struct fs)) (hf:FieldsOK P fs ks) (hc:P.cellsOf e = ks.length) {fuel:Nat} {cs:List Value} {x:DataW H × List MemPlace}
  (h:DataW.trod enc P w base (fun _ => true) held fuel t cs = some x) :
  cs = [.slice none 0 0] \/ ∃ (a:Addr) (len cap:Nat),cs = [.slice (some a) len cap] /\ len <= cap /\ cap <= maxLen /\ ∀ i,i < cap -> ∀ o k,ks[o]? = some k -> ∃ v,w.cell? (a.add (i * ks.length + o)) = some v /\ k.ok v:=by
 rcases DataW.trod_slice ht h with ⟨h0,_⟩ | ⟨a,len,cap,elems,rest,n,_,rfl,_,hb,hl,hm,hlen,hel,hsp,_⟩
 ·exact .inl h0
 ·refine .inr ⟨a,len,cap,rfl,hl,hm,fun i hi o k hk => ?_⟩
  have hok:o < ks.length:=(List.getElem?_eq_some_iff.1 hk).1
  have one:∃ y cs',w.cells? base (a.add (i * P.cellsOf e)) (P.cellsOf e) = some cs' /\ DataW.trod enc P w base (fun _ => true) held n e cs' = some y:=by
   by_cases hi':i < len
   ·have h1:=hel i hi'
    rw [List.getElem?_eq_getElem (by omega)] at h1
    obtain ⟨cs',h2,h3⟩:=Option.bind_eq_some_iff.1 h1
    exact ⟨_,cs',h2,h3⟩
   ·obtain ⟨hrl,hr⟩:=hsp rfl
    have h1:=hr (i - len) (by omega)
    rw [List.getElem?_eq_getElem (by omega),show len + (i - len) = i by omega] at h1
    obtain ⟨cs',h2,h3⟩:=Option.bind_eq_some_iff.1 h1
    exact ⟨_,cs',h2,h3⟩
  obtain ⟨y,cs',h2,h3⟩:=one
  obtain ⟨h4,h5⟩:=struct_ck he hf h3
  obtain ⟨_,hlen',hcell⟩:=World.cells?_some h2
  obtain ⟨v,hv,hkv⟩:=h5 o k hk (by rw [h4,hc]; exact hok)
  have h6:=hcell o (by rw [hc]; exact hok)
  rw [Go.Deep.add_add,hc] at h6
  exact ⟨v,h6.trans hv,hkv⟩
end
theorem rowsArg (w:World) (a:Addr) (len cap z:Nat) (hz:0 < z) (at_:Nat -> AV) (hl:len <= cap) (hm:cap <= maxLen) (hc:∀ i,i < len -> (at_ i).cells.length = z)
  (hcell:∀ i,i < cap -> ∀ o,o < z -> ∃ v,w.cell? (a.add (i * z + o)) = some v /\ ∀ b,i < len -> (at_ i).cells[o]? = some b -> b.one = true /\ ∀ m n,Den m n b v) :
  ∃ ty l,(∀ m,RoOK m l ⟨ty,z,len,at_⟩ w) /\ SlDen l 0 len .no (.slice (some a) len cap):=by
 rcases Nat.eq_zero_or_pos cap with h0 | hp
 ·subst h0
  obtain rfl:len = 0:=by omega
  refine ⟨0,⟨0,0,z,0,true⟩,fun m => ⟨rfl,Nat.le_refl _,by simp⟩,?_⟩
  unfold SlDen
  simp only [if_true]
  exact ⟨trivial,some a,rfl,trivial⟩
 ·obtain ⟨v0,h0,_⟩:=hcell 0 hp 0 hz
  have hadd0:a.add (0 * z + 0) = a:=by unfold Addr.add; simp
  rw [hadd0] at h0
  obtain ⟨c,ty,fz,hcb⟩:∃ c ty fz,w.heap[a.block]? = some (Obj.cells c ty fz):=by
   unfold World.cell? at h0
   split at h0
   ·rename_i c ty fz hc; exact ⟨c,ty,fz,hc⟩
   ·cases h0
  have hspot:a.spot = none:=by
   unfold World.cell? at h0
   rw [hcb] at h0
   simp only [] at h0
   cases hs:a.spot with
   | none => rfl
   | some s => rw [hs] at h0; simp at h0
  have ha:a = ⟨a.block,a.off,none⟩:=by cases a; simp_all
  have hadd:∀ i,a.add i = ⟨a.block,a.off + i,none⟩:=by
   intro i
   rw [ha]
   unfold Addr.add
   split
   ·rename_i h; subst h; rfl
   ·rfl
  refine ⟨ty,⟨a.block,a.off,z,cap,false⟩,fun m => ⟨rfl,hl,?_⟩,?_⟩
  ·simp only [Bool.false_eq_true,if_false]
   intro hn
   refine ⟨c,fz,hcb,fun i hi => ⟨hc i hi,fun o b hb => ?_⟩⟩
   have hoz:o < z:=by rw [<- hc i hi]; exact (List.getElem?_eq_some_iff.1 hb).1
   obtain ⟨v,hv,hd⟩:=hcell i (by omega) o hoz
   obtain ⟨h1,h2⟩:=hd b hi hb
   refine ⟨h1,v,?_,h2 _ _⟩
   rw [hadd] at hv
   unfold World.cell? at hv
   rw [hcb] at hv
   simpa using hv
  ·unfold SlDen
   simp only [Bool.false_eq_true,if_false]
   exact ⟨a,cap,rfl,hl,hm,trivial,fun _ => ⟨by simpa using ha,by simp⟩⟩
theorem rowsNil (w:World) (z:Nat) (at_:Nat -> AV):∃ ty l,(∀ m,RoOK m l ⟨ty,z,0,at_⟩ w) /\ SlDen l 0 0 .no (.slice none 0 0):=by
 refine ⟨0,⟨0,0,z,0,true⟩,fun m => ⟨rfl,Nat.le_refl _,by simp⟩,?_⟩
 unfold SlDen
 simp only [if_true]
 exact ⟨trivial,none,rfl,trivial⟩
end Go.Dc
