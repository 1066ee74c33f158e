/- Of any steps on a list of marks: between two markers at most three entries are alike. No condition. -/
import Derived.Test.YtlhplhncdljicaaRows
import Derived.Test.YtlhplhncdljicaaMu
import Derived.WalkKit
import Derived.ProofKit
import Derived.OpenShut
import Derived.ShutString
import Derived.ChangeOld
import Derived.Below
import Derived.SizedLaws
import Derived.ChangeSlices
import Derived.Carry
import Derived.ChangeArms
namespace Go.Proofs.Ytlhplhncdljicaa.marksMost
open Go.ChangeShapes Go.WideShapes Go.ChangeAt Go.RowKit
open Go.ChangeMaps (open_string shut_string)
theorem laidOut:laidOutB Try.prog = true:=by kernel_rfl
theorem cells3:Try.prog.cellsOf 3 = 1:=by kernel_rfl
theorem cells9:Try.prog.cellsOf 9 = 1:=by kernel_rfl
theorem cells34:Try.prog.cellsOf 34 = 5:=by kernel_rfl
theorem cells32:Try.prog.cellsOf 32 = 1:=by kernel_rfl
theorem own:ownKnob Try.prog.godebug = none:=by kernel_rfl
theorem struct_at {H:Type} {enc:TypeId × Value -> H} {P:Program} {w:World} {base:Nat} {spare:Nat -> Bool} {held:Bool} {t:TypeId} {fs:Array Field} {fuel:Nat} {cs:List Value} {x:DataW H × List MemPlace} (ht:P.underlying t = some (.struct fs)) (h:DataW.trod enc P w base spare held fuel t cs = some x) (o:Nat) (f:Field) (hfo:fs[o]? = some f) {k:Nat} (hc:P.cellsOf f.type = k) :
  ∃ n y,DataW.trod enc P w base spare held n f.type ((cs.drop f.offset).take k) = some y:=by
 obtain ⟨xs,n,_,_,hl,hxl,hx⟩:=DataW.trod_struct ht h
 have h1:=hx o f hfo
 rw [hc] at h1
 have hlt:o < xs.length:=by rw [hxl]; exact (Array.getElem?_eq_some_iff.1 hfo).1
 rw [List.getElem?_eq_getElem hlt] at h1
 exact ⟨n,_,h1⟩
set_option maxRecDepth 100000 in
theorem fields89 : Go.Dc.FieldsOK Try.prog #[{ name := "Name", type := 9, offset := 0, embedded := false, tag := "", pkgPath := "", byteOffset := 0 }, { name := "Value", type := 9, offset := 1, embedded := false, tag := "", pkgPath := "", byteOffset := 16 }] [.str, .str] := by
 intro o k hk
 match o with
 | 0 => cases hk; exact ⟨_,rfl,rfl,cells9,Try.underlying9⟩
 | 1 => cases hk; exact ⟨_,rfl,rfl,cells9,Try.underlying9⟩
 | o + 2 => simp at hk
def bytesOf:Option Value -> List UInt8
 | some (.string s) => s.data.toList
 | _ => []
structure ActD where
 w:Int
 a:Int
 d:Int
 m:List UInt8
 x:Nat
 l:Nat
 N:Nat -> List UInt8
 V:Nat -> List UInt8
def ActP (W:World) (a:Addr) (i:Nat) (t:ActD):Prop :=
 W.cell? (a.add (i * 5 + 0)) = some (.int .i64 t.w) /\ W.cell? (a.add (i * 5 + 1)) = some (.int .i64 t.a) /\ W.cell? (a.add (i * 5 + 2)) = some (.int .i64 t.d) /\ W.cell? (a.add (i * 5 + 3)) = some (.string ⟨⟨t.m⟩⟩) /\
 ∃ sv,W.cell? (a.add (i * 5 + 4)) = some sv /\ Go.Dc.SlDen (Go.Dc.tkLoc t.x) 0 t.l .no sv /\ Go.Dc.Kb.Came (Go.Dc.Kb.fzAll W) t.x t.l t.N t.V
theorem attrs_open {H:Type} {enc:TypeId × Value -> H} {W:World} {fuel:Nat} {v:Value} {y:DataW H × List MemPlace} (g:DataW.trod enc Try.prog W 0 (fun _ => true) true fuel 32 [v] = some y):∃ (x l:Nat) (N V:Nat -> List UInt8),Go.Dc.SlDen (Go.Dc.tkLoc x) 0 l .no v /\ Go.Dc.Kb.Came (Go.Dc.Kb.fzAll W) x l N V:=by
 rcases Go.Dc.open_flat (ks:=[.str,.str]) Try.underlying32 Try.underlying89 fields89 (by kernel_rfl) (cs:=[v]) g with hc | ⟨a,len,cap,hc,hl,hm,hcell⟩
 ·have e:v = .slice none 0 0:=by simpa using hc
  subst e
  obtain ⟨ty,l,h1,h2⟩:=Go.Dc.rowsNil W 2 (Go.Dc.Kb.atA (fun _ => []) (fun _ => []))
  obtain ⟨x,h3,h4⟩:=Go.Dc.Kb.tokOf h1 h2
  exact ⟨x,0,_,_,h4,ty,h3⟩
 ·have e:v = .slice (some a) len cap:=by simpa using hc
  subst e
  obtain ⟨ty,l,h1,h2⟩:=Go.Dc.rowsArg W a len cap 2 (by decide) (Go.Dc.Kb.atA (fun i => bytesOf (W.cell? (a.add (i * 2 + 0)))) (fun i => bytesOf (W.cell? (a.add (i * 2 + 1))))) hl hm (fun i _ => rfl) (by
   intro i hi o ho
   match o,ho with
   | 0,_ =>
    obtain ⟨v,hv,s,rfl,_⟩:=hcell i hi 0 _ rfl
    refine ⟨_,hv,?_⟩
    intro b _ hb
    cases hb
    refine ⟨rfl,fun m n => ?_⟩
    show Value.string s = Value.string ⟨⟨bytesOf (W.cell? (a.add (i * 2 + 0)))⟩⟩
    rw [show W.cell? (a.add (i * 2 + 0)) = some (.string s) from hv]
    rfl
   | 1,_ =>
    obtain ⟨v,hv,s,rfl,_⟩:=hcell i hi 1 _ rfl
    refine ⟨_,hv,?_⟩
    intro b _ hb
    cases hb
    refine ⟨rfl,fun m n => ?_⟩
    show Value.string s = Value.string ⟨⟨bytesOf (W.cell? (a.add (i * 2 + 1)))⟩⟩
    rw [show W.cell? (a.add (i * 2 + 1)) = some (.string s) from hv]
    rfl)
  obtain ⟨x,h3,h4⟩:=Go.Dc.Kb.tokOf h1 h2
  exact ⟨x,len,_,_,h4,ty,h3⟩
theorem act_at {H:Type} {enc:TypeId × Value -> H} {W:World} {a:Addr} {i n:Nat} {cs:List Value} {y:DataW H × List MemPlace} (h2:W.cells? 0 (a.add (i * Try.prog.cellsOf 34)) (Try.prog.cellsOf 34) = some cs) (hf:DataW.trod enc Try.prog W 0 (fun _ => true) true n 34 cs = some y):∃ t,ActP W a i t:=by
 obtain ⟨_,hlen',hcell⟩:=World.cells?_some h2
 rw [cells34] at hlen' hcell
 obtain ⟨c0,c1,c2,c3,c4,rfl⟩:∃ c0 c1 c2 c3 c4,cs = [c0,c1,c2,c3,c4]:=by
  match cs,hlen' with
  | [c0,c1,c2,c3,c4],_ => exact ⟨c0,c1,c2,c3,c4,rfl⟩
 obtain ⟨n0,y0,g0⟩:=struct_at Try.underlying34 hf 0 _ rfl (k:=1) cells3
 obtain ⟨n1,y1,g1⟩:=struct_at Try.underlying34 hf 1 _ rfl (k:=1) cells3
 obtain ⟨n2,y2,g2⟩:=struct_at Try.underlying34 hf 2 _ rfl (k:=1) cells3
 obtain ⟨n3,y3,g3⟩:=struct_at Try.underlying34 hf 3 _ rfl (k:=1) cells9
 obtain ⟨n4,y4,g4⟩:=struct_at Try.underlying34 hf 4 _ rfl (k:=1) cells32
 obtain ⟨wh,rfl,_⟩:=Go.Dc.trod_ck (k:=.int .i64) (t:=3) (v:=c0) Try.underlying3 g0
 obtain ⟨at_,rfl,_⟩:=Go.Dc.trod_ck (k:=.int .i64) (t:=3) (v:=c1) Try.underlying3 g1
 obtain ⟨nd,rfl,_⟩:=Go.Dc.trod_ck (k:=.int .i64) (t:=3) (v:=c2) Try.underlying3 g2
 obtain ⟨nm,rfl,_⟩:=Go.Dc.trod_ck (k:=.str) (t:=9) (v:=c3) Try.underlying9 g3
 obtain ⟨x,l,N,V,k1,k2⟩:=attrs_open (v:=c4) g4
 have cell:∀ o (v:Value),o < 5 -> ([Value.int .i64 wh,.int .i64 at_,.int .i64 nd,.string nm,c4]:List Value)[o]? = some v -> W.cell? (a.add (i * 5 + o)) = some v:=by
  intro o v ho hv
  have h6:=hcell o ho
  rw [Go.Deep.add_add] at h6
  exact h6.trans hv
 exact ⟨⟨wh,at_,nd,nm.data.toList,x,l,N,V⟩,cell 0 _ (by decide) rfl,cell 1 _ (by decide) rfl,cell 2 _ (by decide) rfl,cell 3 _ (by decide) rfl,c4,cell 4 _ (by decide) rfl,k1,k2⟩
theorem acts_open {H:Type} {enc:TypeId × Value -> H} {W:World} {a0:Option Addr} {len0 cap0:Nat} {d:DataW H} {p:List MemPlace} (h:DataW.Trod enc Try.prog W 0 (fun _ => true) true 46 (.slice a0 len0 cap0) d p):Go.Dc.Kb.MarksAt W (.slice a0 len0 cap0):=by
 obtain ⟨fuel,hf⟩:=h
 rcases DataW.trod_slice Try.underlying46 hf with ⟨hc,_⟩ | ⟨a,len,cap,elems,rest,n,_,hc,_,hb,hl,hm,hlen,hel,hsp,_⟩
 ·simp [Value.cells] at hc
  obtain ⟨rfl,rfl,rfl⟩:=hc
  obtain ⟨ty,l,h1,h2⟩:=Go.Dc.rowsNil W 5 (fun j => .agg [.int .i64 ((fun _ => 0) j),.int .i64 ((fun _ => 0) j),.int .i64 ((fun _ => 0) j),.str ((fun _ => []) j),.sl true ((fun _ => 0) j + 15) 0 ((fun _ => 0) j) .no])
  exact ⟨ty,0,_,_,_,_,_,_,fun _ _ => [],fun _ _ => [],l,⟨fun j hj => absurd hj (Nat.not_lt_zero _)⟩,fun m _ => h1 m,h2⟩
 ·simp [Value.cells] at hc
  obtain ⟨rfl,rfl,rfl⟩:=hc
  have key:∀ i,∃ t,i < cap0 -> ActP W a i t:=by
   intro i
   by_cases hi:i < cap0
   ·have one:∃ y cs',W.cells? 0 (a.add (i * Try.prog.cellsOf 34)) (Try.prog.cellsOf 34) = some cs' /\ DataW.trod enc Try.prog W 0 (fun _ => true) true n 34 cs' = some y:=by
     by_cases hi':i < len0
     ·have h1:=hel i hi'
      rw [List.getElem?_eq_getElem (by omega)] at h1
      obtain ⟨cs',h2,h3⟩:=Option.bind_eq_some_iff.1 h1
      exact ⟨_,cs',h2,h3⟩
     ·obtain ⟨hrl,hr⟩:=hsp rfl
      have h1:=hr (i - len0) (by omega)
      rw [List.getElem?_eq_getElem (by omega),show len0 + (i - len0) = i by omega] at h1
      obtain ⟨cs',h2,h3⟩:=Option.bind_eq_some_iff.1 h1
      exact ⟨_,cs',h2,h3⟩
    obtain ⟨y,cs',h2,h3⟩:=one
    obtain ⟨t,ht⟩:=act_at h2 h3
    exact ⟨t,fun _ => ht⟩
   ·exact ⟨⟨0,0,0,[],0,0,fun _ => [],fun _ => []⟩,fun h => absurd h hi⟩
  obtain ⟨f,hfP⟩:=Classical.axiomOfChoice key
  obtain ⟨ty,l,h1,h2⟩:=Go.Dc.Kb.rowsArgN W a len0 cap0 5 (by decide) (fun j => .agg [.int .i64 (f j).w,.int .i64 (f j).a,.int .i64 (f j).d,.str (f j).m,.sl true ((f j).x + 15) 0 (f j).l .no]) hl hm (fun i _ => rfl) (by
   intro i hi o ho
   obtain ⟨q0,q1,q2,q3,sv,q4,q5,q6⟩:=hfP i hi
   match o,ho with
   | 0,_ => exact ⟨_,q0,fun b _ hb => by cases hb; exact ⟨rfl,fun m n _ => rfl⟩⟩
   | 1,_ => exact ⟨_,q1,fun b _ hb => by cases hb; exact ⟨rfl,fun m n _ => rfl⟩⟩
   | 2,_ => exact ⟨_,q2,fun b _ hb => by cases hb; exact ⟨rfl,fun m n _ => rfl⟩⟩
   | 3,_ => exact ⟨_,q3,fun b _ hb => by cases hb; exact ⟨rfl,fun m n _ => rfl⟩⟩
   | 4,_ =>
    refine ⟨sv,q4,fun b _ hb => by
     cases hb
     refine ⟨rfl,fun m n hn => ?_⟩
     simp only [Go.Dc.Den,Go.Dc.Map.loc,if_true]
     rw [hn (f i).x]
     exact ⟨by simp,q5⟩⟩)
  exact ⟨ty,len0,_,_,_,_,_,_,fun j => (f j).N,fun j => (f j).V,l,⟨fun j hj => by
   obtain ⟨_,_,_,_,_,_,_,q6⟩:=hfP j (by omega)
   exact q6⟩,h1,h2⟩
set_option maxRecDepth 100000 in
theorem lifted (os:Os) (started:os.Started) (H:Type) (enc:TypeId × Value -> H) :
  ReturnsInHanded {} Try.checked os 5 .any (Rows.marksMostSpec.pre6 enc Try.prog Try.f5 Rows.marksMostRow.domain false) (Rows.marksMostSpec.post enc Try.prog Try.f5 false true false false):=by
 refine returnsInHanded_of_change_sized (C:=Try.checked) own started (by kernel_rfl) Try.func5
  (ChangeSpec.witness6 (enc:=enc) (C:=Try.checked) false ⟨#[],#[.slice none 0 0],[]⟩ 8 (by kernel_rfl) (by kernel_rfl) (by kernel_rfl) (by kernel_rfl)) ?_
 intro W base args ds gs before hval0 hW hcnd hsz0 _
 have hval:∀ (j:Nat) t v,Try.f5.params[j]? = some t -> args[j]? = some v -> Value.okWide Try.prog W .any base t v:=hval0
 have hsz:(DataW.weightsEach Try.prog (Try.f5.params.toList ++ Rows.marksMostSpec.plain.varTypes Try.prog) (ds ++ gs)).all (· <= reachBytes) = true:=hsz0
 have hW':=hW
 obtain ⟨p,q,hA0,hV,rfl,hfz,hnd⟩:=hW
 have hA:DataW.TrodAll enc Try.prog W 0 (fun _ => true) true Try.f5.params.toList args.toList ds p:=hA0
 rw [Try.params5] at hA hval hsz
 obtain ⟨v0,vs0,d0,ds0,p0,q0,hargs0,rfl,rfl,h0,r0⟩:=trodAll_cons hA
 obtain ⟨rfl,rfl,rfl⟩:=trodAll_nil r0
 obtain rfl:args = #[v0]:=by cases args; simp_all
 obtain ⟨rfl,rfl⟩:=trodVars_none hV
 obtain ⟨a0,len0,cap0,rfl⟩:=okWide_slice Try.underlying46 (hval 0 46 v0 rfl rfl)
 have h0k:=h0
 have i0:=acts_open h0
 clear hA0 hval0 hsz0 hsz
 have hlt0:∀ x ∈ p0,x.block < W.heap.size:=fun x hx => hW'.lt x (by simp [hx])
 have hargs0:∀ (W':World),Below W.heap.size W W' -> DataW.Trod enc Try.prog W' 0 (fun b => decide (b < W.heap.size)) true 46 (.slice a0 len0 cap0) d0 p0 :=
  fun W' hn => Below.trod laidOut (by kernel_rfl) (of_decide_eq_true (by kernel_rfl)) h0k hn hlt0
 refine (Go.Dc.Kb.most_walk W _ i0).mono fun e W' ⟨he,bel⟩ => ?_
 subst he
 exact ⟨_,rfl,_,_,_,[],_,[],hW',trodAll_mk1 (shut_bool Try.underlying4 _),(trodAll_cons_mk (hargs0 _ bel) trodAll_mk0),rfl,bel.frame _,fun h => by cases h⟩
theorem over:Rows.marksMostRow.holds Try.pinned (OpenSpec.ofChange Rows.marksMostSpec) :=
 OpenClaim.holds_of_wide 5 Try.f5 rfl rfl rfl rfl rfl rfl rfl ⟨rfl,rfl,rfl,rfl,rfl⟩ rfl rfl rfl rfl rfl (by kernel_rfl) Try.func5 (by kernel_rfl)
  (of_decide_eq_true (by kernel_rfl)) (by unfold Func.isWrapper; first | (rw [if_pos (by decide +kernel)]; kernel_rfl) | (rw [if_neg (by decide +kernel)]; exact ⟨rfl,rfl⟩))
  (fun os started H enc _ => lifted os started H enc)
theorem proved:Rows.MarksMostSaid:=over
#print axioms proved
end Go.Proofs.Ytlhplhncdljicaa.marksMost
namespace Go.Proofs.Ytlhplhncdljicaa
theorem marksMost_holds:Rows.MarksMostSaid:=marksMost.proved
end Go.Proofs.Ytlhplhncdljicaa
