/- What slices.Backward's closures do: they call the round at each place, the last one first. -/
import Derived.Test.YtlhplhncdljicaaEnv
import Derived.Test.YtlhplhncdljicaaDcZe
import Derived.RangeFuncBox
import Derived.RangeFuncLeaves
import Derived.Shelf.Abstract
import Derived.WalkKit
import Derived.OwnWalkIn
import Derived.TacticsInMore
import Derived.LoopNIn
import Derived.LoopIn
set_option linter.unusedVariables false
set_option linter.unusedSimpArgs false
section
namespace Go.Dc.Kb
open Go.Proofs Go.RowKit Go.Shelf
abbrev RR := Nat -> RoRow
abbrev iI (x : Int) : AV := AV.int IntKind.i64 x
attribute [local go_sem] Oper.semAt_some
theorem elem2 {W:World} {b o:Nat} {v:Value} (h:ElemAt W b o 2 v):∃ x y,v = .agg #[x,y] /\ single x = true /\ single y = true /\ W.cell? ⟨b,o,none⟩ = some x /\ W.cell? ⟨b,o + 1,none⟩ = some y:=by
 rcases h with ⟨h,_⟩ | ⟨vs,rfl,hs,hv⟩
 ·omega
 ·obtain ⟨l⟩:=vs
  match l,hs with
  | [x,y],_ =>
   have h0:=hv 0 x rfl
   have h1:=hv 1 y rfl
   exact ⟨x,y,rfl,h0.1,h1.1,h0.2,h1.2⟩
theorem elem3 {W:World} {b o:Nat} {v:Value} (h:ElemAt W b o 3 v):∃ x y z,v = .agg #[x,y,z] /\ single x = true /\ single y = true /\ single z = true /\ W.cell? ⟨b,o,none⟩ = some x /\ W.cell? ⟨b,o + 1,none⟩ = some y /\ W.cell? ⟨b,o + 2,none⟩ = some z:=by
 rcases h with ⟨h,_⟩ | ⟨vs,rfl,hs,hv⟩
 ·omega
 ·obtain ⟨l⟩:=vs
  match l,hs with
  | [x,y,z],_ =>
   have h0:=hv 0 x rfl
   have h1:=hv 1 y rfl
   have h2:=hv 2 z rfl
   exact ⟨x,y,z,rfl,h0.1,h1.1,h2.1,h0.2,h1.2,h2.2⟩
set_option maxRecDepth 100000 in
set_option maxHeartbeats 2000000 in
theorem back63:BackOK Try.prog 63 2:=by
 intro l bb bo blk off len cap a vals J Jx W hlc hcm ha hBs hel hJ hY h0
 refine (callsIn_wide (n:=1)).1 ?_
 refine callsIn_of_wp Try.func63 rfl trivial ?_ rfl
 simp only [Try.ntmps63,List.size_toArray,List.length_cons,List.length_nil,Nat.reduceAdd,Nat.reduceSub,Array.replicate_succ,Array.replicate_zero,List.push_toArray,List.append_toArray,List.nil_append,List.cons_append]
 have hmax:(len:Int) <= 9223372036854775807:=by
  have:len <= 9223372036854775807:=Nat.le_trans hlc hcm
  omega
 have hw1:wrap64 ((len:Int) - 1) = (len:Int) - 1:=by
  unfold wrap64; omega
 gi_wp2
 gi_loopw [3] (fun i wr => ∃ k:Nat,k <= len /\ i = .int .i64 ((len:Int) - 1 - k) /\ J k wr /\ wr.heap[bb]? = W.heap[bb]? /\ wr.heap[blk]? = W.heap[blk]?)
  (fun i _ => (intOf i + 1).toNat)
 case atStart => exact ⟨0,Nat.zero_le _,by simp,h0,rfl,rfl⟩
 case round =>
  obtain ⟨k,hk,rfl,hJs,hkb,hkl⟩:=hrel
  have hBs':wr.cell? ⟨bb,bo,none⟩ = some (.slice a len cap):=(World.cell?_of_block (w:=W) hkb).trans hBs
  by_cases hlt:k < len
  ·obtain ⟨q,hq⟩:∃ q,len = k + 1 + q:=⟨len - k - 1,by omega⟩
   have hqi:(len:Int) - 1 - k = (q:Int):=by omega
   have hqn:len - 1 - k = q:=by omega
   rw [hqi]
   obtain ⟨fn,tmps,assign,body,hy,hR⟩:=hY k wr hlt hJs hkb hkl
   rw [hqn] at hy
   obtain ⟨x,y,hvals,hsx,hsy,hcx,hcy⟩:=elem2 (hel q (by omega))
   rw [hvals] at hy
   have hcx':wr.cell? ⟨blk,off + q * 2,none⟩ = some x:=(World.cell?_of_block (w:=W) hkl).trans hcx
   have hcy':wr.cell? ⟨blk,off + q * 2 + 1,none⟩ = some y:=(World.cell?_of_block (w:=W) hkl).trans hcy
   obtain rfl:=ha (by omega)
   have HQ:Hid (len = k + 1 + q):=hq
   have hql:q < len:=by omega
   clear hq hqi hqn
   gi_wp2
   refine hR.mono ?_
   rintro e W3 (⟨rfl,hJ3,hb3,hl3⟩ | ⟨rfl,hJx3⟩)
   ·gi_wp2
    go_roundw
    case rel => exact ⟨k + 1,by omega,by have:=HQ.out; simp; omega,hJ3,hb3.trans hkb,hl3.trans hkl⟩
    case measure => simp [intOf] <;> omega
   ·gi_wp2
    refine bodyPost_ret (results_none rfl _ _ _) rfl ?_
    exact ⟨⟨_,rfl⟩,.inr hJx3⟩
  ·obtain rfl:k = len:=by omega
   gi_wp2
   go_end0
   exact ⟨⟨_,rfl⟩,.inl hJs⟩
set_option maxRecDepth 100000 in
set_option maxHeartbeats 2000000 in
theorem back65:BackOK Try.prog 65 3:=by
 intro l bb bo blk off len cap a vals J Jx W hlc hcm ha hBs hel hJ hY h0
 refine (callsIn_wide (n:=1)).1 ?_
 refine callsIn_of_wp Try.func65 rfl trivial ?_ rfl
 simp only [Try.ntmps65,List.size_toArray,List.length_cons,List.length_nil,Nat.reduceAdd,Nat.reduceSub,Array.replicate_succ,Array.replicate_zero,List.push_toArray,List.append_toArray,List.nil_append,List.cons_append]
 have hmax:(len:Int) <= 9223372036854775807:=by
  have:len <= 9223372036854775807:=Nat.le_trans hlc hcm
  omega
 have hw1:wrap64 ((len:Int) - 1) = (len:Int) - 1:=by
  unfold wrap64; omega
 gi_wp2
 gi_loopw [3] (fun i wr => ∃ k:Nat,k <= len /\ i = .int .i64 ((len:Int) - 1 - k) /\ J k wr /\ wr.heap[bb]? = W.heap[bb]? /\ wr.heap[blk]? = W.heap[blk]?)
  (fun i _ => (intOf i + 1).toNat)
 case atStart => exact ⟨0,Nat.zero_le _,by simp,h0,rfl,rfl⟩
 case round =>
  obtain ⟨k,hk,rfl,hJs,hkb,hkl⟩:=hrel
  have hBs':wr.cell? ⟨bb,bo,none⟩ = some (.slice a len cap):=(World.cell?_of_block (w:=W) hkb).trans hBs
  by_cases hlt:k < len
  ·obtain ⟨q,hq⟩:∃ q,len = k + 1 + q:=⟨len - k - 1,by omega⟩
   have hqi:(len:Int) - 1 - k = (q:Int):=by omega
   have hqn:len - 1 - k = q:=by omega
   rw [hqi]
   obtain ⟨fn,tmps,assign,body,hy,hR⟩:=hY k wr hlt hJs hkb hkl
   rw [hqn] at hy
   obtain ⟨x,y,z,hvals,hsx,hsy,hsz,hcx,hcy,hcz⟩:=elem3 (hel q (by omega))
   rw [hvals] at hy
   have hcx':wr.cell? ⟨blk,off + q * 3,none⟩ = some x:=(World.cell?_of_block (w:=W) hkl).trans hcx
   have hcy':wr.cell? ⟨blk,off + q * 3 + 1,none⟩ = some y:=(World.cell?_of_block (w:=W) hkl).trans hcy
   have hcz':wr.cell? ⟨blk,off + q * 3 + 2,none⟩ = some z:=(World.cell?_of_block (w:=W) hkl).trans hcz
   obtain rfl:=ha (by omega)
   have HQ:Hid (len = k + 1 + q):=hq
   have hql:q < len:=by omega
   clear hq hqi hqn
   gi_wp2
   refine hR.mono ?_
   rintro e W3 (⟨rfl,hJ3,hb3,hl3⟩ | ⟨rfl,hJx3⟩)
   ·gi_wp2
    go_roundw
    case rel => exact ⟨k + 1,by omega,by have:=HQ.out; simp; omega,hJ3,hb3.trans hkb,hl3.trans hkl⟩
    case measure => simp [intOf] <;> omega
   ·gi_wp2
    refine bodyPost_ret (results_none rfl _ _ _) rfl ?_
    exact ⟨⟨_,rfl⟩,.inr hJx3⟩
  ·obtain rfl:k = len:=by omega
   gi_wp2
   go_end0
   exact ⟨⟨_,rfl⟩,.inl hJs⟩
theorem enters63:∀ args w,(callFunc 63 args).run Try.prog w = .ok (.enter 63 args) w:=enters_of Try.func63 (by kernel_rfl) rfl
theorem enters65:∀ args w,(callFunc 65 args).run Try.prog w = .ok (.enter 65 args) w:=enters_of Try.func65 (by kernel_rfl) rfl
def back:FuncId -> Option Nat:=fun f => bif Nat.beq f 63 then some 2 else bif Nat.beq f 65 then some 3 else none
theorem back_ok:∀ gf esz,back gf = some esz -> BackOK Try.prog gf esz /\ ∀ args w,(callFunc gf args).run Try.prog w = .ok (.enter gf args) w:=by
 intro gf esz h
 unfold back at h
 cases h1:Nat.beq gf 63 with
 | true =>
  rw [h1] at h; cases h
  obtain rfl:=Nat.eq_of_beq_eq_true h1
  exact ⟨back63,enters63⟩
 | false =>
  rw [h1] at h
  cases h2:Nat.beq gf 65 with
  | true =>
   rw [h2] at h; cases h
   obtain rfl:=Nat.eq_of_beq_eq_true h2
   exact ⟨back65,enters65⟩
  | false => rw [h2] at h; cases h
theorem mixed:Try.prog.follows .mixedOrders = true:=by kernel_rfl
theorem byVcd {E:Env Prop} (hE:EnvOK Try.prog E id) {f:FuncId} {fi:FI} (hF:E.F f = some fi) {args:List AV} {h:Rows} {Q:AV -> Rows -> Prop} (n:Nat) {X:Prop} (e:vcd E n f fi args h Q = X) (hX:X):SafeCall Try.prog E.R f args h Q :=
 SafeCall.vcd mixed hE hF n (e.symm ▸ hX)
def isTrue:CallSpec:=fun args h k => match args with | [] => k (.bool true) h | _ => False
theorem isTrue_ok {R:RR} {f:FuncId} (h1:SafeCall Try.prog R f [] [] fun v _ => v = .bool true):∀ args h k,isTrue args h k -> SafeCall Try.prog R f args h k:=by
 intro args h k hk
 unfold isTrue at hk
 split at hk
 ·refine (h1.alone (by kernel_rfl) (fun v hv => by rw [hv]; rfl) h).mono ?_
  rintro v' h' ⟨rfl,rfl⟩
  exact hk
 ·exact hk.elim
noncomputable def ran (R:RR) (f:FuncId) (fi:FI):CallSpec:=vcm (base R) back (fun _ => none) 10000 f fi
theorem ran_ok (R:RR) {f:FuncId} {fi:FI} (hF:lookF fl f = some fi) (hnd:codeND fi.body = true):∀ args h k,ran R f fi args h k -> SafeCall Try.prog R f args h k:=by
 intro args h k hk
 exact SafeCall.vcm mixed (base_ok R) back_ok (fun _ => rfl) (fun id spec e => by cases e) (f:=f) hF hnd hk
end Go.Dc.Kb
end
section
namespace Go.Dc.Kb
open Go.Proofs Go.RowKit
set_option maxRecDepth 100000
noncomputable abbrev envM0 (R:RR):Env Prop:=(((base R).addCall 18 (ran R 18 fi18)).addCall 59 (ran R 59 fi59)).addCall 43 (ran R 43 fi43)
theorem envM0_ok (R:RR):EnvOK Try.prog (envM0 R) id :=
 (((base_ok R).addCall (f:=18) (fi:=fi18) (by kernel_rfl) (ran_ok R (f:=18) (fi:=fi18) (by kernel_rfl) (by kernel_rfl))).addCall (f:=59) (fi:=fi59) (by kernel_rfl) (ran_ok R (f:=59) (fi:=fi59) (by kernel_rfl) (by kernel_rfl))).addCall (f:=43) (fi:=fi43) (by kernel_rfl) (ran_ok R (f:=43) (fi:=fi43) (by kernel_rfl) (by kernel_rfl))
noncomputable abbrev envM (R:RR):Env Prop:=(envM0 R).addCall 44 (ran R 44 fi44)
theorem envM_ok (R:RR):EnvOK Try.prog (envM R) id:=(envM0_ok R).addCall (f:=44) (fi:=fi44) (by kernel_rfl) (ran_ok R (f:=44) (fi:=fi44) (by kernel_rfl) (by kernel_rfl))
theorem vc13 (R:RR) (Q:AV -> Prop):vcd (envM R) 10000 13 fi13 [] [] (fun v _ => Q v) =
  (AV.nils = AV.nils /\
  AV.nils = AV.nils /\
   AV.sl false 8 0 1 Cp.no = AV.sl false 8 0 1 Cp.no /\
    AV.sl false 8 0 1 Cp.no = AV.sl false 8 0 1 Cp.no /\
     AV.sl false 19 0 2 Cp.no = AV.sl false 19 0 2 Cp.no /\
      AV.sl false 19 0 2 Cp.no = AV.sl false 19 0 2 Cp.no /\
       AV.sl false 47 0 2 (Cp.room 1) = AV.sl false 47 0 2 (Cp.room 1) /\
        AV.sl false 47 0 2 (Cp.room 1) = AV.sl false 47 0 2 (Cp.room 1) /\ Q (AV.bool true)):=by kernel_rfl
theorem safe13 (R:RR):SafeCall Try.prog R 13 [] [] fun v _ => v = .bool true :=
 byVcd (envM_ok R) (f:=13) (fi:=fi13) (by kernel_rfl) 10000 (vc13 R (fun v => v = .bool true)) (by repeat' (first | exact rfl | apply And.intro))
end Go.Dc.Kb
end
