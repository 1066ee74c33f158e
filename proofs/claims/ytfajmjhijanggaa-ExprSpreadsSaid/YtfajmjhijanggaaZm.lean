/- Expressions: are they alike: the rounds. -/
import Derived.Test.YtfajmjhijanggaaZl0
set_option linter.unusedVariables false
set_option linter.unusedSimpArgs false
section
namespace Go.Dc.Ke
open Go.Proofs Go.RowKit Go.Shelf
set_option maxRecDepth 100000
theorem vr12 (R:RR) (kd:Int) (w:List UInt8) (l:List (Tr × Nat)) (is:List Nat) (root:Int) (N:List NE) (j:Nat) (k:Exit -> St -> Fz -> Prop) (F:Fz):rnx (env12 R l is N) 1000 12 (loopOf fi12 0) (fam12 kd w l.length root N (j:Nat)) k F = (bif decide ((↑j:Int) < (↑l.length:Int)) then bif true && decide ((↑j:Int) < (↑l.length:Int)) then bif decide (0 + (↑j:Int).toNat < ((env12 R l is N).R 5).n) then bif true && decide ((↑j:Int) < (↑l.length:Int)) then bif decide (0 + (↑j:Int).toNat < ((env12 R l is N).R 6).n) then ∃ (j_1:Nat),∃ (root_1:Int),j_1.succ.le l.length /\ AV.agg [iI (↑(l.getD (0 + (↑j:Int).toNat) dT).fst.kind:Int),AV.str (l.getD (0 + (↑j:Int).toNat) dT).fst.word,AV.sl true ((l.getD (0 + (↑j:Int).toNat) dT).snd + 15) 0 (l.getD (0 + (↑j:Int).toNat) dT).fst.kids.length Cp.no] = AV.agg [iI (↑(l.getD j_1 dT).fst.kind:Int),AV.str (l.getD j_1 dT).fst.word,AV.sl true ((l.getD j_1 dT).snd + 15) 0 (l.getD j_1 dT).fst.kids.length Cp.no] /\ (↑(is.getD (0 + (↑j:Int).toNat) 0):Int) = (↑(is.getD j_1 0):Int) /\ TAts F l /\ NF F N /\ some (Row.lst 35 2 [AV.agg [AV.sl false 1 0 N.length Cp.no,iI root]]) = some (Row.lst 35 2 [AV.agg [AV.sl false 1 0 N.length Cp.no,iI root_1]]) /\ some (Row.gen 62 3 N.length fun (i:Nat) => neV (N.getD i dN)) = some (Row.gen 62 3 N.length fun (i:Nat) => neV (N.getD i dN)) /\ ∀ (F':Fz),Up F F' -> k Exit.normal (St.mk [AV.any,AV.ptr false 0 0 0,AV.any,AV.ptr false 2 0 0,AV.any,AV.any,AV.any,AV.ptr false 3 0 0,iI (IntKind.i64.wrap ((↑j:Int) + 1)),AV.any,AV.any,AV.any,AV.any,AV.any,AV.any,AV.any,AV.any,AV.any,AV.any,AV.any,AV.any,AV.any,AV.any,AV.any,AV.any,AV.any,AV.any,AV.any,AV.any,AV.any,AV.any,AV.any,AV.any,AV.any,AV.any,AV.any,AV.any,iI (↑j:Int),AV.ptr false 3 0 2,AV.sl true 6 0 l.length Cp.no,iI (↑l.length:Int),AV.bool true,iI (↑j:Int),iI (IntKind.i64.wrap ((↑j:Int) + 1)),AV.ptr false 2 0 2,AV.sl true 5 0 l.length Cp.no,iI (↑j:Int),AV.ptr true 5 (0 + (↑j:Int).toNat) 0,AV.agg [iI (↑(l.getD (0 + (↑j:Int).toNat) dT).fst.kind:Int),AV.str (l.getD (0 + (↑j:Int).toNat) dT).fst.word,AV.sl true ((l.getD (0 + (↑j:Int).toNat) dT).snd + 15) 0 (l.getD (0 + (↑j:Int).toNat) dT).fst.kids.length Cp.no],AV.ptr false 0 0 0,AV.ptr false 3 0 2,AV.sl true 6 0 l.length Cp.no,iI (↑j:Int),AV.ptr true 6 (0 + (↑j:Int).toNat) 0,iI (↑(is.getD (0 + (↑j:Int).toNat) 0):Int),AV.bool true,AV.bool false] [some (Row.lst 35 2 [AV.agg [AV.sl false 1 0 N.length Cp.no,iI root]]),some (Row.gen 62 3 N.length fun (i:Nat) => neV (N.getD i dN)),some (Row.lst 25 3 [AV.agg [iI kd,AV.str w,AV.sl true 5 0 l.length Cp.no]]),some (Row.lst 62 3 [AV.agg [iI kd,AV.str w,AV.sl true 6 0 l.length Cp.no]]),none,none]) F' else False else False else False else False else k (Exit.exit 0) (St.mk [AV.any,AV.ptr false 0 0 0,AV.any,AV.ptr false 2 0 0,AV.any,AV.any,AV.any,AV.ptr false 3 0 0,iI (↑j:Int),AV.any,AV.any,AV.any,AV.any,AV.any,AV.any,AV.any,AV.any,AV.any,AV.any,AV.any,AV.any,AV.any,AV.any,AV.any,AV.any,AV.any,AV.any,AV.any,AV.any,AV.any,AV.any,AV.any,AV.any,AV.any,AV.any,AV.any,AV.any,iI (↑j:Int),AV.ptr false 3 0 2,AV.sl true 6 0 l.length Cp.no,iI (↑l.length:Int),AV.bool false,AV.any,AV.any,AV.any,AV.any,AV.any,AV.any,AV.any,AV.any,AV.any,AV.any,AV.any,AV.any,AV.any,AV.any,AV.any] [some (Row.lst 35 2 [AV.agg [AV.sl false 1 0 N.length Cp.no,iI root]]),some (Row.gen 62 3 N.length fun (i:Nat) => neV (N.getD i dN)),some (Row.lst 25 3 [AV.agg [iI kd,AV.str w,AV.sl true 5 0 l.length Cp.no]]),some (Row.lst 62 3 [AV.agg [iI kd,AV.str w,AV.sl true 6 0 l.length Cp.no]])]) F):=by kernel_rfl
theorem vt12 (R:RR) (kd:Int) (w:List UInt8) (l:List (Tr × Nat)) (is:List Nat) (root:Int) (N:List NE) (q:Exit -> Nat -> AV -> Option Row -> Option Row -> Nat -> Fz -> Prop) (F:Fz):rnx ((env12 R l is N).addLoop 12 0 (lp12 kd w l root N)) 1000 12 (tailC 2 fi12.body) (st12 kd w l.length root N) (fun e st => q e st.tmps.length (nthV st.tmps 6) (st.rows.live 0) (st.rows.live 1) st.rows.length) F = (bif kd != kd then q Exit.ret 57 (AV.bool false) (some (Row.lst 35 2 [AV.agg [AV.sl false 1 0 N.length Cp.no,iI root]])) (some (Row.gen 62 3 N.length fun (i:Nat) => neV (N.getD i dN))) 4 F else bif !w == w then q Exit.ret 57 (AV.bool false) (some (Row.lst 35 2 [AV.agg [AV.sl false 1 0 N.length Cp.no,iI root]])) (some (Row.gen 62 3 N.length fun (i:Nat) => neV (N.getD i dN))) 4 F else bif (↑l.length:Int) != (↑l.length:Int) then q Exit.ret 57 (AV.bool false) (some (Row.lst 35 2 [AV.agg [AV.sl false 1 0 N.length Cp.no,iI root]])) (some (Row.gen 62 3 N.length fun (i:Nat) => neV (N.getD i dN))) 4 F else 57 = 57 /\ AV.ptr false 0 0 0 = AV.ptr false 0 0 0 /\ AV.ptr false 2 0 0 = AV.ptr false 2 0 0 /\ AV.ptr false 3 0 0 = AV.ptr false 3 0 0 /\ iI (0:Int) = iI 0 /\ [some (Row.lst 35 2 [AV.agg [AV.sl false 1 0 N.length Cp.no,iI root]]),some (Row.gen 62 3 N.length fun (i:Nat) => neV (N.getD i dN)),some (Row.lst 25 3 [AV.agg [iI kd,AV.str w,AV.sl true 5 0 l.length Cp.no]]),some (Row.lst 62 3 [AV.agg [iI kd,AV.str w,AV.sl true 6 0 l.length Cp.no]])] = [some (Row.lst 35 2 [AV.agg [AV.sl false 1 0 N.length Cp.no,iI root]]),some (Row.gen 62 3 N.length fun (i:Nat) => neV (N.getD i dN)),some (Row.lst 25 3 [AV.agg [iI kd,AV.str w,AV.sl true 5 0 l.length Cp.no]]),some (Row.lst 62 3 [AV.agg [iI kd,AV.str w,AV.sl true 6 0 l.length Cp.no]])] /\ TAts F l /\ NF F N /\ ∀ (F':Fz),Up F F' -> q Exit.ret 57 (AV.bool true) (some (Row.lst 35 2 [AV.agg [AV.sl false 1 0 N.length Cp.no,iI root]])) (some (Row.gen 62 3 N.length fun (i:Nat) => neV (N.getD i dN))) 4 F'):=by kernel_rfl
theorem vs12 (R:RR) (t:Tr) (x i:Nat) (root:Int) (N:List NE) (q:Exit -> St -> Fz -> Prop) (K:Nat -> AV -> AV -> AV -> Rows -> Fz -> Prop) (F:Fz):chain (bx R) 1000 12 q (fun st F => K st.tmps.length (nthV st.tmps 1) (nthV st.tmps 3) (nthV st.tmps 7) st.rows F) 2 fi12.body ⟨enterT [exprV t x,.ptr false 0 0 0,.int .i64 (i:Nat)] fi12.ntmps,[some (trow 1 N.length root),some (arow N)]⟩ F = (bif true && decide ((↑i:Int) < (↑N.length:Int)) then bif decide (0 + (↑i:Int).toNat < N.length) then K 57 (AV.ptr false 0 0 0) (AV.ptr false 2 0 0) (AV.ptr false 3 0 0) [some (Row.lst 35 2 [AV.agg [AV.sl false 1 0 N.length Cp.no,iI root]]),some (Row.gen 62 3 N.length fun (i:Nat) => neV (N.getD i dN)),some (Row.lst 25 3 [AV.agg [iI (↑t.kind:Int),AV.str t.word,AV.sl true (x + 15) 0 t.kids.length Cp.no]]),some (Row.lst 62 3 [AV.agg [iI (N.getD (0 + (↑i:Int).toNat) dN).kd,AV.str (N.getD (0 + (↑i:Int).toNat) dN).w,AV.sl true ((N.getD (0 + (↑i:Int).toNat) dN).x + 15) 0 (N.getD (0 + (↑i:Int).toNat) dN).kids.length Cp.no]])] F else False else False):=by kernel_rfl
def SameOK (t:Tr):Prop:=∀ (R:RR),Free6 R -> ∀ (x i:Nat) (root:Int) (N:List NE) (F:Fz) (k HP:AV -> Rows -> Fz -> Prop),IsT F t x -> NF F N -> TrN N t i -> (∀ F',Up F F' -> k (.bool true) [some (trow 1 N.length root),some (arow N)] F') -> SafeCallX Try.prog R 12 [exprV t x,.ptr false 0 0 0,.int .i64 (i:Nat)] [some (trow 1 N.length root),some (arow N)] F k HP
theorem at12 {R:RR} {a:AV} {i root:Int} {N:List NE} {F:Fz} {h:Rows} {b c:Nat} {k HP:AV -> Rows -> Fz -> Prop} (ha:gnd a = true) (hb:h.live b = some (trow c N.length root)) (hc:h.live c = some (arow N))
  (hs:SafeCallX Try.prog R 12 [a,.ptr false 0 0 0,.int .i64 i] [some (trow 1 N.length root),some (arow N)] F (fun v h' F' => v = .bool true /\ h' = [some (trow 1 N.length root),some (arow N)] /\ Up F F') (fun _ _ _ => False)) (hk:∀ F',Up F F' -> k (.bool true) (h ++ [none,none]) F'):SafeCallX Try.prog R 12 [a,.ptr false b 0 0,.int .i64 i] h F k HP:=by
 have ne:b ≠ c:=fun e => by rw [e,hc] at hb; cases hb
 refine (SafeCallX.atN (Q:=fun v os tl F' => v = .bool true /\ os = [some (trow 1 N.length root),some (arow N)] /\ tl = [] /\ Up F F') (HP:=fun _ _ _ _ => False) [b,c] (hL:=[some (trow 1 N.length root),some (arow N)]) (argsL:=[a,.ptr false 0 0 0,.int .i64 i]) rfl (by simp [ne]) (fun e he => by
   simp only [List.mem_cons,List.not_mem_nil,or_false] at he
   rcases he with rfl | rfl
   ·exact live_lt hb
   ·exact live_lt hc) (fun e q he => by
   match e with
   | 0 => cases he; exact ⟨b,_,rfl,hb,trow_v rfl (by simp)⟩
   | 1 => cases he; exact ⟨c,_,rfl,hc,(arow_g N).vw _ _⟩
   | e + 2 => simp [Rows.live] at he) (VwL.cons (gnd_vw _ _ _ ha) (VwL.cons (Vw.ptrI (by simp) rfl) (VwL.cons Vw.intI VwL.nil))) (hs.mono ?_ ?_)).mono ?_ ?_
 ·rintro v h' F' _ ⟨rfl,rfl,hu⟩
  exact ⟨[some (trow 1 N.length root),some (arow N)],[],rfl,rfl,rfl,rfl,rfl,hu⟩
 ·rintro v h' F' _ h; exact h.elim
 ·rintro v h' F' _ ⟨v0,os,tl,rfl,rfl,rfl,rfl,rfl,hu⟩
  show k (.bool true) ((h.set b (some (trow c N.length root))).set c (some (arow N)) ++ [none,none]) F'
  rw [live_set_self hb,live_set_self hc]
  exact hk F' hu
 ·rintro v h' F' _ ⟨v0,os,tl,_,_,h⟩; exact h.elim
theorem kid_q {R:RR} (hR:Free6 R) (l:List (Tr × Nat)):Quits (updR R 5 (kidR l)) 6:=fun i j hj a ha x => by
 cases hi:Nat.beq i 5 with
 | true =>
  simp only [updR,hi,cond_true,AV.cells,List.mem_cons,List.not_mem_nil,or_false] at ha
  rcases ha with rfl | rfl | rfl <;> rfl
 | false =>
  simp only [updR,hi,cond_false] at hj ha
  exact hR.q i j hj a ha x
theorem same_un {t:Tr} (hs:SameOK t) {R:RR} (hR:Free6 R) (l:List (Tr × Nat)) (is:List Nat) {x i:Nat} {root:Int} {N:List NE} {F:Fz} (hx:IsT F t x) (hN:NF F N) (ht:TrN N t i) :
  SafeCallX Try.prog (R12 R l is) 12 [exprV t x,.ptr false 0 0 0,.int .i64 (i:Nat)] [some (trow 1 N.length root),some (arow N)] F (fun v h' F' => v = .bool true /\ h' = [some (trow 1 N.length root),some (arow N)] /\ Up F F') (fun _ _ _ => False):=by
 refine SafeCallX.unread (k:=6) (R:=updR R 5 (kidR l)) (Q:=fun v h' F' => v = .bool true /\ h' = [some (trow 1 N.length root),some (arow N)] /\ Up F F') (HP:=fun _ _ _ => False) (by decide) hR.n (kid_q hR l) (by kernel_rfl) (by kernel_rfl) ?_ ?_ ?_
 ·refine SafeCallX.unread (k:=5) (R:=R) (Q:=fun v h' F' => v = .bool true /\ h' = [some (trow 1 N.length root),some (arow N)] /\ Up F F') (HP:=fun _ _ _ => False) (by decide) hR.f.n hR.f.q (by kernel_rfl) (by kernel_rfl) (hs R hR x i root N F _ _ hx hN ht fun F' hu => ⟨rfl,rfl,hu⟩) ?_ ?_
  ·rintro v h' F' _ ⟨rfl,rfl,hu⟩; exact ⟨rfl,by kernel_rfl,rfl,rfl,hu⟩
  ·rintro v h' F' _ h; exact h.elim
 ·rintro v h' F' _ ⟨rfl,rfl,hu⟩; exact ⟨rfl,by kernel_rfl,rfl,rfl,hu⟩
 ·rintro v h' F' _ h; exact h.elim
theorem spec12k_ok {R:RR} (hR:Free6 R) {l:List (Tr × Nat)} {is:List Nat} {N:List NE} (hs:∀ p ∈ l,SameOK p.1) (hT:TrNs N (l.map Prod.fst) is) (HP:HPt):∀ args h k F,spec12k l is N args h k F -> SafeCallX Try.prog (R12 R l is) 12 args h F k HP:=by
 intro args h k F hk
 unfold spec12k at hk
 split at hk
 ·obtain ⟨j,root,hj,rfl,rfl,hts,hN,hb,hc,hk⟩:=hk
  have hm:=getD_mem hj
  exact at12 rfl hb hc (same_un (hs _ hm) hR l is (hts.is _ hm) hN (hT.get l is j hj)) hk
 ·exact hk.elim
theorem env12_ok {R:RR} (hR:Free6 R) {l:List (Tr × Nat)} {is:List Nat} {N:List NE} (hs:∀ p ∈ l,SameOK p.1) (hT:TrNs N (l.map Prod.fst) is) (HP:HPt):OKX Try.prog (env12 R l is N) [] HP :=
 (bx_ok _ [] HP).addCall (f:=12) (fi:=fi12) (by kernel_rfl) (spec12k_ok hR hs hT HP)
theorem tm12_spr (j:Int):tm12 j = spr [(1,.ptr false 0 0 0),(3,.ptr false 2 0 0),(7,.ptr false 3 0 0),(8,.int .i64 j)] 0 57:=by kernel_rfl
theorem tm12s_spr:tm12s = spr [(1,.ptr false 0 0 0),(3,.ptr false 2 0 0),(7,.ptr false 3 0 0)] 0 57:=by kernel_rfl
theorem e6_g (kd:Int) (w:List UInt8) (n:Nat):RowG (.lst 62 3 [.agg [.int .i64 kd,.str w,.sl true 6 0 n .no]]):=.lst1' rfl rfl
theorem rows12_v {N:List NE} {root:Int} {r2 r3:Row} (h2:RowG r2) (h3:RowG r3):∀ c r,Rows.live [some (trow 1 N.length root),some (arow N),some r2,some r3] c = some r -> RowV some 4 r r:=by
 intro c r h
 match c with
 | 0 => cases h; exact trow_v rfl (by simp)
 | 1 => cases h; exact (arow_g N).vw _ _
 | 2 => cases h; exact h2.vw _ _
 | 3 => cases h; exact h3.vw _ _
 | c + 4 => simp [Rows.live] at h
theorem fit12 {R:RR} {T TM:List AV} {N:List NE} {root:Int} {r2 r3:Row} {tl:Rows} {F:Fz} {S:St -> Fz -> Prop} (h2:RowG r2) (h3:RowG r3) (hT:VwL some 4 T TM) (hS:S ⟨T,[some (trow 1 N.length root),some (arow N),some r2,some r3]⟩ F):ToX R [] 4 ⟨TM,[some (trow 1 N.length root),some (arow N),some r2,some r3] ++ tl⟩ F S :=
 ToX.fit (stE:=⟨T,[some (trow 1 N.length root),some (arow N),some r2,some r3]⟩) (Fit.pre (L:=[some (trow 1 N.length root),some (arow N),some r2,some r3]) (rows12_v h2 h3) hT) (ToX.here hS)
theorem loop12 {R:RR} (hR:Free6 R) (kd:Int) (w:List UInt8) {l:List (Tr × Nat)} {is:List Nat} {N:List NE} (root:Int) (hs:∀ p ∈ l,SameOK p.1) (hT:TrNs N (l.map Prod.fst) is) (hn:l.length <= 100000) (HP:HPt) :
  ∀ st k F,lp12 kd w l root N st k F -> SafeX Try.prog (R12 R l is) [] (.block 0 (.loop (loopOf fi12 0))) st F k HP:=by
 rintro ⟨TM,rows⟩ k F ⟨h0,h1,h2,h3,h4,h5,hts,hN,hk⟩
 simp only at h0 h1 h2 h3 h4 h5
 subst h5
 have hlen:l.length = is.length:=by have:=hT.len; simpa using this
 refine SafeX.loop_block (Inv:=fun m st F' => Up F F' /\ ∃ j,j <= l.length /\ m = l.length - j /\ st = fam12 kd w l.length root N (j:Nat)) ?_ ?_
 ·refine fit12 (tl:=[]) (e5row_g _ _ _) (e6_g _ _ _) (T:=tm12 0) ?_ ⟨_,Up.refl F,0,Nat.zero_le _,rfl,rfl⟩
  rw [tm12_spr]
  exact VwL.ofKnown h0 ⟨by rw [h1]; exact Vw.ptrI (by simp) rfl,by rw [h2]; exact Vw.ptrI (by simp) rfl,by rw [h3]; exact Vw.ptrI (by simp) rfl,by rw [h4]; exact Vw.intI,trivial⟩
 ·rintro m st' F' ⟨hu,j,hj,rfl,rfl⟩
  refine SafeX.by mixed (env12_ok hR hs hT HP) (f:=12) (fi:=fi12) (i:=0) (by kernel_rfl) (b:=.loop (loopOf fi12 0)) (by kernel_rfl) (subs_loop _) 1000 (vr12 R kd w l is root N j _ F') ?_
  have hi2:(0 + ((j:Nat):Int).toNat) = j:=by simp
  refine hcB (fun h => hcT h (hcT ?_ (hcT h (hcT ?_ ?_)))) fun h => ?_
  ·have hlt:j < l.length:=by have:=of_decide_eq_true h; omega
   rw [hi2]; exact decide_eq_true hlt
  ·have hlt:j < l.length:=by have:=of_decide_eq_true h; omega
   rw [hi2]; exact decide_eq_true (show j < is.length by omega)
  ·have hlt:j < l.length:=by have:=of_decide_eq_true h; omega
   refine ⟨j,root,hlt,by rw [hi2],by rw [hi2],hts.le hu,hN.le hu,rfl,rfl,fun F2 hu2 => ?_⟩
   rw [wrapSucc j (by omega)]
   refine fit12 (tl:=[none,none]) (e5row_g _ _ _) (e6_g _ _ _) (T:=tm12 ((j + 1:Nat):Int)) (by (repeat' (first | with_reducible exact VwL.nil | with_reducible refine VwL.cons ?_ ?_ | with_reducible exact Vw.anyI | with_reducible exact Vw.strI | with_reducible exact Vw.boolI | with_reducible exact Vw.intI | with_reducible exact Vw.nilsI | exact Vw.ptrI (by simp) rfl | exact Vw.slI (by simp) rfl | with_reducible refine Vw.aggI ?_ | exact Vw.gndI rfl))) ⟨l.length - (j + 1),by omega,hu.trans hu2,j + 1,hlt,rfl,rfl⟩
  ·have hge:j = l.length:=by have:=of_decide_eq_false h; omega
   subst hge
   exact fit12 (tl:=[]) (e5row_g _ _ _) (e6_g _ _ _) (T:=tm12 ((l.length:Nat):Int)) (by (repeat' (first | with_reducible exact VwL.nil | with_reducible refine VwL.cons ?_ ?_ | with_reducible exact Vw.anyI | with_reducible exact Vw.strI | with_reducible exact Vw.boolI | with_reducible exact Vw.intI | with_reducible exact Vw.nilsI | exact Vw.ptrI (by simp) rfl | exact Vw.slI (by simp) rfl | with_reducible refine Vw.aggI ?_ | exact Vw.gndI rfl))) (hk F' hu)
theorem subs_tail:∀ (n:Nat) (c:Code) (p:_),p ∈ subs (tailC n c) -> p ∈ subs c
 | 0,_,_,h => h
 | n + 1,.seq x y,p,h => by
  simp only [subs]
  exact List.mem_append_right _ (subs_tail n y p h)
 | n + 1,.skip,_,h => h
 | n + 1,.region _ _ _,_,h => h
 | n + 1,.cond _ _ _,_,h => h
 | n + 1,.block _ _,_,h => h
 | n + 1,.loop _,_,h => h
 | n + 1,.exit _,_,h => h
 | n + 1,.goto _,_,h => h
 | n + 1,.label _,_,h => h
 | n + 1,.ret,_,h => h
 | n + 1,.rangeFunc _ _ _ _,_,h => h
noncomputable abbrev stE12 (root:Int) (N:List NE):St:=⟨spr [(6,.bool true)] 0 57,[some (trow 1 N.length root),some (arow N),none,none]⟩
theorem tail12 {R:RR} (hR:Free6 R) (kd:Int) (w:List UInt8) {l:List (Tr × Nat)} {is:List Nat} {N:List NE} (root:Int) (hs:∀ p ∈ l,SameOK p.1) (hT:TrNs N (l.map Prod.fst) is) (hn:l.length <= 100000) (F:Fz) (hts:TAts F l) (hN:NF F N) (HP:HPt) :
  SafeX Try.prog (R12 R l is) [] (tailC 2 fi12.body) (st12 kd w l.length root N) F (fun e st' F' => e = .ret /\ st' = stE12 root N /\ Up F F') HP:=by
 have h1:SafeX Try.prog (R12 R l is) [] (tailC 2 fi12.body) (st12 kd w l.length root N) F (fun e st' F' => e = .ret /\ st'.tmps.length = 57 /\ nthV st'.tmps 6 = .bool true /\ st'.rows.live 0 = some (trow 1 N.length root) /\ st'.rows.live 1 = some (arow N) /\ 4 <= st'.rows.length /\ Up F F') HP:=by
  refine SafeX.rnx mixed ((env12_ok hR hs hT HP).addLoop (f:=12) (fi:=fi12) (by kernel_rfl) (i:=0) (body:=.loop (loopOf fi12 0)) (by kernel_rfl) (loop12 hR kd w root hs hT hn HP)) (f:=12) (fun p hp => by
   unfold Env.subsOf; rw [show ((env12 R l is N).addLoop 12 0 (lp12 kd w l root N)).F 12 = some fi12 by kernel_rfl]; exact subs_tail 2 _ p hp) 1000 ?_
  refine Eq.mpr (vt12 R kd w l is root N (fun e n a r0 r1 m F' => e = .ret /\ n = 57 /\ a = .bool true /\ r0 = some (trow 1 N.length root) /\ r1 = some (arow N) /\ 4 <= m /\ Up F F') F) ?_
  refine hcF (by simp) (hcF (by simp) (hcF (by simp) ⟨rfl,rfl,rfl,rfl,rfl,rfl,hts,hN,fun F' hu => ⟨rfl,rfl,rfl,rfl,rfl,by decide,hu⟩⟩))
 refine SafeX.post h1 ?_
 rintro e ⟨TM,rows⟩ F' _ ⟨rfl,h2,h3,h4,h5,h6,hu⟩
 simp only at h2 h3 h4 h5 h6
 refine ToX.fit (stE:=stE12 root N) ⟨some,⟨⟨fun c b hc hb => by cases hb; have:c < 4:=hc; simp only; omega,fun c c' b _ _ h h' => by cases h; cases h'; rfl,fun c r hc => ?_⟩,?_⟩,fun _ _ => rfl,Nat.le_refl _⟩ (ToX.here ⟨rfl,rfl,hu⟩)
 ·match c with
  | 0 => cases hc; exact .inl ⟨0,_,rfl,h4,trow_v rfl (by simp)⟩
  | 1 => cases hc; exact .inl ⟨1,_,rfl,h5,(arow_g N).vw _ _⟩
  | 2 => cases hc
  | 3 => cases hc
  | c + 4 => simp [Rows.live] at hc
 ·exact VwL.ofKnown h2 ⟨by rw [h3]; exact Vw.gndI rfl,trivial⟩
theorem res12:fi12.results = [.tmp 6]:=by kernel_rfl
theorem same_step (kd:Nat) (w:List UInt8) (kids:List Tr) (hn:kids.length <= 100000) (hs:∀ u ∈ kids,SameOK u):SameOK (.mk kd w kids):=by
 intro R hR x i root N F k0 HP hx hN ht hk
 obtain ⟨l,hl,hfr,hts⟩:=hx.kids
 subst hl
 simp only [TrN] at ht
 obtain ⟨e,he,hkd,hw,hT⟩:=ht
 have hi:i < N.length:=(List.getElem?_eq_some_iff.1 he).1
 have hem:e ∈ N:=List.mem_of_getElem? he
 have heD:N.getD (0 + ((i:Nat):Int).toNat) dN = e:=by
  rw [show 0 + ((i:Nat):Int).toNat = i by simp,List.getD_eq_getElem?_getD,he]; rfl
 have hfrN:=hN.is e hem
 have hlen:l.length = e.kids.length:=by have:=hT.len; simpa using this
 have tl:=tail12 hR (kd:Int) w root (fun p hp => hs p.1 (List.mem_map_of_mem hp)) hT (by simpa using hn) F hts hN (fun _ _ _ => False)
 have s6:=SafeX.swap (R:=updR R 5 (kidR l)) (k:=6) (x:=e.x) (by decide) hfrN hR.n (kid_q hR l) tl (Q1:=fun e st' F' => e = .ret /\ st' = stE12 root N /\ Up F F') (HP1:=fun _ _ _ => False) (by rintro e st' F' _ ⟨rfl,rfl,hu⟩; exact ⟨by kernel_rfl,rfl,rfl,hu⟩) (fun v h' F' _ h => h.elim)
 have s5:=SafeX.swap (R:=R) (k:=5) (x:=x) (by decide) hfr hR.f.n hR.f.q s6 (Q1:=fun e st' F' => e = .ret /\ st' = stE12 root N /\ Up F F') (HP1:=fun _ _ _ => False) (by rintro e st' F' _ ⟨rfl,rfl,hu⟩; exact ⟨by kernel_rfl,rfl,rfl,hu⟩) (fun v h' F' _ h => h.elim)
 have e0:nmSt 5 x (nmSt 6 e.x (st12 (kd:Int) w l.length root N)) = ⟨tm12s,[some (trow 1 N.length root),some (arow N),some (.lst 25 3 [.agg [.int .i64 (kd:Int),.str w,.sl true (x + 15) 0 l.length .no]]),some (.lst 62 3 [.agg [.int .i64 (kd:Int),.str w,.sl true (e.x + 15) 0 l.length .no]])]⟩:=by kernel_rfl
 rw [e0] at s5
 refine SafeCallX.post (Q:=fun v h' F' => v = .bool true /\ h' = (stE12 root N).rows /\ Up F F') (HP:=fun _ _ _ => False) ?_ ?_ (fun v h' F' _ h => h.elim)
 ·refine SafeCallX.of_body (fi:=fi12) (bx_ok R [] (fun _ _ _ => False)).T ((bx_ok R [] (fun _ _ _ => False)).F 12 fi12 (by kernel_rfl)) ?_
  have main:SafeX Try.prog R [] fi12.body ⟨enterT [exprV (.mk kd w (l.map Prod.fst)) x,.ptr false 0 0 0,.int .i64 (i:Nat)] fi12.ntmps,[some (trow 1 N.length root),some (arow N)]⟩ F (fun e st' F' => e = .ret /\ st' = stE12 root N /\ Up F F') (fun _ _ _ => False):=by
   refine chain_ok (bx_ok R [] _) (f:=12) (K:=fun st F1 => F1 = F /\ st.tmps.length = 57 /\ nthV st.tmps 1 = .ptr false 0 0 0 /\ nthV st.tmps 3 = .ptr false 2 0 0 /\ nthV st.tmps 7 = .ptr false 3 0 0 /\ st.rows = [some (trow 1 N.length root),some (arow N),some (.lst 25 3 [.agg [.int .i64 (kd:Int),.str w,.sl true (x + 15) 0 l.length .no]]),some (.lst 62 3 [.agg [.int .i64 (kd:Int),.str w,.sl true (e.x + 15) 0 l.length .no]])]) 1000 2 fi12.body _ _ (fun p hp => by unfold Env.subsOf; rw [show (bx R).F 12 = some fi12 by kernel_rfl]; exact hp) ?_ ?_
   ·rintro ⟨TM,rows⟩ F1 ⟨rfl,h1,h2,h3,h4,h5⟩
    simp only at h1 h2 h3 h4 h5
    subst h5
    refine SafeX.pre (fit12 (tl:=[]) (.lst1' rfl rfl) (.lst1' rfl rfl) (T:=tm12s) ?_ s5)
    rw [tm12s_spr]
    exact VwL.ofKnown h1 ⟨by rw [h2]; exact Vw.ptrI (by simp) rfl,by rw [h3]; exact Vw.ptrI (by simp) rfl,by rw [h4]; exact Vw.ptrI (by simp) rfl,trivial⟩
   ·refine Eq.mpr (vs12 R (.mk kd w (l.map Prod.fst)) x i root N (fun e st' F' => e = .ret /\ st' = stE12 root N /\ Up F F') (fun n a b c rows F1 => F1 = F /\ n = 57 /\ a = .ptr false 0 0 0 /\ b = .ptr false 2 0 0 /\ c = .ptr false 3 0 0 /\ rows = [some (trow 1 N.length root),some (arow N),some (.lst 25 3 [.agg [.int .i64 (kd:Int),.str w,.sl true (x + 15) 0 l.length .no]]),some (.lst 62 3 [.agg [.int .i64 (kd:Int),.str w,.sl true (e.x + 15) 0 l.length .no]])]) F) ?_
    have e1:((i:Nat):Int) < (N.length:Int):=by omega
    refine hcT (by rw [decide_eq_true e1]; rfl) (hcT (decide_eq_true (by simpa using hi)) ⟨rfl,rfl,rfl,rfl,rfl,?_⟩)
    rw [heD,hkd,hw,<- hlen]
    simp only [Tr.kids,Tr.kind,Tr.word,List.length_map]
  refine main.mono ?_ fun _ _ _ h => h
  rintro e st' F' ⟨rfl,rfl,hu⟩
  refine ⟨.inr rfl,[.bool true],?_,rfl,rfl,hu⟩
  rw [res12]
  exact ⟨_,[],rfl,rfl,rfl⟩
 ·rintro v h' F' _ ⟨rfl,rfl,hu⟩
  refine ToV.fitW (vE:=.bool true) (hE:=[some (trow 1 N.length root),some (arow N)]) some ⟨fun c c' b r r' _ _ h h' => by cases h; cases h'; rfl,fun c r hc => ?_⟩ Vw.boolI (fun _ _ => rfl) (Nat.le_refl _) (ToV.here (hk F' hu))
  match c with
  | 0 => cases hc; exact .inl ⟨0,_,rfl,rfl,trow_v rfl (by simp)⟩
  | 1 => cases hc; exact .inl ⟨1,_,rfl,rfl,(arow_g N).vw _ _⟩
  | c + 2 => simp [Rows.live] at hc
mutual
theorem sameOK:∀ (t:Tr),size t <= 100000 -> SameOK t
 | .mk k w kids,h => same_step k w kids (by have:=sizes_len kids; simp only [size] at h; omega) (sameOKs kids (by simp only [size] at h; omega))
theorem sameOKs:∀ (ts:List Tr),sizes ts <= 100000 -> ∀ u ∈ ts,SameOK u
 | [],_,u,h => by cases h
 | t :: ts,hl,u,h => by
  simp only [sizes] at hl
  rcases List.mem_cons.1 h with e | h
  ·rw [e]; exact sameOK t (by omega)
  ·exact sameOKs ts (by omega) u h
end
def spec12:CallSpecX:=fun args h k => match args with
 | [a,.ptr false b 0 0,.int .i64 i] => atT botX h b fun c n root => fun F => ∃ t x N i0,a = exprV t x /\ n = N.length /\ h.live c = some (arow N) /\ i = (i0:Nat) /\ TAt F t x /\ NF F N /\ TrA N t i0 /\ size t <= 100000 /\ ∀ F',Up F F' -> k (.bool true) (h ++ [none,none]) F'
 | _ => botX
theorem spec12_ok {R:RR} (hR:Free6 R) (HP:HPt):∀ args h k F,spec12 args h k F -> SafeCallX Try.prog R 12 args h F k HP:=by
 intro args h k F hk
 unfold spec12 at hk
 split at hk
 ·obtain ⟨c,n,root,hb,t,x,N,i0,rfl,rfl,hc,rfl,hx,hN,ht,hz,hk⟩:=atT_ofX hk
  exact at12 rfl hb hc (sameOK t hz R hR x i0 root N F _ _ hx.is hN ht.is fun F' hu => ⟨rfl,rfl,hu⟩) hk
 ·exact hk.elim
end Go.Dc.Ke
end
