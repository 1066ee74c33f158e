/- Expressions: the document's reader, its rows and states. -/
import Derived.Test.YtfajmjhijanggaaDcXh
import Derived.Test.YtfajmjhijanggaaR3
set_option linter.unusedVariables false
set_option linter.unusedSimpArgs false
section
namespace Go.Dc.Ke
open Go.Proofs Go.RowKit Go.Shelf
set_option maxRecDepth 100000
abbrev rrow (s:List UInt8) (p n bd er:Int):Row:=.lst 57 5 [.agg [.str s,.int .i64 p,.int .i64 n,.int .i64 bd,.int .i64 er]]
theorem rrow_g (s:List UInt8) (p n bd er:Int):RowG (rrow s p n bd er):=.lst1' rfl rfl
def atR {α:Type} (bot:α) (h:Rows) (b:Nat) (φ:List UInt8 -> Int -> Int -> Int -> Int -> α):α :=
 match h.live b with
 | some (.lst 57 5 [.agg [.str s,.int .i64 p,.int .i64 n,.int .i64 bd,.int .i64 er]]) => φ s p n bd er
 | _ => bot
theorem atR_or {α:Type} (bot:α) (h:Rows) (b:Nat) (φ:List UInt8 -> Int -> Int -> Int -> Int -> α):atR bot h b φ = bot \/ ∃ s p n bd er,h.live b = some (rrow s p n bd er) /\ atR bot h b φ = φ s p n bd er:=by
 unfold atR
 split
 ·rename_i s p n bd er e; exact .inr ⟨s,p,n,bd,er,e,rfl⟩
 ·exact .inl rfl
theorem atR_of {h:Rows} {b:Nat} {φ:List UInt8 -> Int -> Int -> Int -> Int -> Prop} (hh:atR False h b φ):∃ s p n bd er,h.live b = some (rrow s p n bd er) /\ φ s p n bd er:=by
 rcases atR_or False h b φ with e | ⟨s,p,n,bd,er,e1,e2⟩
 ·rw [e] at hh; exact hh.elim
 ·rw [e2] at hh; exact ⟨s,p,n,bd,er,e1,hh⟩
theorem atR_ofX {h:Rows} {b:Nat} {F:Fz} {φ:List UInt8 -> Int -> Int -> Int -> Int -> Fz -> Prop} (hh:atR botX h b φ F):∃ s p n bd er,h.live b = some (rrow s p n bd er) /\ φ s p n bd er F:=by
 rcases atR_or botX h b φ with e | ⟨s,p,n,bd,er,e1,e2⟩
 ·rw [e] at hh; exact hh.elim
 ·rw [e2] at hh; exact ⟨s,p,n,bd,er,e1,hh⟩
noncomputable abbrev fam32 (s:List UInt8) (n bd er:Int) (i:Nat):St:=⟨[.ptr false 0 0 0,.any,.any,.any,.any,.any,.any,.any,.any,.any,.any,.any],[some (rrow s i n bd er)]⟩
noncomputable abbrev fam40 (s:List UInt8) (n bd er:Int) (a i:Nat):St:=⟨[.ptr false 0 0 0,.any,.any,.int .i64 a,.any,.any,.any,.any,.any,.any,.any,.any,.any,.any,.any,.any,.any,.any,.any,.any,.any,.any,.any,.any,.any,.any,.any,.any,.any,.any,.any,.any,.any,.any,.any,.any,.any,.any,.any,.any],[some (rrow s i n bd er)]⟩
noncomputable abbrev fam41 (s w:List UInt8) (n bd er:Int) (j p:Nat):St:=⟨[.ptr false 0 0 0,.str w,.any,.any,.int .i64 (j:Nat),.any,.any,.any,.any,.any,.any,.any,.any,.any,.any,.any,.any,.any,.any,.any,.any,.any,.any,.any,.any,.any,.any,.any,.any,.any,.any,.any,.any,.any,.any,.any,.any],[some (rrow s p n bd er)]⟩
def spec33:CallSpec:=fun args h k => match args with
 | [.ptr false b 0 0] => atR False h b fun s p _ _ _ => 0 <= p /\ k (.int .u8 (hbI s p)) h
 | _ => False
def spec34:CallSpec:=fun args h k => match args with
 | [.int .u8 c] => k (.bool (wordly c)) h
 | _ => False
def spec24:CallSpec:=fun args h k => match args with
 | [.ptr false b 0 0,.int .i64 at_,.int .i64 c] => atR False h b fun s p n bd er => bif er == 0 then k (.tup []) (h.set b (some (rrow s p n at_ c))) else k (.tup []) h
 | _ => False
noncomputable abbrev envR (R:RR):Env Prop:=(((base R).addCall 33 spec33).addCall 34 spec34).addCall 24 spec24
theorem vc33 (R:RR) (s:List UInt8) (p n bd er:Int) (Q:AV -> Rows -> Prop):vcd (base R) 1000 33 fi33 [.ptr false 0 0 0] [some (rrow s p n bd er)] Q = (bif decide (p < (↑s.length:Int)) then bif decide (0 <= p) && decide (p < (↑s.length:Int)) then Q (AV.int IntKind.u8 (↑(s.getD p.toNat 0).toNat:Int)) [some (Row.lst 57 5 [AV.agg [AV.str s,iI p,iI n,iI bd,iI er]])] else False else Q (AV.int IntKind.u8 0) [some (Row.lst 57 5 [AV.agg [AV.str s,iI p,iI n,iI bd,iI er]])]):=by kernel_rfl
theorem vc34 (R:RR) (c:Int) (Q:AV -> Rows -> Prop):vcd (base R) 1000 34 fi34 [.int .u8 c] [] Q = (bif decide (c > 96) then bif decide (c < 123) then Q (AV.bool true) [] else bif decide (c > 47) then bif decide (c < 58) then Q (AV.bool true) [] else Q (AV.bool (c == 45)) [] else Q (AV.bool (c == 45)) [] else bif decide (c > 47) then bif decide (c < 58) then Q (AV.bool true) [] else Q (AV.bool (c == 45)) [] else Q (AV.bool (c == 45)) []):=by kernel_rfl
theorem vc24 (R:RR) (s:List UInt8) (p n bd er c d:Int) (Q:AV -> Rows -> Prop):vcd (base R) 1000 24 fi24 [.ptr false 0 0 0,.int .i64 c,.int .i64 d] [some (rrow s p n bd er)] Q = (bif er == 0 then Q (AV.tup []) [some (Row.lst 57 5 [AV.agg [AV.str s,iI p,iI n,iI c,iI d]])] else Q (AV.tup []) [some (Row.lst 57 5 [AV.agg [AV.str s,iI p,iI n,iI bd,iI er]])]):=by kernel_rfl
theorem vr32 (R:RR) (s:List UInt8) (n bd er:Int) (i:Nat) (k:Exit -> St -> Prop):rnd (envR R) 1000 32 (loopOf fi32 0) (fam32 s n bd er i) k = (((↑i:Int) - 0).NonNeg /\ bif hbI s (↑i:Int) == 32 then k Exit.normal (St.mk [AV.ptr false 0 0 0,AV.any,AV.ptr false 0 0 0,AV.int IntKind.u8 (hbI s (↑i:Int)),AV.bool true,AV.ptr false 0 0 0,AV.ptr false 0 0 0,AV.ptr false 0 0 1,iI (↑i:Int),iI (IntKind.i64.wrap ((↑i:Int) + 1)),AV.ptr false 0 0 0,AV.ptr false 0 0 1] [some (Row.lst 57 5 [AV.agg [AV.str s,iI (IntKind.i64.wrap ((↑i:Int) + 1)),iI n,iI bd,iI er]])]) else k (Exit.exit 0) (St.mk [AV.ptr false 0 0 0,AV.any,AV.ptr false 0 0 0,AV.int IntKind.u8 (hbI s (↑i:Int)),AV.bool false,AV.any,AV.any,AV.any,AV.any,AV.any,AV.any,AV.any] [some (Row.lst 57 5 [AV.agg [AV.str s,iI (↑i:Int),iI n,iI bd,iI er]])])):=by kernel_rfl
theorem vr40 (R:RR) (s:List UInt8) (n bd er:Int) (a i:Nat) (k:Exit -> St -> Prop):rnd (envR R) 1000 40 (loopOf fi40 0) (fam40 s n bd er a i) k = (((↑i:Int) - 0).NonNeg /\ bif wordly (hbI s (↑i:Int)) then k Exit.normal (St.mk [AV.ptr false 0 0 0,AV.any,AV.any,iI (↑a:Int),AV.any,AV.any,AV.any,AV.any,AV.ptr false 0 0 0,AV.int IntKind.u8 (hbI s (↑i:Int)),AV.bool true,AV.ptr false 0 0 0,AV.ptr false 0 0 0,AV.ptr false 0 0 1,iI (↑i:Int),iI (IntKind.i64.wrap ((↑i:Int) + 1)),AV.ptr false 0 0 0,AV.ptr false 0 0 1,AV.any,AV.any,AV.any,AV.any,AV.any,AV.any,AV.any,AV.any,AV.any,AV.any,AV.any,AV.any,AV.any,AV.any,AV.any,AV.any,AV.any,AV.any,AV.any,AV.any,AV.any,AV.any] [some (Row.lst 57 5 [AV.agg [AV.str s,iI (IntKind.i64.wrap ((↑i:Int) + 1)),iI n,iI bd,iI er]])]) else k (Exit.exit 0) (St.mk [AV.ptr false 0 0 0,AV.any,AV.any,iI (↑a:Int),AV.any,AV.any,AV.any,AV.any,AV.ptr false 0 0 0,AV.int IntKind.u8 (hbI s (↑i:Int)),AV.bool false,AV.any,AV.any,AV.any,AV.any,AV.any,AV.any,AV.any,AV.any,AV.any,AV.any,AV.any,AV.any,AV.any,AV.any,AV.any,AV.any,AV.any,AV.any,AV.any,AV.any,AV.any,AV.any,AV.any,AV.any,AV.any,AV.any,AV.any,AV.any,AV.any] [some (Row.lst 57 5 [AV.agg [AV.str s,iI (↑i:Int),iI n,iI bd,iI er]])])):=by kernel_rfl
theorem safe33 (R:RR) (s:List UInt8) (p n bd er:Int) (hp:0 <= p):SafeCall Try.prog R 33 [.ptr false 0 0 0] [some (rrow s p n bd er)] fun v h => v = .int .u8 (hbI s p) /\ h = [some (rrow s p n bd er)]:=by
 refine SafeCall.by mixed (base_ok R) (f:=33) (fi:=fi33) (by kernel_rfl) 1000 (vc33 R s p n bd er _) (hcB (fun h => hcT (by simp at h ⊢; omega) ⟨rfl,rfl⟩) fun h => ?_)
 have h:=of_decide_eq_false h
 exact ⟨by rw [hbI_end (by omega)],rfl⟩
theorem spec33_ok (R:RR):∀ args h k,spec33 args h k -> SafeCall Try.prog R 33 args h k:=by
 intro args h k hk
 unfold spec33 at hk
 split at hk
 ·rename_i b
  obtain ⟨s,p,n,bd,er,hb,h0,hk⟩:=atR_of hk
  refine (SafeCall.at1 (Q:=fun v r' => v = .int .u8 (hbI s p) /\ r' = rrow s p n bd er) hb (rrow_g s p n bd er) (vw1 b) ((safe33 R s p n bd er h0).mono ?_)).mono ?_
  ·rintro v h' ⟨rfl,rfl⟩
   exact ⟨_,_,rfl,rfl,rrow_g _ _ _ _ _,rfl,rfl⟩
  ·rintro v h' ⟨r',rfl,rfl,rfl⟩
   rw [live_set_self hb]; exact hk
 ·exact hk.elim
theorem safe34 (R:RR) (c:Int):SafeCall Try.prog R 34 [.int .u8 c] [] fun v _ => v = .bool (wordly c):=by
 refine SafeCall.by mixed (base_ok R) (f:=34) (fi:=fi34) (by kernel_rfl) 1000 (vc34 R c _) ?_
 have e:wordly c = ((decide (97 <= c) && decide (c <= 122)) || (decide (48 <= c) && decide (c <= 57)) || c == 45):=rfl
 rw [e]
 refine hcB (fun h1 => hcB (fun h2 => ?_) fun h2 => hcB (fun h3 => hcB (fun h4 => ?_) fun h4 => ?_) fun h3 => ?_) fun h1 => hcB (fun h3 => hcB (fun h4 => ?_) fun h4 => ?_) fun h3 => ?_
 all_goals (simp only [decide_eq_true_eq,decide_eq_false_iff_not] at *; congr 1; rw [eq_comm,Bool.eq_iff_iff]; simp; omega)
theorem spec34_ok (R:RR):∀ args h k,spec34 args h k -> SafeCall Try.prog R 34 args h k:=by
 intro args h k hk
 unfold spec34 at hk
 split at hk
 ·rename_i c
  refine ((safe34 R c).alone rfl (by rintro v rfl; rfl) h).mono ?_
  rintro v h' ⟨rfl,rfl⟩; exact hk
 ·exact hk.elim
theorem spec24_ok (R:RR):∀ args h k,spec24 args h k -> SafeCall Try.prog R 24 args h k:=by
 intro args h k hk
 unfold spec24 at hk
 split at hk
 ·rename_i b c d
  obtain ⟨s,p,n,bd,er,hb,hk⟩:=atR_of hk
  refine (SafeCall.at1 (Q:=fun v r' => v = .tup [] /\ r' = bif er == 0 then rrow s p n c d else rrow s p n bd er) hb (rrow_g s p n bd er) (VwL.cons (Vw.ptrI (by decide) rfl) (VwL.cons Vw.intI (VwL.cons Vw.intI VwL.nil))) (SafeCall.by mixed (base_ok R) (f:=24) (fi:=fi24) (by kernel_rfl) 1000 (vc24 R s p n bd er c d _) (hcB (fun e => ?_) fun e => ?_))).mono ?_
  ·exact ⟨_,_,rfl,rfl,rrow_g _ _ _ _ _,rfl,by rw [e]; rfl⟩
  ·exact ⟨_,_,rfl,rfl,rrow_g _ _ _ _ _,rfl,by rw [e]; rfl⟩
  ·rintro v h' ⟨r',rfl,rfl,rfl⟩
   cases e:er == 0 with
   | true => rw [e] at hk; exact hk
   | false => rw [e] at hk; simp only [cond_false]; rw [live_set_self hb]; exact hk
 ·exact hk.elim
theorem envR_ok (R:RR):EnvOK Try.prog (envR R) id:=(((base_ok R).addCall (f:=33) (fi:=fi33) (by kernel_rfl) (spec33_ok R)).addCall (f:=34) (fi:=fi34) (by kernel_rfl) (spec34_ok R)).addCall (f:=24) (fi:=fi24) (by kernel_rfl) (spec24_ok R)
theorem tm32_spr (s:List UInt8) (n bd er:Int) (i:Nat):(fam32 s n bd er i).tmps = spr [(0,.ptr false 0 0 0)] 0 12:=by kernel_rfl
theorem scan_room {p:Int -> Bool} (h0:p 0 = false) (s:List UInt8) (a:Nat):scan p s a = a \/ scan p s a <= s.length:=by
 rcases Nat.lt_or_ge s.length a with h | h
 ·exact .inl (scan_stop (by rw [hbI_end (by omega)]; exact h0))
 ·exact .inr (scan_le h)
theorem loop32 (R:RR) (s:List UInt8) (n bd er:Int) (a:Nat) (hs:s.length <= 100000) (TM:List AV) (hT:TM.length = 12) (h0:nthV TM 0 = .ptr false 0 0 0) :
  Safe Try.prog R (.block 0 (.loop (loopOf fi32 0))) ⟨TM,[some (rrow s a n bd er)]⟩ fun e st => e = .normal /\ st = fam32 s n bd er (scan isB s a):=by
 refine (loop_block (I:={i:Nat // scan isB s i = scan isB s a}) (fam:=fun i => fam32 s n bd er i.1) (fun i => s.length - i.1) (X:=fun e st => e = .exit 0 /\ st = fam32 s n bd er (scan isB s a)) (i0:=⟨a,rfl⟩) (f:=some) ?_ ?_ ?_ ?_).mono ?_
 ·refine ⟨View.preX (L:=[some (rrow s a n bd er)]) (tl:=[]) (fun c q h => by rw [live1 h]; exact (rrow_g _ _ _ _ _).vw _ _),?_⟩
  rw [tm32_spr]
  exact VwL.ofKnown hT ⟨by rw [h0]; exact Vw.ptrI (by simp) rfl,trivial⟩
 ·intro c _; rfl
 ·intro i; exact Nat.le_refl _
 ·rintro ⟨i,he⟩
  refine Safe.by mixed (envR_ok R) (f:=32) (fi:=fi32) (i:=0) (by kernel_rfl) (b:=.loop (loopOf fi32 0)) (by kernel_rfl) (subs_loop _) 1000 (vr32 R s n bd er i _) ?_
  refine ⟨show (0:Int) <= (i:Int) - 0 by omega,hcB (fun h => ?_) fun h => ?_⟩
  ·have hlt:i < s.length:=hbI_lt (p:=isB) (by decide) h
   refine ⟨⟨i + 1,(scan_step hlt h).trans he⟩,by show s.length - (i + 1) < s.length - i; omega,?_⟩
   rw [wrapSucc i (by omega)]
   exact Fit.row1 (rrow_g _ _ _ _ _) (by (repeat' (first | with_reducible exact VwL.nil | with_reducible refine VwL.cons ?_ ?_ | with_reducible exact Vw.anyI | with_reducible exact Vw.strI | with_reducible exact Vw.boolI | with_reducible exact Vw.intI | with_reducible exact Vw.nilsI | exact Vw.ptrI (by simp) rfl | exact Vw.slI (by simp) rfl | with_reducible refine Vw.aggI ?_ | exact Vw.gndI rfl)))
  ·refine ⟨fam32 s n bd er i,Fit.row1 (rrow_g _ _ _ _ _) (by (repeat' (first | with_reducible exact VwL.nil | with_reducible refine VwL.cons ?_ ?_ | with_reducible exact Vw.anyI | with_reducible exact Vw.strI | with_reducible exact Vw.boolI | with_reducible exact Vw.intI | with_reducible exact Vw.nilsI | exact Vw.ptrI (by simp) rfl | exact Vw.slI (by simp) rfl | with_reducible refine Vw.aggI ?_ | exact Vw.gndI rfl))),rfl,?_⟩
   rw [<- he,scan_stop h]
 ·rintro e st ⟨e0,rfl,rfl,rfl⟩
  exact ⟨rfl,rfl⟩
theorem tm40_spr (s:List UInt8) (n bd er:Int) (a i:Nat):(fam40 s n bd er a i).tmps = spr [(0,.ptr false 0 0 0),(3,.int .i64 a)] 0 40:=by kernel_rfl
theorem loop40 (R:RR) (s:List UInt8) (n bd er:Int) (a:Nat) (hs:s.length <= 100000) (TM:List AV) (hT:TM.length = 40) (h0:nthV TM 0 = .ptr false 0 0 0) (h3:nthV TM 3 = .int .i64 a) :
  Safe Try.prog R (.block 0 (.loop (loopOf fi40 0))) ⟨TM,[some (rrow s a n bd er)]⟩ fun e st => e = .normal /\ st = fam40 s n bd er a (scan wordly s a):=by
 refine (loop_block (I:={i:Nat // scan wordly s i = scan wordly s a}) (fam:=fun i => fam40 s n bd er a i.1) (fun i => s.length - i.1) (X:=fun e st => e = .exit 0 /\ st = fam40 s n bd er a (scan wordly s a)) (i0:=⟨a,rfl⟩) (f:=some) ?_ ?_ ?_ ?_).mono ?_
 ·refine ⟨View.preX (L:=[some (rrow s a n bd er)]) (tl:=[]) (fun c q h => by rw [live1 h]; exact (rrow_g _ _ _ _ _).vw _ _),?_⟩
  rw [tm40_spr]
  exact VwL.ofKnown hT ⟨by rw [h0]; exact Vw.ptrI (by simp) rfl,by rw [h3]; exact Vw.intI,trivial⟩
 ·intro c _; rfl
 ·intro i; exact Nat.le_refl _
 ·rintro ⟨i,he⟩
  refine Safe.by mixed (envR_ok R) (f:=40) (fi:=fi40) (i:=0) (by kernel_rfl) (b:=.loop (loopOf fi40 0)) (by kernel_rfl) (subs_loop _) 1000 (vr40 R s n bd er a i _) ?_
  refine ⟨show (0:Int) <= (i:Int) - 0 by omega,hcB (fun h => ?_) fun h => ?_⟩
  ·have hlt:i < s.length:=hbI_lt (p:=wordly) (by decide) h
   refine ⟨⟨i + 1,(scan_step hlt h).trans he⟩,by show s.length - (i + 1) < s.length - i; omega,?_⟩
   rw [wrapSucc i (by omega)]
   exact Fit.row1 (rrow_g _ _ _ _ _) (by (repeat' (first | with_reducible exact VwL.nil | with_reducible refine VwL.cons ?_ ?_ | with_reducible exact Vw.anyI | with_reducible exact Vw.strI | with_reducible exact Vw.boolI | with_reducible exact Vw.intI | with_reducible exact Vw.nilsI | exact Vw.ptrI (by simp) rfl | exact Vw.slI (by simp) rfl | with_reducible refine Vw.aggI ?_ | exact Vw.gndI rfl)))
  ·refine ⟨fam40 s n bd er a i,Fit.row1 (rrow_g _ _ _ _ _) (by (repeat' (first | with_reducible exact VwL.nil | with_reducible refine VwL.cons ?_ ?_ | with_reducible exact Vw.anyI | with_reducible exact Vw.strI | with_reducible exact Vw.boolI | with_reducible exact Vw.intI | with_reducible exact Vw.nilsI | exact Vw.ptrI (by simp) rfl | exact Vw.slI (by simp) rfl | with_reducible refine Vw.aggI ?_ | exact Vw.gndI rfl))),rfl,?_⟩
   rw [<- he,scan_stop h]
 ·rintro e st ⟨e0,rfl,rfl,rfl⟩
  exact ⟨rfl,rfl⟩
def lp32 (s:List UInt8) (n bd er:Int) (a:Nat):LoopSp:=fun st k => s.length <= 100000 /\ st.tmps.length = 12 /\ nthV st.tmps 0 = .ptr false 0 0 0 /\ st.rows = [some (rrow s a n bd er)] /\ k .normal (fam32 s n bd er (scan isB s a))
def lp40 (s:List UInt8) (n bd er:Int) (a:Nat):LoopSp:=fun st k => s.length <= 100000 /\ st.tmps.length = 40 /\ nthV st.tmps 0 = .ptr false 0 0 0 /\ nthV st.tmps 3 = .int .i64 a /\ st.rows = [some (rrow s a n bd er)] /\ k .normal (fam40 s n bd er a (scan wordly s a))
def lp41 (s w:List UInt8) (n bd er:Int) (a:Nat):LoopSp:=fun st k => a <= 200000 /\ w.length <= 100000 /\ st.tmps.length = 37 /\ nthV st.tmps 0 = .ptr false 0 0 0 /\ nthV st.tmps 1 = .str w /\ nthV st.tmps 4 = .int .i64 0 /\ st.rows = [some (rrow s a n bd er)] /\
 bif er == 0 then (bif (exN s w a).1 then k .normal (fam41 s w n bd 0 w.length (exN s w a).2) else ∀ j,k .normal (fam41 s w n (exN s w a).2 3 j ((exN s w a).2 + 1))) else k .normal (fam41 s w n bd er 0 a)
noncomputable abbrev env32 (R:RR) (s:List UInt8) (n bd er:Int) (a:Nat):Env Prop:=(envR R).addLoop 32 0 (lp32 s n bd er a)
noncomputable abbrev env40 (R:RR) (s:List UInt8) (n bd er:Int) (a:Nat):Env Prop:=(envR R).addLoop 40 0 (lp40 s n bd er a)
noncomputable abbrev env41 (R:RR) (s w:List UInt8) (n bd er:Int) (a:Nat):Env Prop:=(envR R).addLoop 41 0 (lp41 s w n bd er a)
theorem vr41g (R:RR) (s w:List UInt8) (n bd er:Int) (j p:Nat) (k:Exit -> St -> Prop):rnd (envR R) 1000 41 (loopOf fi41 0) (fam41 s w n bd er j p) k = (bif decide ((↑j:Int) < (↑w.length:Int)) then bif er == 0 then bif true && decide ((↑j:Int) < (↑w.length:Int)) then ((↑p:Int) - 0).NonNeg /\ bif hbI s (↑p:Int) != (↑(w.getD (↑j:Int).toNat 0).toNat:Int) then bif er == 0 then k Exit.normal (St.mk [AV.ptr false 0 0 0,AV.str w,AV.any,AV.any,iI (IntKind.i64.wrap ((↑j:Int) + 1)),iI (↑j:Int),AV.str w,iI (↑w.length:Int),AV.bool (decide ((↑j:Int) < (↑w.length:Int))),AV.bool true,AV.ptr false 0 0 0,AV.ptr false 0 0 0,AV.ptr false 0 0 4,iI er,AV.bool (er == 0),AV.bool true,iI (↑j:Int),iI (IntKind.i64.wrap ((↑j:Int) + 1)),AV.ptr false 0 0 0,AV.int IntKind.u8 (hbI s (↑p:Int)),AV.str w,iI (↑j:Int),AV.int IntKind.u8 (↑(w.getD (↑j:Int).toNat 0).toNat:Int),AV.bool true,AV.ptr false 0 0 0,AV.ptr false 0 0 0,AV.ptr false 0 0 0,AV.ptr false 0 0 1,iI (↑p:Int),AV.tup [],AV.ptr false 0 0 0,AV.ptr false 0 0 0,AV.ptr false 0 0 1,iI (↑p:Int),iI (IntKind.i64.wrap ((↑p:Int) + 1)),AV.ptr false 0 0 0,AV.ptr false 0 0 1] [some (Row.lst 57 5 [AV.agg [AV.str s,iI (IntKind.i64.wrap ((↑p:Int) + 1)),iI n,iI (↑p:Int),iI 3]])]) else k Exit.normal (St.mk [AV.ptr false 0 0 0,AV.str w,AV.any,AV.any,iI (IntKind.i64.wrap ((↑j:Int) + 1)),iI (↑j:Int),AV.str w,iI (↑w.length:Int),AV.bool (decide ((↑j:Int) < (↑w.length:Int))),AV.bool true,AV.ptr false 0 0 0,AV.ptr false 0 0 0,AV.ptr false 0 0 4,iI er,AV.bool (er == 0),AV.bool true,iI (↑j:Int),iI (IntKind.i64.wrap ((↑j:Int) + 1)),AV.ptr false 0 0 0,AV.int IntKind.u8 (hbI s (↑p:Int)),AV.str w,iI (↑j:Int),AV.int IntKind.u8 (↑(w.getD (↑j:Int).toNat 0).toNat:Int),AV.bool true,AV.ptr false 0 0 0,AV.ptr false 0 0 0,AV.ptr false 0 0 0,AV.ptr false 0 0 1,iI (↑p:Int),AV.tup [],AV.ptr false 0 0 0,AV.ptr false 0 0 0,AV.ptr false 0 0 1,iI (↑p:Int),iI (IntKind.i64.wrap ((↑p:Int) + 1)),AV.ptr false 0 0 0,AV.ptr false 0 0 1] [some (Row.lst 57 5 [AV.agg [AV.str s,iI (IntKind.i64.wrap ((↑p:Int) + 1)),iI n,iI bd,iI er]])]) else k Exit.normal (St.mk [AV.ptr false 0 0 0,AV.str w,AV.any,AV.any,iI (IntKind.i64.wrap ((↑j:Int) + 1)),iI (↑j:Int),AV.str w,iI (↑w.length:Int),AV.bool (decide ((↑j:Int) < (↑w.length:Int))),AV.bool true,AV.ptr false 0 0 0,AV.ptr false 0 0 0,AV.ptr false 0 0 4,iI er,AV.bool (er == 0),AV.bool true,iI (↑j:Int),iI (IntKind.i64.wrap ((↑j:Int) + 1)),AV.ptr false 0 0 0,AV.int IntKind.u8 (hbI s (↑p:Int)),AV.str w,iI (↑j:Int),AV.int IntKind.u8 (↑(w.getD (↑j:Int).toNat 0).toNat:Int),AV.bool false,AV.any,AV.any,AV.any,AV.any,AV.any,AV.any,AV.ptr false 0 0 0,AV.ptr false 0 0 0,AV.ptr false 0 0 1,iI (↑p:Int),iI (IntKind.i64.wrap ((↑p:Int) + 1)),AV.ptr false 0 0 0,AV.ptr false 0 0 1] [some (Row.lst 57 5 [AV.agg [AV.str s,iI (IntKind.i64.wrap ((↑p:Int) + 1)),iI n,iI bd,iI er]])]) else False else k (Exit.exit 0) (St.mk [AV.ptr false 0 0 0,AV.str w,AV.any,AV.any,iI (↑j:Int),iI (↑j:Int),AV.str w,iI (↑w.length:Int),AV.bool (decide ((↑j:Int) < (↑w.length:Int))),AV.bool true,AV.ptr false 0 0 0,AV.ptr false 0 0 0,AV.ptr false 0 0 4,iI er,AV.bool (er == 0),AV.bool false,AV.any,AV.any,AV.any,AV.any,AV.any,AV.any,AV.any,AV.any,AV.any,AV.any,AV.any,AV.any,AV.any,AV.any,AV.any,AV.any,AV.any,AV.any,AV.any,AV.any,AV.any] [some (Row.lst 57 5 [AV.agg [AV.str s,iI (↑p:Int),iI n,iI bd,iI er]])]) else k (Exit.exit 0) (St.mk [AV.ptr false 0 0 0,AV.str w,AV.any,AV.any,iI (↑j:Int),iI (↑j:Int),AV.str w,iI (↑w.length:Int),AV.bool (decide ((↑j:Int) < (↑w.length:Int))),AV.bool false,AV.tup [],AV.tup [],AV.tup [],AV.tup [],AV.tup [],AV.bool false,AV.any,AV.any,AV.any,AV.any,AV.any,AV.any,AV.any,AV.any,AV.any,AV.any,AV.any,AV.any,AV.any,AV.any,AV.any,AV.any,AV.any,AV.any,AV.any,AV.any,AV.any] [some (Row.lst 57 5 [AV.agg [AV.str s,iI (↑p:Int),iI n,iI bd,iI er]])])):=by kernel_rfl
theorem vc32 (R:RR) (s:List UInt8) (n bd er:Int) (a:Nat) (Q:AV -> Rows -> Prop):vcd (env32 R s n bd er a) 1000 32 fi32 [.ptr false 0 0 0] [some (rrow s a n bd er)] Q = (s.length.le 100000 /\ 12 = 12 /\ AV.ptr false 0 0 0 = AV.ptr false 0 0 0 /\ [some (Row.lst 57 5 [AV.agg [AV.str s,iI (↑a:Int),iI n,iI bd,iI er]])] = [some (Row.lst 57 5 [AV.agg [AV.str s,iI (↑a:Int),iI n,iI bd,iI er]])] /\ Q (AV.tup []) [some (Row.lst 57 5 [AV.agg [AV.str s,iI (↑(scan isB s a):Int),iI n,iI bd,iI er]])]):=by kernel_rfl
theorem vc40 (R:RR) (s:List UInt8) (n bd:Int) (a:Nat) (Q:AV -> Rows -> Prop):vcd (env40 R s n bd 0 a) 1000 40 fi40 [.ptr false 0 0 0] [some (rrow s a n bd 0)] Q = (s.length.le 100000 /\ 40 = 40 /\ AV.ptr false 0 0 0 = AV.ptr false 0 0 0 /\ iI (↑a:Int) = iI (↑a:Int) /\ [some (Row.lst 57 5 [AV.agg [AV.str s,iI (↑a:Int),iI n,iI bd,iI 0]])] = [some (Row.lst 57 5 [AV.agg [AV.str s,iI (↑a:Int),iI n,iI bd,iI 0]])] /\ bif (↑(scan wordly s a):Int) == (↑a:Int) then bif slCond (some (↑a:Int)) (some (↑(scan wordly s a):Int)) s.length then Q (AV.str (List.take (slHi s.length (some (↑(scan wordly s a):Int)) - slLo (some (↑a:Int))) (List.drop (slLo (some (↑a:Int))) s))) [some (Row.lst 57 5 [AV.agg [AV.str s,iI (↑(scan wordly s a):Int),iI n,iI (↑(scan wordly s a):Int),iI 3]])] else False else bif slCond (some (↑a:Int)) (some (↑(scan wordly s a):Int)) s.length then Q (AV.str (List.take (slHi s.length (some (↑(scan wordly s a):Int)) - slLo (some (↑a:Int))) (List.drop (slLo (some (↑a:Int))) s))) [some (Row.lst 57 5 [AV.agg [AV.str s,iI (↑(scan wordly s a):Int),iI n,iI bd,iI 0]])] else False):=by kernel_rfl
theorem vc41 (R:RR) (s w:List UInt8) (n bd er:Int) (a:Nat) (Q:AV -> Rows -> Prop):vcd (env41 R s w n bd er a) 1000 41 fi41 [.ptr false 0 0 0,.str w] [some (rrow s a n bd er)] Q = (a.le 200000 /\ w.length.le 100000 /\ 37 = 37 /\ AV.ptr false 0 0 0 = AV.ptr false 0 0 0 /\ AV.str w = AV.str w /\ iI 0 = iI 0 /\ [some (Row.lst 57 5 [AV.agg [AV.str s,iI (↑a:Int),iI n,iI bd,iI er]])] = [some (Row.lst 57 5 [AV.agg [AV.str s,iI (↑a:Int),iI n,iI bd,iI er]])] /\ bif er == 0 then bif (exN s w a).fst then Q (AV.tup []) [some (Row.lst 57 5 [AV.agg [AV.str s,iI (↑(exN s w a).snd:Int),iI n,iI bd,iI 0]])] else ∀ (j:Nat),Q (AV.tup []) [some (Row.lst 57 5 [AV.agg [AV.str s,iI (↑((exN s w a).snd + 1):Int),iI n,iI (↑(exN s w a).snd:Int),iI 3]])] else Q (AV.tup []) [some (Row.lst 57 5 [AV.agg [AV.str s,iI (↑a:Int),iI n,iI bd,iI er]])]):=by kernel_rfl
theorem env32_ok (R:RR) (s:List UInt8) (n bd er:Int) (a:Nat):EnvOK Try.prog (env32 R s n bd er a) id:=(envR_ok R).addLoop (f:=32) (fi:=fi32) (by kernel_rfl) (i:=0) (body:=.loop (loopOf fi32 0)) (by kernel_rfl) (by
 rintro ⟨TM,rows⟩ k ⟨hs,h1,h2,h3,hk⟩
 simp only at h1 h2 h3
 subst h3
 refine (loop32 R s n bd er a hs TM h1 h2).mono ?_
 rintro e st ⟨rfl,rfl⟩; exact hk)
theorem env40_ok (R:RR) (s:List UInt8) (n bd er:Int) (a:Nat):EnvOK Try.prog (env40 R s n bd er a) id:=(envR_ok R).addLoop (f:=40) (fi:=fi40) (by kernel_rfl) (i:=0) (body:=.loop (loopOf fi40 0)) (by kernel_rfl) (by
 rintro ⟨TM,rows⟩ k ⟨hs,h1,h2,h3,h4,hk⟩
 simp only at h1 h2 h3 h4
 subst h4
 refine (loop40 R s n bd er a hs TM h1 h2 h3).mono ?_
 rintro e st ⟨rfl,rfl⟩; exact hk)
def spec32:CallSpec:=fun args h k => match args with
 | [.ptr false b 0 0] => atR False h b fun s p n bd er => ∃ a:Nat,p = a /\ s.length <= 100000 /\ k (.tup []) (h.set b (some (rrow s (blk s a:Nat) n bd er)))
 | _ => False
theorem spec32_ok (R:RR):∀ args h k,spec32 args h k -> SafeCall Try.prog R 32 args h k:=by
 intro args h k hk
 unfold spec32 at hk
 split at hk
 ·rename_i b
  obtain ⟨s,p,n,bd,er,hb,a,rfl,hs,hk⟩:=atR_of hk
  refine (SafeCall.at1 (Q:=fun v r' => v = .tup [] /\ r' = rrow s (blk s a:Nat) n bd er) hb (rrow_g _ _ _ _ _) (vw1 b) (SafeCall.by mixed (env32_ok R s n bd er a) (f:=32) (fi:=fi32) (by kernel_rfl) 1000 (vc32 R s n bd er a _) ⟨hs,rfl,rfl,rfl,_,_,rfl,rfl,rrow_g _ _ _ _ _,rfl,rfl⟩)).mono ?_
  rintro v h' ⟨r',rfl,rfl,rfl⟩
  exact hk
 ·exact hk.elim
def spec40:CallSpec:=fun args h k => match args with
 | [.ptr false b 0 0] => atR False h b fun s p n bd er => ∃ a:Nat,p = a /\ a <= s.length /\ s.length <= 100000 /\ er = 0 /\
   bif Nat.beq (scan wordly s a) a then k (.str []) (h.set b (some (rrow s a n a 3))) else k (.str (sub s a (scan wordly s a))) (h.set b (some (rrow s (scan wordly s a:Nat) n bd 0)))
 | _ => False
theorem spec40_ok (R:RR):∀ args h k,spec40 args h k -> SafeCall Try.prog R 40 args h k:=by
 intro args h k hk
 unfold spec40 at hk
 split at hk
 ·rename_i b
  obtain ⟨s,p,n,bd,er,hb,a,rfl,ha,hs,rfl,hk⟩:=atR_of hk
  have h1:=scan_ge wordly s a
  have h2:=scan_le (p:=wordly) ha
  have c1:slCond (some ((a:Nat):Int)) (some ((scan wordly s a:Nat):Int)) s.length = true:=by simp [slCond]; omega
  have c2:List.take (slHi s.length (some ((scan wordly s a:Nat):Int)) - slLo (some ((a:Nat):Int))) (List.drop (slLo (some ((a:Nat):Int))) s) = sub s a (scan wordly s a):=by
   show List.take ((((scan wordly s a:Nat):Int)).toNat - ((a:Nat):Int).toNat) (List.drop ((a:Nat):Int).toNat s) = _
   rw [Int.toNat_natCast,Int.toNat_natCast]; rfl
  refine (SafeCall.at1 (Q:=fun v r' => bif Nat.beq (scan wordly s a) a then v = .str [] /\ r' = rrow s a n a 3 else v = .str (sub s a (scan wordly s a)) /\ r' = rrow s (scan wordly s a:Nat) n bd 0) hb (rrow_g _ _ _ _ _) (vw1 b) (SafeCall.by mixed (env40_ok R s n bd 0 a) (f:=40) (fi:=fi40) (by kernel_rfl) 1000 (vc40 R s n bd a _) ⟨hs,rfl,rfl,rfl,rfl,?_⟩)).mono ?_
  ·rw [c1,c2]
   refine hcB (fun e => ?_) fun e => ?_
   ·have e':scan wordly s a = a:=by have:=eq_of_beq e; omega
    rw [e',Nat.beq_refl]
    exact ⟨_,_,rfl,rfl,rrow_g _ _ _ _ _,by simp [sub],rfl⟩
   ·have e':Nat.beq (scan wordly s a) a = false:=by
     cases hq:Nat.beq (scan wordly s a) a with
     | false => rfl
     | true => rw [Nat.eq_of_beq_eq_true hq] at e; simp at e
    rw [e']
    exact ⟨_,_,rfl,rfl,rrow_g _ _ _ _ _,rfl,rfl⟩
  ·rintro v h' ⟨r',rfl,hq⟩
   cases e:Nat.beq (scan wordly s a) a with
   | true => rw [e] at hk hq; obtain ⟨rfl,rfl⟩:=hq; exact hk
   | false => rw [e] at hk hq; obtain ⟨rfl,rfl⟩:=hq; exact hk
 ·exact hk.elim
theorem tm41_spr (s w:List UInt8) (n bd er:Int) (j p:Nat):(fam41 s w n bd er j p).tmps = spr [(0,.ptr false 0 0 0),(1,.str w),(4,.int .i64 (j:Nat))] 0 37:=by kernel_rfl
theorem exN_step {s w:List UInt8} {j a:Nat} (h:j < w.length):exN s (w.drop j) a = bif hbI s a == ((w.getD j 0).toNat:Nat) then exN s (w.drop (j + 1)) (a + 1) else (false,a):=by
 rw [List.drop_eq_getElem_cons h]
 have:w.getD j 0 = w[j]:=by rw [List.getD_eq_getElem?_getD,List.getElem?_eq_getElem h]; rfl
 rw [this]; rfl
structure T41 (s w:List UInt8) (a:Nat) (x:Bool × Nat):Prop where
 run:x.1 = false -> x.2 <= w.length /\ exN s (w.drop x.2) (a + x.2) = exN s w a
 bad:x.1 = true -> (exN s w a).1 = false
theorem loop41 (R:RR) (s w:List UInt8) (n bd er:Int) (a:Nat) (ha:a <= 200000) (hw:w.length <= 100000):∀ st k,lp41 s w n bd er a st k -> Safe Try.prog R (.block 0 (.loop (loopOf fi41 0))) st k:=by
 rintro ⟨TM,rows⟩ k ⟨_,_,h1,h2,h3,h4,h5,hk⟩
 simp only at h1 h2 h3 h4 h5
 subst h5
 have ini:VwL some 1 (fam41 s w n bd er 0 a).tmps TM:=by
  rw [tm41_spr]
  exact VwL.ofKnown h1 ⟨by rw [h2]; exact Vw.ptrI (by simp) rfl,by rw [h3]; exact Vw.strI,by rw [h4]; exact Vw.intI,trivial⟩
 cases hz:er == 0 with
 | false =>
  rw [hz] at hk
  simp only [cond_false] at hk
  refine (loop_block (I:=Unit) (fam:=fun _ => fam41 s w n bd er 0 a) (fun _ => 0) (X:=fun e st => e = .exit 0 /\ st = fam41 s w n bd er 0 a) (i0:=()) (f:=some) ?_ ?_ ?_ ?_).mono ?_
  ·exact ⟨View.preX (L:=[some (rrow s a n bd er)]) (tl:=[]) (fun c q h => by rw [live1 h]; exact (rrow_g _ _ _ _ _).vw _ _),ini⟩
  ·intro c _; rfl
  ·intro i; exact Nat.le_refl _
  ·intro _
   refine Safe.by mixed (envR_ok R) (f:=41) (fi:=fi41) (i:=0) (by kernel_rfl) (b:=.loop (loopOf fi41 0)) (by kernel_rfl) (subs_loop _) 1000 (vr41g R s w n bd er 0 a _) ?_
   refine hcB (fun _ => hcF hz ?_) fun _ => ?_
   ·exact ⟨fam41 s w n bd er 0 a,Fit.row1 (rrow_g _ _ _ _ _) (by (repeat' (first | with_reducible exact VwL.nil | with_reducible refine VwL.cons ?_ ?_ | with_reducible exact Vw.anyI | with_reducible exact Vw.strI | with_reducible exact Vw.boolI | with_reducible exact Vw.intI | with_reducible exact Vw.nilsI | exact Vw.ptrI (by simp) rfl | exact Vw.slI (by simp) rfl | with_reducible refine Vw.aggI ?_ | exact Vw.gndI rfl))),rfl,rfl⟩
   ·exact ⟨fam41 s w n bd er 0 a,Fit.row1 (rrow_g _ _ _ _ _) (by (repeat' (first | with_reducible exact VwL.nil | with_reducible refine VwL.cons ?_ ?_ | with_reducible exact Vw.anyI | with_reducible exact Vw.strI | with_reducible exact Vw.boolI | with_reducible exact Vw.intI | with_reducible exact Vw.nilsI | exact Vw.ptrI (by simp) rfl | exact Vw.slI (by simp) rfl | with_reducible refine Vw.aggI ?_ | exact Vw.gndI rfl))),rfl,rfl⟩
  ·rintro e st ⟨e0,rfl,rfl,rfl⟩
   exact hk
 | true =>
  rw [hz] at hk
  have hz:=eq_of_beq hz
  subst hz
  simp only [cond_true] at hk
  let E:=exN s w a
  let fam:Bool × Nat -> St:=fun x => match x.1 with | false => fam41 s w n bd 0 x.2 (a + x.2) | true => fam41 s w n E.2 3 x.2 (E.2 + 1)
  refine (loop_block (I:={x:Bool × Nat // T41 s w a x}) (fam:=fun x => fam x.1) (fun x => match x.1.1 with | false => w.length - x.1.2 + 1 | true => 0) (X:=fun e st => e = .exit 0 /\ ((E.1 = true /\ st = fam41 s w n bd 0 w.length E.2) \/ (E.1 = false /\ ∃ j,st = fam41 s w n E.2 3 j (E.2 + 1)))) (i0:=⟨(false,0),⟨fun _ => ⟨Nat.zero_le _,rfl⟩,fun h => by cases h⟩⟩) (f:=some) ?_ ?_ ?_ ?_).mono ?_
  ·exact ⟨View.preX (L:=[some (rrow s a n bd 0)]) (tl:=[]) (fun c q h => by rw [live1 h]; exact (rrow_g _ _ _ _ _).vw _ _),ini⟩
  ·intro c _; rfl
  ·rintro ⟨⟨b,j⟩,h⟩
   cases b <;> exact Nat.le_refl _
  ·rintro ⟨⟨b,j⟩,h⟩
   cases b with
   | true =>
    refine Safe.by mixed (envR_ok R) (f:=41) (fi:=fi41) (i:=0) (by kernel_rfl) (b:=.loop (loopOf fi41 0)) (by kernel_rfl) (subs_loop _) 1000 (vr41g R s w n E.2 3 j (E.2 + 1) _) ?_
    refine hcB (fun _ => ?_) fun _ => ?_
    ·exact ⟨fam41 s w n E.2 3 j (E.2 + 1),Fit.row1 (rrow_g _ _ _ _ _) (by (repeat' (first | with_reducible exact VwL.nil | with_reducible refine VwL.cons ?_ ?_ | with_reducible exact Vw.anyI | with_reducible exact Vw.strI | with_reducible exact Vw.boolI | with_reducible exact Vw.intI | with_reducible exact Vw.nilsI | exact Vw.ptrI (by simp) rfl | exact Vw.slI (by simp) rfl | with_reducible refine Vw.aggI ?_ | exact Vw.gndI rfl))),rfl,.inr ⟨h.bad rfl,j,rfl⟩⟩
    ·exact ⟨fam41 s w n E.2 3 j (E.2 + 1),Fit.row1 (rrow_g _ _ _ _ _) (by (repeat' (first | with_reducible exact VwL.nil | with_reducible refine VwL.cons ?_ ?_ | with_reducible exact Vw.anyI | with_reducible exact Vw.strI | with_reducible exact Vw.boolI | with_reducible exact Vw.intI | with_reducible exact Vw.nilsI | exact Vw.ptrI (by simp) rfl | exact Vw.slI (by simp) rfl | with_reducible refine Vw.aggI ?_ | exact Vw.gndI rfl))),rfl,.inr ⟨h.bad rfl,j,rfl⟩⟩
   | false =>
    obtain ⟨hj,he⟩:=h.run rfl
    simp only at hj he
    refine Safe.by mixed (envR_ok R) (f:=41) (fi:=fi41) (i:=0) (by kernel_rfl) (b:=.loop (loopOf fi41 0)) (by kernel_rfl) (subs_loop _) 1000 (vr41g R s w n bd 0 j (a + j) _) ?_
    refine hcB (fun hc => hcT rfl (hcT hc ⟨show (0:Int) <= ((a + j:Nat):Int) - 0 by omega,?_⟩)) fun hc => ?_
    ·have hlt:j < w.length:=by have:=of_decide_eq_true hc; omega
     have hst:=exN_step (s:=s) (a:=a + j) hlt
     rw [Int.toNat_natCast,wrapSucc j (by omega),wrapSucc (a + j) (by omega)]
     refine hcB (fun hd => ?_) fun hd => ?_
     ·have hd':(hbI s (a + j:Nat) == ((w.getD j 0).toNat:Nat)) = false:=by
       simp only [bne,Bool.not_eq_true'] at hd; exact hd
      rw [hd',he] at hst
      have e2:E = (false,a + j):=hst
      refine ⟨⟨(true,j + 1),⟨fun h => (by cases h),fun _ => (by show E.1 = false; rw [e2])⟩⟩,Nat.succ_pos _,?_⟩
      have e3:fam (true,j + 1) = fam41 s w n ((a + j:Nat):Int) 3 (j + 1) (a + j + 1):=by
       show fam41 s w n E.2 3 (j + 1) (E.2 + 1) = _
       rw [e2]
      rw [e3]
      exact Fit.row1 (rrow_g _ _ _ _ _) (by (repeat' (first | with_reducible exact VwL.nil | with_reducible refine VwL.cons ?_ ?_ | with_reducible exact Vw.anyI | with_reducible exact Vw.strI | with_reducible exact Vw.boolI | with_reducible exact Vw.intI | with_reducible exact Vw.nilsI | exact Vw.ptrI (by simp) rfl | exact Vw.slI (by simp) rfl | with_reducible refine Vw.aggI ?_ | exact Vw.gndI rfl)))
     ·have hd':(hbI s (a + j:Nat) == ((w.getD j 0).toNat:Nat)) = true:=by
       simp only [bne,Bool.not_eq_false'] at hd; exact hd
      rw [hd',he] at hst
      refine ⟨⟨(false,j + 1),⟨fun _ => ⟨hlt,hst.symm⟩,fun h => by cases h⟩⟩,by show w.length - (j + 1) + 1 < w.length - j + 1; omega,?_⟩
      show Fit 1 (fam41 s w n bd 0 (j + 1) (a + j + 1)) _
      exact Fit.row1 (rrow_g _ _ _ _ _) (by (repeat' (first | with_reducible exact VwL.nil | with_reducible refine VwL.cons ?_ ?_ | with_reducible exact Vw.anyI | with_reducible exact Vw.strI | with_reducible exact Vw.boolI | with_reducible exact Vw.intI | with_reducible exact Vw.nilsI | exact Vw.ptrI (by simp) rfl | exact Vw.slI (by simp) rfl | with_reducible refine Vw.aggI ?_ | exact Vw.gndI rfl)))
    ·have hge:j = w.length:=by have:=of_decide_eq_false hc; omega
     subst hge
     rw [List.drop_eq_nil_of_le (Nat.le_refl _)] at he
     have e2:E = (true,a + w.length):=he.symm
     refine ⟨fam41 s w n bd 0 w.length (a + w.length),Fit.row1 (rrow_g _ _ _ _ _) (by (repeat' (first | with_reducible exact VwL.nil | with_reducible refine VwL.cons ?_ ?_ | with_reducible exact Vw.anyI | with_reducible exact Vw.strI | with_reducible exact Vw.boolI | with_reducible exact Vw.intI | with_reducible exact Vw.nilsI | exact Vw.ptrI (by simp) rfl | exact Vw.slI (by simp) rfl | with_reducible refine Vw.aggI ?_ | exact Vw.gndI rfl))),rfl,.inl ⟨by rw [e2],by rw [e2]⟩⟩
  ·rintro e st ⟨e0,rfl,rfl,⟨h6,rfl⟩ | ⟨h6,j,rfl⟩⟩
   ·have h6':(exN s w a).1 = true:=h6
    rw [h6'] at hk; exact hk
   ·have h6':(exN s w a).1 = false:=h6
    rw [h6'] at hk; exact hk j
structure NE where
 kd:Int
 w:List UInt8
 kids:List Nat
 x:Nat
abbrev neV (e:NE):AV:=.agg [.int .i64 e.kd,.str e.w,.sl true (e.x + 15) 0 e.kids.length .no]
def dN:NE:=⟨0,[],[],0⟩
abbrev arow (N:List NE):Row:=.gen 62 3 N.length fun i => neV (N.getD i dN)
abbrev trow (c n:Nat) (root:Int):Row:=.lst 35 2 [.agg [.sl false c 0 n .no,.int .i64 root]]
abbrev kidN (kids:List Nat):RoRow:=⟨3,1,kids.length,fun i => .int .i64 ((kids.getD i 0:Nat):Int)⟩
theorem vc28 (R:RR) (N:List NE) (root kd:Int) (w:List UInt8) (x m:Nat) (Q:AV -> Rows -> Fz -> Prop) (F:Fz):vcx (bx R) 1000 28 fi28 [.ptr false 0 0 0,.agg [.int .i64 kd,.str w,.sl true (x + 15) 0 m .no]] [some (trow 1 N.length root),some (arow N)] Q F = (AV.sl false 1 0 N.length Cp.no = AV.sl false 1 0 N.length Cp.no /\ bif decide (0 + N.length <= N.length) && (true && (true && decide (((Src.gen N.length fun (j:Nat) => neV (N.getD (0 + j) dN)).len + 1) * 48 <= 140737488355328))) then Q (iI (IntKind.i64.wrap ((↑((Src.gen N.length fun (j:Nat) => neV (N.getD (0 + j) dN)).len + 1):Int) - 1))) [some (Row.lst 35 2 [AV.agg [AV.sl false 4 0 ((Src.gen N.length fun (j:Nat) => neV (N.getD (0 + j) dN)).len + 1) Cp.no,iI root]]),none,some (Row.lst 62 3 [AV.agg [iI kd,AV.str w,AV.sl true (x + 15) 0 m Cp.no]]),some (Row.lst 62 3 [AV.agg [iI kd,AV.str w,AV.sl true (x + 15) 0 m Cp.no]]),some (Row.gen 62 3 ((Src.gen N.length fun (j:Nat) => neV (N.getD (0 + j) dN)).len + 1) fun (j:Nat) => bif j.blt (Src.gen N.length fun (j:Nat) => neV (N.getD (0 + j) dN)).len then AV.agg [iI (N.getD (0 + j) dN).kd,AV.str (N.getD (0 + j) dN).w,AV.sl true ((N.getD (0 + j) dN).x + 15) 0 (N.getD (0 + j) dN).kids.length Cp.no] else (Src.lst [AV.agg [iI kd,AV.str w,AV.sl true (x + 15) 0 m Cp.no]]).at_ (j - (Src.gen N.length fun (j:Nat) => neV (N.getD (0 + j) dN)).len))] F else False):=by kernel_rfl
theorem arow_g (N:List NE):RowG (arow N):=⟨fun f n => .gen rfl fun i _ => ⟨rfl,gnd_vw _ _ _ rfl⟩,fun g => rfl⟩
theorem arow_app {f:Nat -> Option Nat} {n:Nat} (N:List NE) (e:NE):RowV f n (arow (N ++ [e])) (.gen 62 3 (N.length + 1) fun j => bif j.blt N.length then neV (N.getD (0 + j) dN) else (Src.lst [neV e]).at_ (j - N.length)):=by
 refine .gen (by simp) fun i hi => ⟨rfl,?_⟩
 have hi:i < N.length + 1:=by simpa using hi
 have:=app_gen (F:=fun j => neV (N.getD j dN)) (G:=fun i => neV ((N ++ [e]).getD i dN)) (n:=N.length) (e:=neV e) (fun j hj => by
  simp only [Nat.zero_add]
  rw [List.getD_eq_getElem?_getD,List.getD_eq_getElem?_getD,List.getElem?_append_left hj]) (by simp) i hi
 rw [this]
 exact gnd_vw _ _ _ rfl
theorem safe28 (R:RR) (N:List NE) (hN:N.length <= 100000) (root kd:Int) (w:List UInt8) (x:Nat) (kids:List Nat) (F:Fz) (HP:HPt) :
  SafeCallX Try.prog R 28 [.ptr false 0 0 0,.agg [.int .i64 kd,.str w,tok x kids.length]] [some (trow 1 N.length root),some (arow N)] F (fun v h' F' => v = .int .i64 (N.length:Nat) /\ h' = [some (trow 2 (N.length + 1) root),none,some (arow (N ++ [⟨kd,w,kids,x⟩]))] /\ F' = F) HP:=by
 refine SafeCallX.post (Q:=fun v h' F' => v = .int .i64 (N.length:Nat) /\ h' = [some (trow 4 (N.length + 1) root),none,some (.lst 62 3 [neV ⟨kd,w,kids,x⟩]),some (.lst 62 3 [neV ⟨kd,w,kids,x⟩]),some (.gen 62 3 (N.length + 1) fun j => bif j.blt N.length then neV (N.getD (0 + j) dN) else (Src.lst [neV ⟨kd,w,kids,x⟩]).at_ (j - N.length))] /\ F' = F) (HP:=fun _ _ _ => False) ?_ ?_ ?_
 ·refine SafeCallX.by mixed (bx_ok R [] _) (f:=28) (fi:=fi28) (by kernel_rfl) 1000 (vc28 R N root kd w x kids.length _ F) ⟨rfl,hcT ?_ ⟨?_,rfl,rfl⟩⟩
  ·have h1:(Src.gen N.length fun (j:Nat) => neV (N.getD (0 + j) dN)).len = N.length:=rfl
   rw [h1]
   simp only [Bool.and_eq_true,decide_eq_true_eq]
   refine ⟨by omega,trivial,trivial,by omega⟩
  ·have h1:(Src.gen N.length fun (j:Nat) => neV (N.getD (0 + j) dN)).len = N.length:=rfl
   rw [h1,wrapI64 _ (by omega) (by omega)]
   congr 1; omega
 ·rintro v h' F' _ ⟨rfl,rfl,rfl⟩
  refine ToV.fit (vE:=.int .i64 (N.length:Nat)) (hE:=[some (trow 2 (N.length + 1) root),none,some (arow (N ++ [⟨kd,w,kids,x⟩]))]) ⟨mvR 2 4,View.of ?_ (mvR_inj (by simp) (by simp)),Vw.intI,mvR_lt (n:=2) (by decide),by simp⟩ (ToV.here ⟨rfl,rfl,rfl⟩)
  intro c o ho
  match c with
  | 0 => cases ho; exact ViewL.at_ (b:=0) rfl rfl (.lst1 rfl (Vw.aggI (VwL.cons (Vw.slI (by simp) rfl) (VwL.cons Vw.intI VwL.nil))))
  | 1 => cases ho; exact ⟨fun r h => (by cases h),fun b hb => (by cases hb; simp)⟩
  | 2 => cases ho; exact ViewL.at_ (b:=4) rfl rfl (arow_app N ⟨kd,w,kids,x⟩)
  | c + 3 => cases ho
 ·rintro v h' F' _ h; exact h.elim
def addRows (h:Rows) (b c:Nat) (root:Int) (N:List NE):Rows:=(h.set b (some (trow (h.length + 2) N.length root))).set c none ++ [none,none,some (arow N)]
theorem add_at (R:RR) {h:Rows} {b c:Nat} {root:Int} {N:List NE} (hb:h.live b = some (trow c N.length root)) (hc:h.live c = some (arow N)) (hN:N.length <= 100000) (kd:Int) (w:List UInt8) (x:Nat) (kids:List Nat) (F:Fz) {k HP:AV -> Rows -> Fz -> Prop}
  (hk:k (.int .i64 (N.length:Nat)) (addRows h b c root (N ++ [⟨kd,w,kids,x⟩])) F):SafeCallX Try.prog R 28 [.ptr false b 0 0,.agg [.int .i64 kd,.str w,tok x kids.length]] h F k HP:=by
 have hne:b ≠ c:=fun e => by rw [e,hc] at hb; cases hb
 refine (SafeCallX.atN (Q:=fun v os tl F' => v = .int .i64 (N.length:Nat) /\ os = [some (trow 2 (N.length + 1) root),none] /\ tl = [some (arow (N ++ [⟨kd,w,kids,x⟩]))] /\ F' = F) (HP:=fun _ _ _ _ => False) [b,c] (hL:=[some (trow 1 N.length root),some (arow N)]) rfl (by simp [hne]) (fun d hd => by
   simp only [List.mem_cons,List.not_mem_nil,or_false] at hd
   rcases hd with rfl | rfl
   ·exact live_lt hb
   ·exact live_lt hc) (fun d r hd => by
   match d with
   | 0 => cases hd; exact ⟨b,_,rfl,hb,.lst1 rfl (Vw.aggI (VwL.cons (Vw.slI (by simp) rfl) (VwL.cons Vw.intI VwL.nil)))⟩
   | 1 => cases hd; exact ⟨c,_,rfl,hc,(arow_g N).vw _ _⟩
   | d + 2 => simp [Rows.live] at hd) (VwL.cons (Vw.ptrI (by simp) rfl) (VwL.cons (Vw.gndI rfl) VwL.nil)) ((safe28 R N hN root kd w x kids F (fun _ _ _ => False)).mono ?_ ?_)).mono ?_ ?_
 ·rintro v h' F' _ ⟨rfl,rfl,rfl⟩
  exact ⟨[some (trow 2 (N.length + 1) root),none],[some (arow (N ++ [⟨kd,w,kids,x⟩]))],rfl,rfl,rfl,rfl,rfl,rfl⟩
 ·rintro v h' F' _ h; exact h.elim
 ·rintro v h' F' _ ⟨v0,os,tl,rfl,rfl,rfl,rfl,rfl,rfl⟩
  have e:addRows h b c root (N ++ [⟨kd,w,kids,x⟩]) = layAt h [b,c] (List.map (Option.map (renRow (gP [b,c] h.length))) [some (trow 2 (N.length + 1) root),none]) ++ (List.replicate 2 none ++ List.map (Option.map (renRow (gP [b,c] h.length))) [some (arow (N ++ [⟨kd,w,kids,x⟩]))]):=by
   unfold addRows
   have:(N ++ [(⟨kd,w,kids,x⟩:NE)]).length = N.length + 1:=by simp
   rw [this]; rfl
  rw [e] at hk
  exact hk
 ·rintro v h' F' _ ⟨v0,os,tl,_,_,h⟩; exact h.elim
theorem SafeCallX.argsD {P:Program} {R:RR} {f:FuncId} {args args':List AV} {h:Rows} {F:Fz} {Q HP:AV -> Rows -> Fz -> Prop} (hd:∀ (m:Map) n vs,Named m -> DenL m n args vs -> DenL m n args' vs) (hs:SafeCallX P R f args' h F Q HP):SafeCallX P R f args h F Q HP :=
 fun m w m0 h0 w0 F0 vas has hW hf hst hl => hs m w m0 h0 w0 F0 vas (hd _ _ _ hf.ro has) hW hf hst hl
def atT {α:Type} (bot:α) (h:Rows) (b:Nat) (φ:Nat -> Nat -> Int -> α):α :=
 match h.live b with
 | some (.lst 35 2 [.agg [.sl false c 0 n .no,.int .i64 root]]) => φ c n root
 | _ => bot
theorem atT_or {α:Type} (bot:α) (h:Rows) (b:Nat) (φ:Nat -> Nat -> Int -> α):atT bot h b φ = bot \/ ∃ c n root,h.live b = some (trow c n root) /\ atT bot h b φ = φ c n root:=by
 unfold atT
 split
 ·rename_i c n root e; exact .inr ⟨c,n,root,e,rfl⟩
 ·exact .inl rfl
theorem atT_ofX {h:Rows} {b:Nat} {F:Fz} {φ:Nat -> Nat -> Int -> Fz -> Prop} (hh:atT botX h b φ F):∃ c n root,h.live b = some (trow c n root) /\ φ c n root F:=by
 rcases atT_or botX h b φ with e | ⟨c,n,root,e1,e2⟩
 ·rw [e] at hh; exact hh.elim
 ·rw [e2] at hh; exact ⟨c,n,root,e1,hh⟩
structure FrK (F:Fz) (x:Nat) (kids:List Nat):Prop where
 fr:Frz F x (kidN kids)
def spec28:CallSpecX:=fun args h k => match args with
 | [.ptr false b 0 0,.agg [.int .i64 kd,.str w,.nils]] => atT botX h b fun c n root => fun F => ∃ N,n = N.length /\ h.live c = some (arow N) /\ N.length <= 100000 /\ k (.int .i64 (N.length:Nat)) (addRows h b c root (N ++ [⟨kd,w,[],0⟩])) F
 | [.ptr false b 0 0,.agg [.int .i64 kd,.str w,.sl false d 0 m _]] => fun F => ∃ r kids,h.live d = some r /\ RoOf r (kidN kids) /\ m = kids.length /\ ∀ F' x,Up F F' -> FrK F' x kids ->
   atT botX ((tkRows d x h).set d none) b (fun c n root => fun F' => ∃ N,n = N.length /\ Rows.live ((tkRows d x h).set d none) c = some (arow N) /\ N.length <= 100000 /\ k (.int .i64 (N.length:Nat)) (addRows ((tkRows d x h).set d none) b c root (N ++ [⟨kd,w,kids,x⟩])) F') F'
 | _ => botX
theorem spec28_ok (R:RR) (HP:HPt):∀ args h k F,spec28 args h k F -> SafeCallX Try.prog R 28 args h F k HP:=by
 intro args h k F hk
 unfold spec28 at hk
 split at hk
 ·rename_i b kd w
  obtain ⟨c,n,root,hb,N,rfl,hc,hN,hk⟩:=atT_ofX hk
  refine SafeCallX.argsD ?_ (add_at R hb hc hN kd w 0 [] F hk)
  intro m n vs hm hd
  obtain ⟨u,us,rfl,hu,v,us',rfl,hv,rfl⟩:=hd
  refine ⟨u,_,rfl,hu,v,_,rfl,?_,rfl⟩
  simp only [Den,DenL] at hv
  obtain ⟨ws,rfl,v1,_,e1,h1,v2,_,rfl,h2,v3,_,rfl,h3,rfl⟩:=hv
  show ∃ vs':Array Value,_ /\ DenL m n [.int .i64 kd,.str w,tok 0 0] vs'.toList
  refine ⟨ws,rfl,?_⟩
  rw [e1]
  exact ⟨v1,_,rfl,by simpa only [Den] using h1,v2,_,rfl,by simpa only [Den] using h2,v3,_,rfl,nils_tok hm (by simp only [Den]; exact h3),rfl⟩
 ·rename_i b kd w d m cp
  obtain ⟨r,kids,hd,hr,rfl,hk⟩:=hk
  refine SafeCallX.freeze d hd hr fun F' x hle hfr => ?_
  obtain ⟨c,n,root,hb,N,rfl,hc,hN,hk⟩:=atT_ofX (hk F' x ⟨hle⟩ ⟨hfr⟩)
  have e:[AV.ptr false b 0 0,.agg [.int .i64 kd,.str w,.sl false d 0 kids.length cp]].map (tk2 d x) = [.ptr false b 0 0,.agg [.int .i64 kd,.str w,tok x kids.length]]:=by
   show [AV.ptr false b 0 0,.agg [.int .i64 kd,.str w,tk1 d x (.sl false d 0 kids.length cp)]] = _
   unfold tk1
   simp only [Nat.beq_refl,cond_true]
  rw [e]
  exact add_at R hb hc hN kd w x kids F' hk
 ·exact hk.elim
def spec41:CallSpec:=fun args h k => match args with
 | [.ptr false b 0 0,.str w] => atR False h b fun s p n bd er => ∃ a:Nat,p = a /\ a <= 200000 /\ w.length <= 100000 /\
   bif er == 0 then (bif (exN s w a).1 then k (.tup []) (h.set b (some (rrow s (exN s w a).2 n bd 0))) else k (.tup []) (h.set b (some (rrow s ((exN s w a).2 + 1:Nat) n (exN s w a).2 3)))) else k (.tup []) h
 | _ => False
theorem env41_ok (R:RR) (s w:List UInt8) (n bd er:Int) (a:Nat) (ha:a <= 200000) (hw:w.length <= 100000):EnvOK Try.prog (env41 R s w n bd er a) id:=(envR_ok R).addLoop (f:=41) (fi:=fi41) (by kernel_rfl) (i:=0) (body:=.loop (loopOf fi41 0)) (by kernel_rfl) (loop41 R s w n bd er a ha hw)
theorem spec41_ok (R:RR):∀ args h k,spec41 args h k -> SafeCall Try.prog R 41 args h k:=by
 intro args h k hk
 unfold spec41 at hk
 split at hk
 ·rename_i b w
  obtain ⟨s,p,n,bd,er,hb,a,rfl,ha,hw,hk⟩:=atR_of hk
  refine (SafeCall.at1 (Q:=fun v r' => v = .tup [] /\ r' = bif er == 0 then (bif (exN s w a).1 then rrow s (exN s w a).2 n bd 0 else rrow s ((exN s w a).2 + 1:Nat) n (exN s w a).2 3) else rrow s a n bd er) hb (rrow_g _ _ _ _ _) (VwL.cons (Vw.ptrI (by decide) rfl) (VwL.cons Vw.strI VwL.nil)) (SafeCall.by mixed (env41_ok R s w n bd er a ha hw) (f:=41) (fi:=fi41) (by kernel_rfl) 1000 (vc41 R s w n bd er a _) ⟨ha,hw,rfl,rfl,rfl,rfl,rfl,?_⟩)).mono ?_
  ·cases e:er == 0 with
   | true =>
    cases e2:(exN s w a).1 with
    | true => exact ⟨_,_,rfl,rfl,rrow_g _ _ _ _ _,rfl,rfl⟩
    | false => exact fun j => ⟨_,_,rfl,rfl,rrow_g _ _ _ _ _,rfl,rfl⟩
   | false => exact ⟨_,_,rfl,rfl,rrow_g _ _ _ _ _,rfl,rfl⟩
  ·rintro v h' ⟨r',rfl,rfl,rfl⟩
   cases e:er == 0 with
   | true =>
    rw [e] at hk
    cases e2:(exN s w a).1 with
    | true => rw [e2] at hk; exact hk
    | false => rw [e2] at hk; exact hk
   | false => rw [e] at hk; simp only [cond_false]; rw [live_set_self hb]; exact hk
 ·exact hk.elim
mutual
def TrN (N:List NE):Tr -> Nat -> Prop
 | .mk k w ts,i => ∃ e,N[i]? = some e /\ e.kd = (k:Nat) /\ e.w = w /\ TrNs N ts e.kids
def TrNs (N:List NE):List Tr -> List Nat -> Prop
 | [],[] => True
 | t :: ts,i :: is => TrN N t i /\ TrNs N ts is
 | [],_ :: _ => False
 | _ :: _,[] => False
end
mutual
theorem TrN.ext {N:List NE} (l:List NE):∀ (t:Tr) (i:Nat),TrN N t i -> TrN (N ++ l) t i
 | .mk k w ts,i,h => by
  simp only [TrN] at h ⊢
  obtain ⟨e,h1,h2,h3,h4⟩:=h
  refine ⟨e,?_,h2,h3,TrNs.ext l ts e.kids h4⟩
  rw [List.getElem?_append_left (List.getElem?_eq_some_iff.1 h1).1]; exact h1
theorem TrNs.ext {N:List NE} (l:List NE):∀ (ts:List Tr) (is:List Nat),TrNs N ts is -> TrNs (N ++ l) ts is
 | [],[],h => by simp only [TrNs]
 | t :: ts,i :: is,h => by
  simp only [TrNs] at h ⊢
  exact ⟨TrN.ext l t i h.1,TrNs.ext l ts is h.2⟩
 | [],_ :: _,h => by simp only [TrNs] at h
 | _ :: _,[],h => by simp only [TrNs] at h
end
theorem TrNs.snoc {N:List NE} {t:Tr} {i:Nat} (ht:TrN N t i):∀ (ts:List Tr) (is:List Nat),TrNs N ts is -> TrNs N (ts ++ [t]) (is ++ [i])
 | [],[],h => by simp only [List.nil_append,TrNs,and_true]; exact ht
 | u :: ts,j :: is,h => by
  simp only [TrNs,List.cons_append] at h ⊢
  exact ⟨h.1,TrNs.snoc ht ts is h.2⟩
 | [],_ :: _,h => by simp only [TrNs] at h
 | _ :: _,[],h => by simp only [TrNs] at h
theorem TrNs.len {N:List NE}:∀ (ts:List Tr) (is:List Nat),TrNs N ts is -> ts.length = is.length
 | [],[],h => rfl
 | u :: ts,j :: is,h => by
  simp only [TrNs] at h
  simp only [List.length_cons,TrNs.len ts is h.2]
 | [],_ :: _,h => by simp only [TrNs] at h
 | _ :: _,[],h => by simp only [TrNs] at h
structure NF (F:Fz) (N:List NE):Prop where
 is:∀ e ∈ N,Frz F e.x (kidN e.kids)
theorem NF.le {F F':Fz} {N:List NE} (h:NF F N) (hu:Up F F'):NF F' N:=⟨fun e he => (h.is e he).le hu.le⟩
theorem NF.snoc {F:Fz} {N:List NE} {e:NE} (h:NF F N) (he:Frz F e.x (kidN e.kids)):NF F (N ++ [e]):=⟨fun d hd => by
 rcases List.mem_append.1 hd with hd | hd
 ·exact h.is d hd
 ·simp only [List.mem_cons,List.not_mem_nil,or_false] at hd; rw [hd]; exact he⟩
theorem frz0 (F:Fz):Frz F 0 (kidN []):=.inl ⟨rfl,rfl⟩
structure Mo (N N':List NE):Prop where
 pre:N <+: N'
theorem Mo.refl (N:List NE):Mo N N:=⟨List.prefix_refl N⟩
theorem Mo.trans {A B C:List NE} (h:Mo A B) (g:Mo B C):Mo A C:=⟨h.pre.trans g.pre⟩
theorem Mo.snoc (N:List NE) (e:NE):Mo N (N ++ [e]):=⟨List.prefix_append _ _⟩
theorem Mo.trs {N N':List NE} (h:Mo N N') {t:List Tr} {i:List Nat} (ht:TrNs N t i):TrNs N' t i:=by
 obtain ⟨l,rfl⟩:=h.pre
 exact TrNs.ext l t i ht
structure ROk (s:List UInt8) (a:Nat) (N:List NE) (F:Fz) (t:Tr) (a1:Nat) (N':List NE) (i:Nat) (F':Fz):Prop where
 mo:Mo N N'
 nf:NF F' N'
 up:Up F F'
 tr:TrN N' t i
 room:N'.length + 4 * (s.length - a1) + 3 <= N.length + 4 * (s.length - a)
structure RErr (s:List UInt8) (a:Nat) (N:List NE) (F:Fz) (N':List NE) (F':Fz):Prop where
 mo:Mo N N'
 nf:NF F' N'
 up:Up F F'
 room:N'.length <= N.length + 4 * (s.length - a) + 1
structure RIn (s:List UInt8) (a:Nat) (N:List NE) (F:Fz):Prop where
 nf:NF F N
 le:a <= s.length
 sm:s.length <= 256
 room:N.length + 4 * (s.length - a) + 1 <= 2000
def refRows (h:Rows) (b c d:Nat) (s:List UInt8) (p n bd er root:Int) (N:List NE):Rows:=(((h.set b (some (rrow s p n bd er))).set c (some (trow (h.length + 3) N.length root))).set d none) ++ [none,none,none,some (arow N)]
def specRef (s:List UInt8) (n:Nat) (r:Nat -> PR) (b c:Nat):Rows -> (AV -> Rows -> Fz -> Prop) -> Fz -> Prop:=fun h k =>
 atR botX h b fun s' p n' bd er => atT botX h c fun d nn root => fun F => ∃ (N:List NE) (a:Nat),s' = s /\ p = a /\ n' = (n:Nat) /\ bd = 0 /\ er = 0 /\ nn = N.length /\ h.live d = some (arow N) /\ RIn s a N F /\
  (∀ t a1,r a = .ok t a1 -> ∀ N' i F',ROk s a N F t a1 N' i F' -> k (.int .i64 (i:Nat)) (refRows h b c d s (a1:Nat) (n:Nat) 0 0 root N') F') /\
  (∀ a' e,r a = .err a' e -> ∀ (p':Nat) (N':List NE) (v:Int) F',p' <= 200000 -> RErr s a N F N' F' -> k (.int .i64 v) (refRows h b c d s (p':Nat) (n:Nat) (a':Nat) (e:Nat) root N') F')
def spec31 (s:List UInt8) (n:Nat) (r:Nat -> PR):CallSpecX:=fun args h k => match args with
 | [.ptr false b 0 0,.ptr false c 0 0] => specRef s n r b c h k
 | _ => botX
def spec23 (s:List UInt8) (n:Nat) (kk:Int) (r:Nat -> PR):CallSpecX:=fun args h k => match args with
 | [.ptr false b 0 0,.ptr false c 0 0,.int .i64 j] => fun F => j = kk /\ n <= 16 /\ specRef s n r b c h k F
 | _ => botX
noncomputable abbrev envP (R:RR):EnvX:=((((((bx R).addCall 33 (liftC spec33)).addCall 34 (liftC spec34)).addCall 24 (liftC spec24)).addCall 32 (liftC spec32)).addCall 40 (liftC spec40)).addCall 41 (liftC spec41)
theorem envP_ok (R:RR) (HP:HPt):OKX Try.prog (envP R) [] HP :=
 ((((((bx_ok R [] HP).addCall (f:=33) (fi:=fi33) (by kernel_rfl) (liftC_ok (spec33_ok R))).addCall (f:=34) (fi:=fi34) (by kernel_rfl) (liftC_ok (spec34_ok R))).addCall (f:=24) (fi:=fi24) (by kernel_rfl) (liftC_ok (spec24_ok R))).addCall (f:=32) (fi:=fi32) (by kernel_rfl) (liftC_ok (spec32_ok R))).addCall (f:=40) (fi:=fi40) (by kernel_rfl) (liftC_ok (spec40_ok R))).addCall (f:=41) (fi:=fi41) (by kernel_rfl) (liftC_ok (spec41_ok R))
noncomputable abbrev envI (R:RR) (s:List UInt8) (n:Nat) (alt:Nat -> PR):EnvX:=((envP R).addCall 28 spec28).addCall 23 (spec23 s (n + 1) 0 alt)
noncomputable abbrev tm31 (v:AV):List AV:=[.ptr false 0 0 0,.ptr false 1 0 0,.any,.any,.any,v,.any,.any,.any,.any,.any,.any,.any,.any,.any,.any,.any,.any,.any,.any,.any,.any,.any,.any,.any,.any,.any,.any,.any,.any,.any,.any,.any,.any,.any,.any,.any,.any,.any,.any,.any,.any,.any,.any,.any,.any,.any,.any,.any,.any,.any,.any,.any,.any,.any,.any,.any,.any,.any,.any,.any,.any,.any,.any,.any,.any,.any,.any,.any,.any,.any,.any,.any,.any,.any,.any,.any,.any,.any,.any,.any,.any,.any,.any,.any,.any,.any,.any,.any,.any,.any,.any,.any,.any,.any,.any,.any,.any,.any,.any,.any,.any,.any,.any,.any,.any,.any,.any,.any,.any,.any,.any,.any,.any,.any,.any,.any,.any,.any,.any,.any,.any,.any,.any,.any,.any]
noncomputable abbrev fam31 (s:List UInt8) (p n:Nat) (bd er:Int) (root:Int) (N:List NE) (i:Int):St:=⟨tm31 (.int .i64 i),[some (rrow s p n bd er),some (trow 7 N.length root),none,none,none,none,none,some (arow N)]⟩
structure RMk (s:List UInt8) (p:Nat) (N:List NE) (F:Fz) (t:Tr) (i:Nat):Prop where
 nf:NF F N
 le:p <= s.length
 sm:s.length <= 256
 tr:TrN N t i
 room:N.length + 4 * (s.length - p) <= 2000
structure RMo (s:List UInt8) (p:Nat) (N:List NE) (F:Fz) (t:Tr) (p1:Nat) (N':List NE) (i:Nat) (F':Fz):Prop where
 mo:Mo N N'
 nf:NF F' N'
 up:Up F F'
 tr:TrN N' t i
 room:N'.length + 4 * (s.length - p1) <= N.length + 4 * (s.length - p)
def mks (s:List UInt8) (t:Tr) (p:Nat):Tr × Nat:=pMarks s (s.length + 1) t p
def lp31 (s:List UInt8) (n:Nat):LoopSpX:=fun st k F => st.tmps.length = 126 /\ nthV st.tmps 0 = .ptr false 0 0 0 /\ nthV st.tmps 1 = .ptr false 1 0 0 /\ st.rows.length <= 7 /\
 ∃ (p:Nat) (bd er v root:Int) (d:Nat) (N:List NE),nthV st.tmps 5 = .int .i64 v /\ st.rows.live 0 = some (rrow s p (n:Nat) bd er) /\ st.rows.live 1 = some (trow d N.length root) /\ st.rows.live d = some (arow N) /\
  bif er == 0 then bd = 0 /\ ∃ (i:Nat) (t:Tr),v = i /\ RMk s p N F t i /\ ∀ N' i' F',RMo s p N F (mks s t p).1 (mks s t p).2 N' i' F' -> k .normal (fam31 s (mks s t p).2 n 0 0 root N' (i':Nat)) F' else k .normal (fam31 s p n bd er root N v) F
noncomputable abbrev envIl (R:RR) (s:List UInt8) (n:Nat) (alt:Nat -> PR):EnvX:=(envI R s n alt).addLoop 31 1 (lp31 s n)
theorem vr31 (R:RR) (s:List UInt8) (p n:Nat) (bd er root v:Int) (N:List NE) (k:Exit -> St -> Fz -> Prop) (F:Fz):rnx ((envP R).addCall 28 spec28) 1000 31 (loopOf fi31 1) (fam31 s p n bd er root N v) k F = (bif er == 0 then ((↑p:Int) - 0).NonNeg /\ bif hbI s (↑p:Int) == 42 then ∃ (r:Row),∃ (kids:List Nat),some (Row.lst 3 1 [iI v]) = some r /\ RoOf r (RoRow.mk 3 1 kids.length fun (i:Nat) => iI (↑(kids.getD i 0):Int)) /\ 1 = kids.length /\ ∀ (F':Fz) (x:Nat),Up F F' -> FrK F' x kids -> ∃ (N_1:List NE),N.length = N_1.length /\ some (Row.gen 62 3 N.length fun (i:Nat) => tkE 8 x (AV.agg [iI (N.getD i dN).kd,AV.str (N.getD i dN).w,AV.sl true ((N.getD i dN).x + 15) 0 (N.getD i dN).kids.length Cp.no])) = some (Row.gen 62 3 N_1.length fun (i:Nat) => neV (N_1.getD i dN)) /\ N_1.length.le 100000 /\ ∃ (a:Nat),IntKind.i64.wrap ((↑p:Int) + 1) = (↑a:Int) /\ s.length.le 100000 /\ k Exit.normal (St.mk [AV.ptr false 0 0 0,AV.ptr false 1 0 0,AV.any,AV.any,AV.any,iI (↑N_1.length:Int),AV.any,AV.any,iI 7,AV.any,AV.any,AV.any,AV.any,AV.any,AV.any,AV.any,AV.any,AV.any,AV.any,AV.any,AV.any,AV.any,AV.any,AV.any,AV.any,AV.any,AV.any,AV.any,AV.any,AV.any,AV.any,AV.any,AV.any,AV.any,AV.any,AV.any,AV.any,AV.any,AV.any,AV.any,AV.any,AV.any,AV.any,AV.any,AV.any,AV.any,AV.any,AV.any,AV.any,AV.any,AV.any,AV.any,AV.any,AV.any,AV.any,AV.any,AV.any,AV.any,AV.any,AV.any,AV.any,AV.any,AV.any,AV.any,AV.any,AV.any,AV.any,AV.any,AV.any,AV.any,AV.any,AV.any,AV.any,AV.any,AV.any,AV.any,AV.any,AV.any,AV.any,AV.any,AV.any,AV.any,AV.any,AV.any,AV.any,AV.any,AV.any,AV.any,AV.any,AV.any,AV.any,AV.any,AV.any,AV.any,AV.any,AV.ptr false 0 0 0,AV.ptr false 0 0 0,AV.ptr false 0 0 4,iI er,AV.bool true,AV.ptr false 0 0 0,AV.int IntKind.u8 (hbI s (↑p:Int)),AV.bool true,AV.bool (hbI s (↑p:Int) == 42),AV.any,AV.any,AV.any,AV.any,iI 7,AV.bool false,AV.ptr false 1 0 0,iI 7,iI v,AV.sl false 8 0 1 Cp.tight,AV.agg [iI 7,AV.str [],AV.sl false 8 0 1 Cp.tight],iI (↑N_1.length:Int),AV.ptr false 0 0 0,AV.ptr false 0 0 0,AV.ptr false 0 0 1,iI (↑p:Int),iI (IntKind.i64.wrap ((↑p:Int) + 1)),AV.ptr false 0 0 0,AV.ptr false 0 0 1,AV.ptr false 0 0 0,AV.tup [],AV.any] [some (Row.lst 57 5 [AV.agg [AV.str s,iI (↑(blk s a):Int),iI (↑n:Int),iI bd,iI er]]),some (Row.lst 35 2 [AV.agg [AV.sl false 11 0 (N_1 ++ [NE.mk 7 [] kids x]).length Cp.no,iI root]]),none,none,none,none,none,none,none,none,none,some (Row.gen 62 3 (N_1 ++ [NE.mk 7 [] kids x]).length fun (i:Nat) => neV ((N_1 ++ [NE.mk 7 [] kids x]).getD i dN))]) F' else bif hbI s (↑p:Int) == 43 then ∃ (r:Row),∃ (kids:List Nat),some (Row.lst 3 1 [iI v]) = some r /\ RoOf r (RoRow.mk 3 1 kids.length fun (i:Nat) => iI (↑(kids.getD i 0):Int)) /\ 1 = kids.length /\ ∀ (F':Fz) (x:Nat),Up F F' -> FrK F' x kids -> ∃ (N_1:List NE),N.length = N_1.length /\ some (Row.gen 62 3 N.length fun (i:Nat) => tkE 8 x (AV.agg [iI (N.getD i dN).kd,AV.str (N.getD i dN).w,AV.sl true ((N.getD i dN).x + 15) 0 (N.getD i dN).kids.length Cp.no])) = some (Row.gen 62 3 N_1.length fun (i:Nat) => neV (N_1.getD i dN)) /\ N_1.length.le 100000 /\ ∃ (a:Nat),IntKind.i64.wrap ((↑p:Int) + 1) = (↑a:Int) /\ s.length.le 100000 /\ k Exit.normal (St.mk [AV.ptr false 0 0 0,AV.ptr false 1 0 0,AV.any,AV.any,AV.any,iI (↑N_1.length:Int),AV.any,AV.any,iI 8,AV.any,AV.any,AV.any,AV.any,AV.any,AV.any,AV.any,AV.any,AV.any,AV.any,AV.any,AV.any,AV.any,AV.any,AV.any,AV.any,AV.any,AV.any,AV.any,AV.any,AV.any,AV.any,AV.any,AV.any,AV.any,AV.any,AV.any,AV.any,AV.any,AV.any,AV.any,AV.any,AV.any,AV.any,AV.any,AV.any,AV.any,AV.any,AV.any,AV.any,AV.any,AV.any,AV.any,AV.any,AV.any,AV.any,AV.any,AV.any,AV.any,AV.any,AV.any,AV.any,AV.any,AV.any,AV.any,AV.any,AV.any,AV.any,AV.any,AV.any,AV.any,AV.any,AV.any,AV.any,AV.any,AV.any,AV.any,AV.any,AV.any,AV.any,AV.any,AV.any,AV.any,AV.any,AV.any,AV.any,AV.any,AV.any,AV.any,AV.any,AV.any,AV.any,AV.any,AV.any,AV.any,AV.any,AV.ptr false 0 0 0,AV.ptr false 0 0 0,AV.ptr false 0 0 4,iI er,AV.bool true,AV.ptr false 0 0 0,AV.int IntKind.u8 (hbI s (↑p:Int)),AV.bool false,AV.bool (hbI s (↑p:Int) == 42),AV.bool true,AV.bool (hbI s (↑p:Int) == 43),AV.any,AV.any,iI 8,AV.bool false,AV.ptr false 1 0 0,iI 8,iI v,AV.sl false 8 0 1 Cp.tight,AV.agg [iI 8,AV.str [],AV.sl false 8 0 1 Cp.tight],iI (↑N_1.length:Int),AV.ptr false 0 0 0,AV.ptr false 0 0 0,AV.ptr false 0 0 1,iI (↑p:Int),iI (IntKind.i64.wrap ((↑p:Int) + 1)),AV.ptr false 0 0 0,AV.ptr false 0 0 1,AV.ptr false 0 0 0,AV.tup [],AV.any] [some (Row.lst 57 5 [AV.agg [AV.str s,iI (↑(blk s a):Int),iI (↑n:Int),iI bd,iI er]]),some (Row.lst 35 2 [AV.agg [AV.sl false 11 0 (N_1 ++ [NE.mk 8 [] kids x]).length Cp.no,iI root]]),none,none,none,none,none,none,none,none,none,some (Row.gen 62 3 (N_1 ++ [NE.mk 8 [] kids x]).length fun (i:Nat) => neV ((N_1 ++ [NE.mk 8 [] kids x]).getD i dN))]) F' else bif hbI s (↑p:Int) == 63 then ∃ (r:Row),∃ (kids:List Nat),some (Row.lst 3 1 [iI v]) = some r /\ RoOf r (RoRow.mk 3 1 kids.length fun (i:Nat) => iI (↑(kids.getD i 0):Int)) /\ 1 = kids.length /\ ∀ (F':Fz) (x:Nat),Up F F' -> FrK F' x kids -> ∃ (N_1:List NE),N.length = N_1.length /\ some (Row.gen 62 3 N.length fun (i:Nat) => tkE 8 x (AV.agg [iI (N.getD i dN).kd,AV.str (N.getD i dN).w,AV.sl true ((N.getD i dN).x + 15) 0 (N.getD i dN).kids.length Cp.no])) = some (Row.gen 62 3 N_1.length fun (i:Nat) => neV (N_1.getD i dN)) /\ N_1.length.le 100000 /\ ∃ (a:Nat),IntKind.i64.wrap ((↑p:Int) + 1) = (↑a:Int) /\ s.length.le 100000 /\ k Exit.normal (St.mk [AV.ptr false 0 0 0,AV.ptr false 1 0 0,AV.any,AV.any,AV.any,iI (↑N_1.length:Int),AV.any,AV.any,iI 9,AV.any,AV.any,AV.any,AV.any,AV.any,AV.any,AV.any,AV.any,AV.any,AV.any,AV.any,AV.any,AV.any,AV.any,AV.any,AV.any,AV.any,AV.any,AV.any,AV.any,AV.any,AV.any,AV.any,AV.any,AV.any,AV.any,AV.any,AV.any,AV.any,AV.any,AV.any,AV.any,AV.any,AV.any,AV.any,AV.any,AV.any,AV.any,AV.any,AV.any,AV.any,AV.any,AV.any,AV.any,AV.any,AV.any,AV.any,AV.any,AV.any,AV.any,AV.any,AV.any,AV.any,AV.any,AV.any,AV.any,AV.any,AV.any,AV.any,AV.any,AV.any,AV.any,AV.any,AV.any,AV.any,AV.any,AV.any,AV.any,AV.any,AV.any,AV.any,AV.any,AV.any,AV.any,AV.any,AV.any,AV.any,AV.any,AV.any,AV.any,AV.any,AV.any,AV.any,AV.any,AV.any,AV.any,AV.ptr false 0 0 0,AV.ptr false 0 0 0,AV.ptr false 0 0 4,iI er,AV.bool true,AV.ptr false 0 0 0,AV.int IntKind.u8 (hbI s (↑p:Int)),AV.bool false,AV.bool (hbI s (↑p:Int) == 42),AV.bool false,AV.bool (hbI s (↑p:Int) == 43),AV.bool true,AV.bool (hbI s (↑p:Int) == 63),iI 9,AV.bool false,AV.ptr false 1 0 0,iI 9,iI v,AV.sl false 8 0 1 Cp.tight,AV.agg [iI 9,AV.str [],AV.sl false 8 0 1 Cp.tight],iI (↑N_1.length:Int),AV.ptr false 0 0 0,AV.ptr false 0 0 0,AV.ptr false 0 0 1,iI (↑p:Int),iI (IntKind.i64.wrap ((↑p:Int) + 1)),AV.ptr false 0 0 0,AV.ptr false 0 0 1,AV.ptr false 0 0 0,AV.tup [],AV.any] [some (Row.lst 57 5 [AV.agg [AV.str s,iI (↑(blk s a):Int),iI (↑n:Int),iI bd,iI er]]),some (Row.lst 35 2 [AV.agg [AV.sl false 11 0 (N_1 ++ [NE.mk 9 [] kids x]).length Cp.no,iI root]]),none,none,none,none,none,none,none,none,none,some (Row.gen 62 3 (N_1 ++ [NE.mk 9 [] kids x]).length fun (i:Nat) => neV ((N_1 ++ [NE.mk 9 [] kids x]).getD i dN))]) F' else k (Exit.exit 1) (St.mk [AV.ptr false 0 0 0,AV.ptr false 1 0 0,AV.any,AV.any,AV.any,iI v,AV.any,AV.any,iI 0,AV.any,AV.any,AV.any,AV.any,AV.any,AV.any,AV.any,AV.any,AV.any,AV.any,AV.any,AV.any,AV.any,AV.any,AV.any,AV.any,AV.any,AV.any,AV.any,AV.any,AV.any,AV.any,AV.any,AV.any,AV.any,AV.any,AV.any,AV.any,AV.any,AV.any,AV.any,AV.any,AV.any,AV.any,AV.any,AV.any,AV.any,AV.any,AV.any,AV.any,AV.any,AV.any,AV.any,AV.any,AV.any,AV.any,AV.any,AV.any,AV.any,AV.any,AV.any,AV.any,AV.any,AV.any,AV.any,AV.any,AV.any,AV.any,AV.any,AV.any,AV.any,AV.any,AV.any,AV.any,AV.any,AV.any,AV.any,AV.any,AV.any,AV.any,AV.any,AV.any,AV.any,AV.any,AV.any,AV.any,AV.any,AV.any,AV.any,AV.any,AV.any,AV.any,AV.any,AV.any,AV.any,AV.any,AV.ptr false 0 0 0,AV.ptr false 0 0 0,AV.ptr false 0 0 4,iI er,AV.bool true,AV.ptr false 0 0 0,AV.int IntKind.u8 (hbI s (↑p:Int)),AV.bool false,AV.bool (hbI s (↑p:Int) == 42),AV.bool false,AV.bool (hbI s (↑p:Int) == 43),AV.bool false,AV.bool (hbI s (↑p:Int) == 63),iI 0,AV.bool true,AV.any,AV.any,AV.any,AV.any,AV.any,AV.any,AV.any,AV.any,AV.any,AV.any,AV.any,AV.any,AV.any,AV.any,AV.any,AV.any] [some (Row.lst 57 5 [AV.agg [AV.str s,iI (↑p:Int),iI (↑n:Int),iI bd,iI er]]),some (Row.lst 35 2 [AV.agg [AV.sl false 7 0 N.length Cp.no,iI root]]),none,none,none,none,none,some (Row.gen 62 3 N.length fun (i:Nat) => neV (N.getD i dN))]) F else k (Exit.exit 1) (St.mk [AV.ptr false 0 0 0,AV.ptr false 1 0 0,AV.any,AV.any,AV.any,iI v,AV.any,AV.any,AV.any,AV.any,AV.any,AV.any,AV.any,AV.any,AV.any,AV.any,AV.any,AV.any,AV.any,AV.any,AV.any,AV.any,AV.any,AV.any,AV.any,AV.any,AV.any,AV.any,AV.any,AV.any,AV.any,AV.any,AV.any,AV.any,AV.any,AV.any,AV.any,AV.any,AV.any,AV.any,AV.any,AV.any,AV.any,AV.any,AV.any,AV.any,AV.any,AV.any,AV.any,AV.any,AV.any,AV.any,AV.any,AV.any,AV.any,AV.any,AV.any,AV.any,AV.any,AV.any,AV.any,AV.any,AV.any,AV.any,AV.any,AV.any,AV.any,AV.any,AV.any,AV.any,AV.any,AV.any,AV.any,AV.any,AV.any,AV.any,AV.any,AV.any,AV.any,AV.any,AV.any,AV.any,AV.any,AV.any,AV.any,AV.any,AV.any,AV.any,AV.any,AV.any,AV.any,AV.any,AV.any,AV.any,AV.any,AV.ptr false 0 0 0,AV.ptr false 0 0 0,AV.ptr false 0 0 4,iI er,AV.bool false,AV.any,AV.any,AV.any,AV.any,AV.any,AV.any,AV.any,AV.any,AV.any,AV.any,AV.any,AV.any,AV.any,AV.any,AV.any,AV.any,AV.any,AV.any,AV.any,AV.any,AV.any,AV.any,AV.any,AV.any,AV.any,AV.any] [some (Row.lst 57 5 [AV.agg [AV.str s,iI (↑p:Int),iI (↑n:Int),iI bd,iI er]]),some (Row.lst 35 2 [AV.agg [AV.sl false 7 0 N.length Cp.no,iI root]]),none,none,none,none,none,some (Row.gen 62 3 N.length fun (i:Nat) => neV (N.getD i dN))]) F):=by kernel_rfl
theorem envQ_ok (R:RR) (HP:HPt):OKX Try.prog ((envP R).addCall 28 spec28) [] HP:=(envP_ok R HP).addCall (f:=28) (fi:=fi28) (by kernel_rfl) (spec28_ok R HP)
theorem kid1 (i:Nat):RoOf (.lst 3 1 [.int .i64 (i:Nat)]) (kidN [i]) where
 ty:=rfl
 esz:=rfl
 len:=Nat.le_refl _
 get:=fun j hj => by
  have:j = 0:=by have hj:j < 1:=hj; omega
  subst this; rfl
 gtk:=fun j hj a ha => by
  have ha:a ∈ [AV.int .i64 (([i].getD j 0:Nat):Int)]:=ha
  simp only [List.mem_cons,List.not_mem_nil,or_false] at ha
  subst ha; trivial
abbrev pad8 (rr:Row) (n:Nat) (root:Int) (N:List NE):Rows:=[some rr,some (trow 7 n root),none,none,none,none,none,some (arow N)]
theorem pad8_live {rr:Row} {n:Nat} {root:Int} {N:List NE} {c:Nat} {r:Row} (h:Rows.live (pad8 rr n root N) c = some r):(c = 0 /\ r = rr) \/ (c = 1 /\ r = trow 7 n root) \/ (c = 7 /\ r = arow N):=by
 match c,h with
 | 0,h => cases h; exact .inl ⟨rfl,rfl⟩
 | 1,h => cases h; exact .inr (.inl ⟨rfl,rfl⟩)
 | 7,h => cases h; exact .inr (.inr ⟨rfl,rfl⟩)
 | 2,h => cases h
 | 3,h => cases h
 | 4,h => cases h
 | 5,h => cases h
 | 6,h => cases h
 | c + 8,h => simp [Rows.live] at h
theorem trow_v {c d n:Nat} {root:Int} {f:Nat -> Option Nat} {m:Nat} (hf:f c = some d) (hc:c < m):RowV f m (trow c n root) (trow d n root):=.lst1 rfl (Vw.aggI (VwL.cons (Vw.slI hc hf) (VwL.cons Vw.intI VwL.nil)))
theorem pad8_view {s:List UInt8} {p n bd er root:Int} {N:List NE} {h:Rows} {d:Nat} (h0:h.live 0 = some (rrow s p n bd er)) (h1:h.live 1 = some (trow d N.length root)) (h2:h.live d = some (arow N)):ViewW (mvR 7 d) (pad8 (rrow s p n bd er) N.length root N) h where
 inj:=fun c c' b r r' hc hc' e e' => by
  have n0:d ≠ 0:=fun e => by rw [e,h0] at h2; cases h2
  have n1:d ≠ 1:=fun e => by rw [e,h1] at h2; cases h2
  rcases pad8_live hc with ⟨rfl,_⟩ | ⟨rfl,_⟩ | ⟨rfl,_⟩ <;> rcases pad8_live hc' with ⟨rfl,_⟩ | ⟨rfl,_⟩ | ⟨rfl,_⟩ <;> first | rfl | (simp only [show mvR 7 d 0 = some 0 from rfl,show mvR 7 d 1 = some 1 from rfl,show mvR 7 d 7 = some d from rfl,Option.some.injEq] at e e'; omega)
 row:=fun c r hc => by
  rcases pad8_live hc with ⟨rfl,rfl⟩ | ⟨rfl,rfl⟩ | ⟨rfl,rfl⟩
  ·exact .inl ⟨0,_,rfl,h0,(rrow_g _ _ _ _ _).vw _ _⟩
  ·exact .inl ⟨1,_,rfl,h1,trow_v rfl (by simp)⟩
  ·exact .inl ⟨d,_,rfl,h2,(arow_g N).vw _ _⟩
theorem tm31_spr (v:Int):tm31 (.int .i64 v) = spr [(0,.ptr false 0 0 0),(1,.ptr false 1 0 0),(5,.int .i64 v)] 0 126:=by kernel_rfl
theorem toPad {R:RR} {nk:Nat} {T TM:List AV} {h:Rows} {s:List UInt8} {p n bd er root:Int} {N:List NE} {d:Nat} {F:Fz} {S:St -> Fz -> Prop} (hnk:nk <= 7) (h0:h.live 0 = some (rrow s p n bd er)) (h1:h.live 1 = some (trow d N.length root)) (h2:h.live d = some (arow N))
  (hT:VwL (mvR 7 d) 8 T TM) (hS:S ⟨T,pad8 (rrow s p n bd er) N.length root N⟩ F):ToX R [] nk ⟨TM,h⟩ F S :=
 ToX.fitW (stE:=⟨T,pad8 (rrow s p n bd er) N.length root N⟩) (mvR 7 d) (pad8_view h0 h1 h2) hT (mvR_lt hnk) (by simp; omega) (ToX.here hS)
theorem trn_new {N:List NE} {kd:Nat} {w:List UInt8} {ts:List Tr} {is:List Nat} {x:Nat} (h:TrNs N ts is):TrN (N ++ [⟨kd,w,is,x⟩]) (.mk kd w ts) N.length:=by
 simp only [TrN]
 exact ⟨⟨kd,w,is,x⟩,by simp,rfl,rfl,TrNs.ext _ _ _ h⟩
theorem RMo.step {s:List UInt8} {p p1:Nat} {N N1:List NE} {F F1 F2:Fz} {t1:Tr} {i1 x kd:Nat} (h:RMo s p N F t1 p1 N1 i1 F1) (hp:p1 < s.length) (hu:Up F1 F2) (hf:FrK F2 x [i1]) :
  RMo s p N F (.mk kd [] [t1]) (blk s (p1 + 1)) (N1 ++ [⟨kd,[],[i1],x⟩]) N1.length F2 where
 mo:=h.mo.trans (Mo.snoc _ _)
 nf:=(h.nf.le hu).snoc hf.fr
 up:=h.up.trans hu
 tr:=trn_new (by simp only [TrNs,and_true]; exact h.tr)
 room:=by
  have:=blk_ge (s:=s) (p1 + 1)
  have:=h.room
  simp only [List.length_append,List.length_cons,List.length_nil]
  omega
theorem loop31 (R:RR) (s:List UInt8) (n:Nat) (HP:HPt):∀ st k F,lp31 s n st k F -> SafeX Try.prog R [] (.block 1 (.loop (loopOf fi31 1))) st F k HP:=by
 rintro ⟨TM,rows⟩ k F ⟨h1,h2,h3,h4,p,bd,er,v,root,d,N,h5,h6,h7,h8,hk⟩
 simp only at h1 h2 h3 h4 h5 h6 h7 h8
 have ini:VwL (mvR 7 d) 8 (tm31 (.int .i64 v)) TM:=by
  rw [tm31_spr]
  exact VwL.ofKnown h1 ⟨by rw [h2]; exact Vw.ptrI (by simp) rfl,by rw [h3]; exact Vw.ptrI (by simp) rfl,by rw [h5]; exact Vw.intI,trivial⟩
 cases hz:er == 0 with
 | false =>
  rw [hz] at hk
  simp only [cond_false] at hk
  refine SafeX.loop_block (Inv:=fun m st F' => F' = F /\ st = fam31 s p n bd er root N v) ?_ ?_
  ·exact toPad h4 h6 h7 h8 ini ⟨0,rfl,rfl⟩
  rintro m st' F' ⟨rfl,rfl⟩
  refine SafeX.by mixed (envQ_ok R HP) (f:=31) (fi:=fi31) (i:=1) (by kernel_rfl) (b:=.loop (loopOf fi31 1)) (by kernel_rfl) (subs_loop _) 1000 (vr31 R s p n bd er root v N _ F') ?_
  refine hcF hz ?_
  exact toPad h4 rfl rfl rfl (by (repeat' (first | with_reducible exact VwL.nil | with_reducible refine VwL.cons ?_ ?_ | with_reducible exact Vw.anyI | with_reducible exact Vw.strI | with_reducible exact Vw.boolI | with_reducible exact Vw.intI | with_reducible exact Vw.nilsI | exact Vw.ptrI (by simp) rfl | exact Vw.slI (by simp) rfl | with_reducible refine Vw.aggI ?_ | exact Vw.gndI rfl))) hk
 | true =>
  rw [hz] at hk
  have hz:=eq_of_beq hz
  subst hz
  simp only [cond_true] at hk
  obtain ⟨rfl,i,t,rfl,hin,hk⟩:=hk
  refine SafeX.loop_block (Inv:=fun m st F' => ∃ p1 N1 i1 t1,s.length + 1 <= m + p1 /\ p1 <= s.length /\ RMo s p N F t1 p1 N1 i1 F' /\ pMarks s m t1 p1 = mks s t p /\ st = fam31 s p1 n 0 0 root N1 (i1:Nat)) ?_ ?_
  ·refine toPad h4 h6 h7 h8 ini ?_
   exact ⟨s.length + 1,p,N,i,t,by omega,hin.le,RMo.mk (Mo.refl N) hin.nf (Up.refl F) hin.tr (Nat.le_refl _),rfl,rfl⟩
  rintro m st' F1 ⟨p1,N1,i1,t1,hm,hp1,hmo,hpm,rfl⟩
  obtain ⟨g,rfl⟩:∃ g,m = g + 1:=⟨m - 1,by omega⟩
  have hsm:=hin.sm
  have hN1:N1.length <= 2000:=by have:=hmo.room; have:=hin.room; omega
  refine SafeX.by mixed (envQ_ok R HP) (f:=31) (fi:=fi31) (i:=1) (by kernel_rfl) (b:=.loop (loopOf fi31 1)) (by kernel_rfl) (subs_loop _) 1000 (vr31 R s p1 n 0 0 root (i1:Nat) N1 _ F1) ?_
  have more:∀ (c:Int) (j:Nat),(hbI s p1 == c) = true -> c ≠ 0 -> markOf (hbI s p1) = some j -> ∀ (F2:Fz) (x:Nat),Up F1 F2 -> FrK F2 x [i1] -> ∀ (T:List AV) (h':Rows),VwL (mvR 7 11) 8 (tm31 (.int .i64 (N1.length:Nat))) T ->
    h'.live 0 = some (rrow s (blk s (p1 + 1):Nat) (n:Nat) 0 0) -> h'.live 1 = some (trow 11 (N1 ++ [NE.mk ((7 + j:Nat):Int) [] [i1] x]).length root) -> h'.live 11 = some (arow (N1 ++ [NE.mk ((7 + j:Nat):Int) [] [i1] x])) ->
    ToX R [] rows.length ⟨T,h'⟩ F2 fun st3 F3 => ∃ n',n' < g + 1 /\ ∃ p1 N1 i1 t1,s.length + 1 <= n' + p1 /\ p1 <= s.length /\ RMo s p N F t1 p1 N1 i1 F3 /\ pMarks s n' t1 p1 = mks s t p /\ st3 = fam31 s p1 n 0 0 root N1 (i1:Nat):=by
   intro c j hc hc0 hj F2 x hu hf T h' hv e0 e1 e2
   have hlt:=hb_lt hc hc0
   have hb:=blk_ge (s:=s) (p1 + 1)
   refine toPad h4 e0 e1 e2 hv ?_
   refine ⟨g,Nat.lt_succ_self g,blk s (p1 + 1),_,N1.length,.mk (7 + j) [] [t1],by omega,blk_le hlt,hmo.step hlt hu hf,?_,rfl⟩
   rw [<- hpm,pMarks,hj]
  refine hcT rfl ⟨show (0:Int) <= (p1:Int) - 0 by omega,hcB (fun c1 => ?_) fun c1 => hcB (fun c2 => ?_) fun c2 => hcB (fun c3 => ?_) fun c3 => ?_⟩
  ·refine ⟨_,[i1],rfl,kid1 i1,rfl,fun F2 x hu hf => ⟨N1,rfl,rfl,show N1.length <= 100000 by omega,p1 + 1,wrapSucc p1 (by omega),show s.length <= 100000 by have:=hin.sm; omega,?_⟩⟩
   exact more 42 0 c1 (by decide) (by unfold markOf; rw [c1]; rfl) F2 x hu hf _ _ (by (repeat' (first | with_reducible exact VwL.nil | with_reducible refine VwL.cons ?_ ?_ | with_reducible exact Vw.anyI | with_reducible exact Vw.strI | with_reducible exact Vw.boolI | with_reducible exact Vw.intI | with_reducible exact Vw.nilsI | exact Vw.ptrI (by simp) rfl | exact Vw.slI (by simp) rfl | with_reducible refine Vw.aggI ?_ | exact Vw.gndI rfl))) rfl rfl rfl
  ·refine ⟨_,[i1],rfl,kid1 i1,rfl,fun F2 x hu hf => ⟨N1,rfl,rfl,show N1.length <= 100000 by omega,p1 + 1,wrapSucc p1 (by omega),show s.length <= 100000 by have:=hin.sm; omega,?_⟩⟩
   exact more 43 1 c2 (by decide) (by unfold markOf; rw [c1,c2]; rfl) F2 x hu hf _ _ (by (repeat' (first | with_reducible exact VwL.nil | with_reducible refine VwL.cons ?_ ?_ | with_reducible exact Vw.anyI | with_reducible exact Vw.strI | with_reducible exact Vw.boolI | with_reducible exact Vw.intI | with_reducible exact Vw.nilsI | exact Vw.ptrI (by simp) rfl | exact Vw.slI (by simp) rfl | with_reducible refine Vw.aggI ?_ | exact Vw.gndI rfl))) rfl rfl rfl
  ·refine ⟨_,[i1],rfl,kid1 i1,rfl,fun F2 x hu hf => ⟨N1,rfl,rfl,show N1.length <= 100000 by omega,p1 + 1,wrapSucc p1 (by omega),show s.length <= 100000 by have:=hin.sm; omega,?_⟩⟩
   exact more 63 2 c3 (by decide) (by unfold markOf; rw [c1,c2,c3]; rfl) F2 x hu hf _ _ (by (repeat' (first | with_reducible exact VwL.nil | with_reducible refine VwL.cons ?_ ?_ | with_reducible exact Vw.anyI | with_reducible exact Vw.strI | with_reducible exact Vw.boolI | with_reducible exact Vw.intI | with_reducible exact Vw.nilsI | exact Vw.ptrI (by simp) rfl | exact Vw.slI (by simp) rfl | with_reducible refine Vw.aggI ?_ | exact Vw.gndI rfl))) rfl rfl rfl
  ·have hm:markOf (hbI s p1) = none:=by unfold markOf; rw [c1,c2,c3]; rfl
   have e:(t1,p1) = mks s t p:=by rw [<- hpm,pMarks,hm]
   have q:=hk N1 i1 F1 (by rw [<- e]; exact hmo)
   rw [<- e] at q
   exact toPad h4 rfl rfl rfl (by (repeat' (first | with_reducible exact VwL.nil | with_reducible refine VwL.cons ?_ ?_ | with_reducible exact Vw.anyI | with_reducible exact Vw.strI | with_reducible exact Vw.boolI | with_reducible exact Vw.intI | with_reducible exact Vw.nilsI | exact Vw.ptrI (by simp) rfl | exact Vw.slI (by simp) rfl | with_reducible refine Vw.aggI ?_ | exact Vw.gndI rfl))) q
theorem vc31 (R:RR) (s:List UInt8) (a n:Nat) (root:Int) (N:List NE) (alt:Nat -> PR) (k:AV -> Rows -> Fz -> Prop) (F:Fz):vcx (envIl R s n alt) 1000 31 fi31 [.ptr false 0 0 0,.ptr false 1 0 0] [some (rrow s (a:Nat) (n:Nat) 0 0),some (trow 2 N.length root),some (arow N)] k F = (((↑a:Int) - 0).NonNeg /\ bif hbI s (↑a:Int) == 64 then ∃ (a_1:Nat),IntKind.i64.wrap ((↑a:Int) + 1) = (↑a_1:Int) /\ a_1.le s.length /\ s.length.le 100000 /\ (0:Int) = 0 /\ bif (scan wordly s a_1).beq a_1 then ∃ (N_1:List NE),N.length = N_1.length /\ some (Row.gen 62 3 N.length fun (i:Nat) => neV (N.getD i dN)) = some (Row.gen 62 3 N_1.length fun (i:Nat) => neV (N_1.getD i dN)) /\ N_1.length.le 100000 /\ ∃ (a:Nat),(↑a_1:Int) = (↑a:Int) /\ s.length.le 100000 /\ 126 = 126 /\ AV.ptr false 0 0 0 = AV.ptr false 0 0 0 /\ AV.ptr false 1 0 0 = AV.ptr false 1 0 0 /\ Nat.le 6 7 /\ ∃ (p:Nat),∃ (bd:Int),∃ (er:Int),∃ (v:Int),∃ (root_1:Int),∃ (d:Nat),∃ (N:List NE),iI (↑N_1.length:Int) = iI v /\ some (Row.lst 57 5 [AV.agg [AV.str s,iI (↑(blk s a):Int),iI (↑n:Int),iI (↑a_1:Int),iI 3]]) = some (Row.lst 57 5 [AV.agg [AV.str s,iI (↑p:Int),iI (↑n:Int),iI bd,iI er]]) /\ some (Row.lst 35 2 [AV.agg [AV.sl false 5 0 (N_1 ++ [NE.mk 2 [] [] 0]).length Cp.no,iI root]]) = some (Row.lst 35 2 [AV.agg [AV.sl false d 0 N.length Cp.no,iI root_1]]) /\ Rows.live [some (Row.lst 57 5 [AV.agg [AV.str s,iI (↑(blk s a):Int),iI (↑n:Int),iI (↑a_1:Int),iI 3]]),some (Row.lst 35 2 [AV.agg [AV.sl false 5 0 (N_1 ++ [NE.mk 2 [] [] 0]).length Cp.no,iI root]]),none,none,none,some (Row.gen 62 3 (N_1 ++ [NE.mk 2 [] [] 0]).length fun (i:Nat) => neV ((N_1 ++ [NE.mk 2 [] [] 0]).getD i dN))] d = some (Row.gen 62 3 N.length fun (i:Nat) => neV (N.getD i dN)) /\ bif er == 0 then bd = 0 /\ ∃ (i:Nat),∃ (t:Tr),v = (↑i:Int) /\ RMk s p N F t i /\ ∀ (N':List NE) (i':Nat) (F':Fz),RMo s p N F (mks s t p).fst (mks s t p).snd N' i' F' -> k (iI (↑i':Int)) [some (Row.lst 57 5 [AV.agg [AV.str s,iI (↑(mks s t p).snd:Int),iI (↑n:Int),iI 0,iI 0]]),some (Row.lst 35 2 [AV.agg [AV.sl false 7 0 N'.length Cp.no,iI root_1]]),none,none,none,none,none,some (Row.gen 62 3 N'.length fun (i:Nat) => neV (N'.getD i dN))] F' else k (iI v) [some (Row.lst 57 5 [AV.agg [AV.str s,iI (↑p:Int),iI (↑n:Int),iI bd,iI er]]),some (Row.lst 35 2 [AV.agg [AV.sl false 7 0 N.length Cp.no,iI root_1]]),none,none,none,none,none,some (Row.gen 62 3 N.length fun (i:Nat) => neV (N.getD i dN))] F else ∃ (N_1:List NE),N.length = N_1.length /\ some (Row.gen 62 3 N.length fun (i:Nat) => neV (N.getD i dN)) = some (Row.gen 62 3 N_1.length fun (i:Nat) => neV (N_1.getD i dN)) /\ N_1.length.le 100000 /\ ∃ (a:Nat),(↑(scan wordly s a_1):Int) = (↑a:Int) /\ s.length.le 100000 /\ 126 = 126 /\ AV.ptr false 0 0 0 = AV.ptr false 0 0 0 /\ AV.ptr false 1 0 0 = AV.ptr false 1 0 0 /\ Nat.le 6 7 /\ ∃ (p:Nat),∃ (bd:Int),∃ (er:Int),∃ (v:Int),∃ (root_1:Int),∃ (d:Nat),∃ (N:List NE),iI (↑N_1.length:Int) = iI v /\ some (Row.lst 57 5 [AV.agg [AV.str s,iI (↑(blk s a):Int),iI (↑n:Int),iI 0,iI 0]]) = some (Row.lst 57 5 [AV.agg [AV.str s,iI (↑p:Int),iI (↑n:Int),iI bd,iI er]]) /\ some (Row.lst 35 2 [AV.agg [AV.sl false 5 0 (N_1 ++ [NE.mk 2 (sub s a_1 (scan wordly s a_1)) [] 0]).length Cp.no,iI root]]) = some (Row.lst 35 2 [AV.agg [AV.sl false d 0 N.length Cp.no,iI root_1]]) /\ Rows.live [some (Row.lst 57 5 [AV.agg [AV.str s,iI (↑(blk s a):Int),iI (↑n:Int),iI 0,iI 0]]),some (Row.lst 35 2 [AV.agg [AV.sl false 5 0 (N_1 ++ [NE.mk 2 (sub s a_1 (scan wordly s a_1)) [] 0]).length Cp.no,iI root]]),none,none,none,some (Row.gen 62 3 (N_1 ++ [NE.mk 2 (sub s a_1 (scan wordly s a_1)) [] 0]).length fun (i:Nat) => neV ((N_1 ++ [NE.mk 2 (sub s a_1 (scan wordly s a_1)) [] 0]).getD i dN))] d = some (Row.gen 62 3 N.length fun (i:Nat) => neV (N.getD i dN)) /\ bif er == 0 then bd = 0 /\ ∃ (i:Nat),∃ (t:Tr),v = (↑i:Int) /\ RMk s p N F t i /\ ∀ (N':List NE) (i':Nat) (F':Fz),RMo s p N F (mks s t p).fst (mks s t p).snd N' i' F' -> k (iI (↑i':Int)) [some (Row.lst 57 5 [AV.agg [AV.str s,iI (↑(mks s t p).snd:Int),iI (↑n:Int),iI 0,iI 0]]),some (Row.lst 35 2 [AV.agg [AV.sl false 7 0 N'.length Cp.no,iI root_1]]),none,none,none,none,none,some (Row.gen 62 3 N'.length fun (i:Nat) => neV (N'.getD i dN))] F' else k (iI v) [some (Row.lst 57 5 [AV.agg [AV.str s,iI (↑p:Int),iI (↑n:Int),iI bd,iI er]]),some (Row.lst 35 2 [AV.agg [AV.sl false 7 0 N.length Cp.no,iI root_1]]),none,none,none,none,none,some (Row.gen 62 3 N.length fun (i:Nat) => neV (N.getD i dN))] F else bif hbI s (↑a:Int) == 35 then ∃ (a_1:Nat),(↑a:Int) = (↑a_1:Int) /\ a_1.le 200000 /\ Nat.le 5 100000 /\ bif (exN s (ByteArray.mk #[35,116,101,120,116]).data.toList a_1).fst then ∃ (N_1:List NE),N.length = N_1.length /\ some (Row.gen 62 3 N.length fun (i:Nat) => neV (N.getD i dN)) = some (Row.gen 62 3 N_1.length fun (i:Nat) => neV (N_1.getD i dN)) /\ N_1.length.le 100000 /\ ∃ (a:Nat),(↑(exN s (ByteArray.mk #[35,116,101,120,116]).data.toList a_1).snd:Int) = (↑a:Int) /\ s.length.le 100000 /\ 126 = 126 /\ AV.ptr false 0 0 0 = AV.ptr false 0 0 0 /\ AV.ptr false 1 0 0 = AV.ptr false 1 0 0 /\ Nat.le 6 7 /\ ∃ (p:Nat),∃ (bd:Int),∃ (er:Int),∃ (v:Int),∃ (root_1:Int),∃ (d:Nat),∃ (N:List NE),iI (↑N_1.length:Int) = iI v /\ some (Row.lst 57 5 [AV.agg [AV.str s,iI (↑(blk s a):Int),iI (↑n:Int),iI 0,iI 0]]) = some (Row.lst 57 5 [AV.agg [AV.str s,iI (↑p:Int),iI (↑n:Int),iI bd,iI er]]) /\ some (Row.lst 35 2 [AV.agg [AV.sl false 5 0 (N_1 ++ [NE.mk 3 [] [] 0]).length Cp.no,iI root]]) = some (Row.lst 35 2 [AV.agg [AV.sl false d 0 N.length Cp.no,iI root_1]]) /\ Rows.live [some (Row.lst 57 5 [AV.agg [AV.str s,iI (↑(blk s a):Int),iI (↑n:Int),iI 0,iI 0]]),some (Row.lst 35 2 [AV.agg [AV.sl false 5 0 (N_1 ++ [NE.mk 3 [] [] 0]).length Cp.no,iI root]]),none,none,none,some (Row.gen 62 3 (N_1 ++ [NE.mk 3 [] [] 0]).length fun (i:Nat) => neV ((N_1 ++ [NE.mk 3 [] [] 0]).getD i dN))] d = some (Row.gen 62 3 N.length fun (i:Nat) => neV (N.getD i dN)) /\ bif er == 0 then bd = 0 /\ ∃ (i:Nat),∃ (t:Tr),v = (↑i:Int) /\ RMk s p N F t i /\ ∀ (N':List NE) (i':Nat) (F':Fz),RMo s p N F (mks s t p).fst (mks s t p).snd N' i' F' -> k (iI (↑i':Int)) [some (Row.lst 57 5 [AV.agg [AV.str s,iI (↑(mks s t p).snd:Int),iI (↑n:Int),iI 0,iI 0]]),some (Row.lst 35 2 [AV.agg [AV.sl false 7 0 N'.length Cp.no,iI root_1]]),none,none,none,none,none,some (Row.gen 62 3 N'.length fun (i:Nat) => neV (N'.getD i dN))] F' else k (iI v) [some (Row.lst 57 5 [AV.agg [AV.str s,iI (↑p:Int),iI (↑n:Int),iI bd,iI er]]),some (Row.lst 35 2 [AV.agg [AV.sl false 7 0 N.length Cp.no,iI root_1]]),none,none,none,none,none,some (Row.gen 62 3 N.length fun (i:Nat) => neV (N.getD i dN))] F else ∃ (N_1:List NE),N.length = N_1.length /\ some (Row.gen 62 3 N.length fun (i:Nat) => neV (N.getD i dN)) = some (Row.gen 62 3 N_1.length fun (i:Nat) => neV (N_1.getD i dN)) /\ N_1.length.le 100000 /\ ∃ (a:Nat),(↑((exN s (ByteArray.mk #[35,116,101,120,116]).data.toList a_1).snd + 1):Int) = (↑a:Int) /\ s.length.le 100000 /\ 126 = 126 /\ AV.ptr false 0 0 0 = AV.ptr false 0 0 0 /\ AV.ptr false 1 0 0 = AV.ptr false 1 0 0 /\ Nat.le 6 7 /\ ∃ (p:Nat),∃ (bd:Int),∃ (er:Int),∃ (v:Int),∃ (root_1:Int),∃ (d:Nat),∃ (N:List NE),iI (↑N_1.length:Int) = iI v /\ some (Row.lst 57 5 [AV.agg [AV.str s,iI (↑(blk s a):Int),iI (↑n:Int),iI (↑(exN s (ByteArray.mk #[35,116,101,120,116]).data.toList a_1).snd:Int),iI 3]]) = some (Row.lst 57 5 [AV.agg [AV.str s,iI (↑p:Int),iI (↑n:Int),iI bd,iI er]]) /\ some (Row.lst 35 2 [AV.agg [AV.sl false 5 0 (N_1 ++ [NE.mk 3 [] [] 0]).length Cp.no,iI root]]) = some (Row.lst 35 2 [AV.agg [AV.sl false d 0 N.length Cp.no,iI root_1]]) /\ Rows.live [some (Row.lst 57 5 [AV.agg [AV.str s,iI (↑(blk s a):Int),iI (↑n:Int),iI (↑(exN s (ByteArray.mk #[35,116,101,120,116]).data.toList a_1).snd:Int),iI 3]]),some (Row.lst 35 2 [AV.agg [AV.sl false 5 0 (N_1 ++ [NE.mk 3 [] [] 0]).length Cp.no,iI root]]),none,none,none,some (Row.gen 62 3 (N_1 ++ [NE.mk 3 [] [] 0]).length fun (i:Nat) => neV ((N_1 ++ [NE.mk 3 [] [] 0]).getD i dN))] d = some (Row.gen 62 3 N.length fun (i:Nat) => neV (N.getD i dN)) /\ bif er == 0 then bd = 0 /\ ∃ (i:Nat),∃ (t:Tr),v = (↑i:Int) /\ RMk s p N F t i /\ ∀ (N':List NE) (i':Nat) (F':Fz),RMo s p N F (mks s t p).fst (mks s t p).snd N' i' F' -> k (iI (↑i':Int)) [some (Row.lst 57 5 [AV.agg [AV.str s,iI (↑(mks s t p).snd:Int),iI (↑n:Int),iI 0,iI 0]]),some (Row.lst 35 2 [AV.agg [AV.sl false 7 0 N'.length Cp.no,iI root_1]]),none,none,none,none,none,some (Row.gen 62 3 N'.length fun (i:Nat) => neV (N'.getD i dN))] F' else k (iI v) [some (Row.lst 57 5 [AV.agg [AV.str s,iI (↑p:Int),iI (↑n:Int),iI bd,iI er]]),some (Row.lst 35 2 [AV.agg [AV.sl false 7 0 N.length Cp.no,iI root_1]]),none,none,none,none,none,some (Row.gen 62 3 N.length fun (i:Nat) => neV (N.getD i dN))] F else bif hbI s (↑a:Int) == 40 then bif (↑n:Int) == 16 then k (iI (-1)) [some (Row.lst 57 5 [AV.agg [AV.str s,iI (↑a:Int),iI (↑n:Int),iI (↑a:Int),iI 5]]),some (Row.lst 35 2 [AV.agg [AV.sl false 2 0 N.length Cp.no,iI root]]),some (Row.gen 62 3 N.length fun (i:Nat) => neV (N.getD i dN))] F else ∃ (a_1:Nat),IntKind.i64.wrap ((↑a:Int) + 1) = (↑a_1:Int) /\ s.length.le 100000 /\ ((↑(blk s a_1):Int) - 0).NonNeg /\ bif hbI s (↑(blk s a_1):Int) == 41 then ∃ (N_1:List NE),N.length = N_1.length /\ some (Row.gen 62 3 N.length fun (i:Nat) => neV (N.getD i dN)) = some (Row.gen 62 3 N_1.length fun (i:Nat) => neV (N_1.getD i dN)) /\ N_1.length.le 100000 /\ ∃ (a:Nat),IntKind.i64.wrap ((↑(blk s a_1):Int) + 1) = (↑a:Int) /\ s.length.le 100000 /\ 126 = 126 /\ AV.ptr false 0 0 0 = AV.ptr false 0 0 0 /\ AV.ptr false 1 0 0 = AV.ptr false 1 0 0 /\ Nat.le 6 7 /\ ∃ (p:Nat),∃ (bd:Int),∃ (er:Int),∃ (v:Int),∃ (root_1:Int),∃ (d:Nat),∃ (N:List NE),iI (↑N_1.length:Int) = iI v /\ some (Row.lst 57 5 [AV.agg [AV.str s,iI (↑(blk s a):Int),iI (↑n:Int),iI 0,iI 0]]) = some (Row.lst 57 5 [AV.agg [AV.str s,iI (↑p:Int),iI (↑n:Int),iI bd,iI er]]) /\ some (Row.lst 35 2 [AV.agg [AV.sl false 5 0 (N_1 ++ [NE.mk 0 [] [] 0]).length Cp.no,iI root]]) = some (Row.lst 35 2 [AV.agg [AV.sl false d 0 N.length Cp.no,iI root_1]]) /\ Rows.live [some (Row.lst 57 5 [AV.agg [AV.str s,iI (↑(blk s a):Int),iI (↑n:Int),iI 0,iI 0]]),some (Row.lst 35 2 [AV.agg [AV.sl false 5 0 (N_1 ++ [NE.mk 0 [] [] 0]).length Cp.no,iI root]]),none,none,none,some (Row.gen 62 3 (N_1 ++ [NE.mk 0 [] [] 0]).length fun (i:Nat) => neV ((N_1 ++ [NE.mk 0 [] [] 0]).getD i dN))] d = some (Row.gen 62 3 N.length fun (i:Nat) => neV (N.getD i dN)) /\ bif er == 0 then bd = 0 /\ ∃ (i:Nat),∃ (t:Tr),v = (↑i:Int) /\ RMk s p N F t i /\ ∀ (N':List NE) (i':Nat) (F':Fz),RMo s p N F (mks s t p).fst (mks s t p).snd N' i' F' -> k (iI (↑i':Int)) [some (Row.lst 57 5 [AV.agg [AV.str s,iI (↑(mks s t p).snd:Int),iI (↑n:Int),iI 0,iI 0]]),some (Row.lst 35 2 [AV.agg [AV.sl false 7 0 N'.length Cp.no,iI root_1]]),none,none,none,none,none,some (Row.gen 62 3 N'.length fun (i:Nat) => neV (N'.getD i dN))] F' else k (iI v) [some (Row.lst 57 5 [AV.agg [AV.str s,iI (↑p:Int),iI (↑n:Int),iI bd,iI er]]),some (Row.lst 35 2 [AV.agg [AV.sl false 7 0 N.length Cp.no,iI root_1]]),none,none,none,none,none,some (Row.gen 62 3 N.length fun (i:Nat) => neV (N.getD i dN))] F else (0:Int) = 0 /\ n + 1 <= 16 /\ ∃ (N_1:List NE),∃ (a:Nat),s = s /\ (↑(blk s a_1):Int) = (↑a:Int) /\ IntKind.i64.wrap ((↑n:Int) + 1) = (↑(n + 1):Int) /\ (0:Int) = 0 /\ (0:Int) = 0 /\ N.length = N_1.length /\ some (Row.gen 62 3 N.length fun (i:Nat) => neV (N.getD i dN)) = some (Row.gen 62 3 N_1.length fun (i:Nat) => neV (N_1.getD i dN)) /\ RIn s a N_1 F /\ (∀ (t:Tr) (a1:Nat),alt a = PR.ok t a1 -> ∀ (N':List NE) (i:Nat) (F':Fz),ROk s a N_1 F t a1 N' i F' -> ∃ (a:Nat),(↑a1:Int) = (↑a:Int) /\ a.le 200000 /\ Nat.le 1 100000 /\ bif (exN s (ByteArray.mk #[41]).data.toList a).fst then ∃ (a_3:Nat),(↑(exN s (ByteArray.mk #[41]).data.toList a).snd:Int) = (↑a_3:Int) /\ s.length.le 100000 /\ 126 = 126 /\ AV.ptr false 0 0 0 = AV.ptr false 0 0 0 /\ AV.ptr false 1 0 0 = AV.ptr false 1 0 0 /\ Nat.le 7 7 /\ ∃ (p:Nat),∃ (bd:Int),∃ (er:Int),∃ (v:Int),∃ (root_1:Int),∃ (d:Nat),∃ (N:List NE),iI (↑i:Int) = iI v /\ some (Row.lst 57 5 [AV.agg [AV.str s,iI (↑(blk s a_3):Int),iI (IntKind.i64.wrap ((↑(n + 1):Int) - 1)),iI 0,iI 0]]) = some (Row.lst 57 5 [AV.agg [AV.str s,iI (↑p:Int),iI (↑n:Int),iI bd,iI er]]) /\ some (Row.lst 35 2 [AV.agg [AV.sl false 6 0 N'.length Cp.no,iI root]]) = some (Row.lst 35 2 [AV.agg [AV.sl false d 0 N.length Cp.no,iI root_1]]) /\ Rows.live [some (Row.lst 57 5 [AV.agg [AV.str s,iI (↑(blk s a_3):Int),iI (IntKind.i64.wrap ((↑(n + 1):Int) - 1)),iI 0,iI 0]]),some (Row.lst 35 2 [AV.agg [AV.sl false 6 0 N'.length Cp.no,iI root]]),none,none,none,none,some (Row.gen 62 3 N'.length fun (i:Nat) => neV (N'.getD i dN))] d = some (Row.gen 62 3 N.length fun (i:Nat) => neV (N.getD i dN)) /\ bif er == 0 then bd = 0 /\ ∃ (i:Nat),∃ (t:Tr),v = (↑i:Int) /\ RMk s p N F' t i /\ ∀ (N':List NE) (i':Nat) (F'_1:Fz),RMo s p N F' (mks s t p).fst (mks s t p).snd N' i' F'_1 -> k (iI (↑i':Int)) [some (Row.lst 57 5 [AV.agg [AV.str s,iI (↑(mks s t p).snd:Int),iI (↑n:Int),iI 0,iI 0]]),some (Row.lst 35 2 [AV.agg [AV.sl false 7 0 N'.length Cp.no,iI root_1]]),none,none,none,none,none,some (Row.gen 62 3 N'.length fun (i:Nat) => neV (N'.getD i dN))] F'_1 else k (iI v) [some (Row.lst 57 5 [AV.agg [AV.str s,iI (↑p:Int),iI (↑n:Int),iI bd,iI er]]),some (Row.lst 35 2 [AV.agg [AV.sl false 7 0 N.length Cp.no,iI root_1]]),none,none,none,none,none,some (Row.gen 62 3 N.length fun (i:Nat) => neV (N.getD i dN))] F' else ∃ (a_3:Nat),(↑((exN s (ByteArray.mk #[41]).data.toList a).snd + 1):Int) = (↑a_3:Int) /\ s.length.le 100000 /\ 126 = 126 /\ AV.ptr false 0 0 0 = AV.ptr false 0 0 0 /\ AV.ptr false 1 0 0 = AV.ptr false 1 0 0 /\ Nat.le 7 7 /\ ∃ (p:Nat),∃ (bd:Int),∃ (er:Int),∃ (v:Int),∃ (root_1:Int),∃ (d:Nat),∃ (N:List NE),iI (↑i:Int) = iI v /\ some (Row.lst 57 5 [AV.agg [AV.str s,iI (↑(blk s a_3):Int),iI (IntKind.i64.wrap ((↑(n + 1):Int) - 1)),iI (↑(exN s (ByteArray.mk #[41]).data.toList a).snd:Int),iI 3]]) = some (Row.lst 57 5 [AV.agg [AV.str s,iI (↑p:Int),iI (↑n:Int),iI bd,iI er]]) /\ some (Row.lst 35 2 [AV.agg [AV.sl false 6 0 N'.length Cp.no,iI root]]) = some (Row.lst 35 2 [AV.agg [AV.sl false d 0 N.length Cp.no,iI root_1]]) /\ Rows.live [some (Row.lst 57 5 [AV.agg [AV.str s,iI (↑(blk s a_3):Int),iI (IntKind.i64.wrap ((↑(n + 1):Int) - 1)),iI (↑(exN s (ByteArray.mk #[41]).data.toList a).snd:Int),iI 3]]),some (Row.lst 35 2 [AV.agg [AV.sl false 6 0 N'.length Cp.no,iI root]]),none,none,none,none,some (Row.gen 62 3 N'.length fun (i:Nat) => neV (N'.getD i dN))] d = some (Row.gen 62 3 N.length fun (i:Nat) => neV (N.getD i dN)) /\ bif er == 0 then bd = 0 /\ ∃ (i:Nat),∃ (t:Tr),v = (↑i:Int) /\ RMk s p N F' t i /\ ∀ (N':List NE) (i':Nat) (F'_1:Fz),RMo s p N F' (mks s t p).fst (mks s t p).snd N' i' F'_1 -> k (iI (↑i':Int)) [some (Row.lst 57 5 [AV.agg [AV.str s,iI (↑(mks s t p).snd:Int),iI (↑n:Int),iI 0,iI 0]]),some (Row.lst 35 2 [AV.agg [AV.sl false 7 0 N'.length Cp.no,iI root_1]]),none,none,none,none,none,some (Row.gen 62 3 N'.length fun (i:Nat) => neV (N'.getD i dN))] F'_1 else k (iI v) [some (Row.lst 57 5 [AV.agg [AV.str s,iI (↑p:Int),iI (↑n:Int),iI bd,iI er]]),some (Row.lst 35 2 [AV.agg [AV.sl false 7 0 N.length Cp.no,iI root_1]]),none,none,none,none,none,some (Row.gen 62 3 N.length fun (i:Nat) => neV (N.getD i dN))] F') /\ ∀ (a' e:Nat),alt a = PR.err a' e -> ∀ (p':Nat) (N':List NE) (v:Int) (F':Fz),p'.le 200000 -> RErr s a N_1 F N' F' -> ∃ (a:Nat),(↑p':Int) = (↑a:Int) /\ a.le 200000 /\ Nat.le 1 100000 /\ bif (↑e:Int) == 0 then bif (exN s (ByteArray.mk #[41]).data.toList a).fst then ∃ (a_4:Nat),(↑(exN s (ByteArray.mk #[41]).data.toList a).snd:Int) = (↑a_4:Int) /\ s.length.le 100000 /\ 126 = 126 /\ AV.ptr false 0 0 0 = AV.ptr false 0 0 0 /\ AV.ptr false 1 0 0 = AV.ptr false 1 0 0 /\ Nat.le 7 7 /\ ∃ (p:Nat),∃ (bd:Int),∃ (er:Int),∃ (v_1:Int),∃ (root_1:Int),∃ (d:Nat),∃ (N:List NE),iI v = iI v_1 /\ some (Row.lst 57 5 [AV.agg [AV.str s,iI (↑(blk s a_4):Int),iI (IntKind.i64.wrap ((↑(n + 1):Int) - 1)),iI (↑a':Int),iI 0]]) = some (Row.lst 57 5 [AV.agg [AV.str s,iI (↑p:Int),iI (↑n:Int),iI bd,iI er]]) /\ some (Row.lst 35 2 [AV.agg [AV.sl false 6 0 N'.length Cp.no,iI root]]) = some (Row.lst 35 2 [AV.agg [AV.sl false d 0 N.length Cp.no,iI root_1]]) /\ Rows.live [some (Row.lst 57 5 [AV.agg [AV.str s,iI (↑(blk s a_4):Int),iI (IntKind.i64.wrap ((↑(n + 1):Int) - 1)),iI (↑a':Int),iI 0]]),some (Row.lst 35 2 [AV.agg [AV.sl false 6 0 N'.length Cp.no,iI root]]),none,none,none,none,some (Row.gen 62 3 N'.length fun (i:Nat) => neV (N'.getD i dN))] d = some (Row.gen 62 3 N.length fun (i:Nat) => neV (N.getD i dN)) /\ bif er == 0 then bd = 0 /\ ∃ (i:Nat),∃ (t:Tr),v_1 = (↑i:Int) /\ RMk s p N F' t i /\ ∀ (N':List NE) (i':Nat) (F'_1:Fz),RMo s p N F' (mks s t p).fst (mks s t p).snd N' i' F'_1 -> k (iI (↑i':Int)) [some (Row.lst 57 5 [AV.agg [AV.str s,iI (↑(mks s t p).snd:Int),iI (↑n:Int),iI 0,iI 0]]),some (Row.lst 35 2 [AV.agg [AV.sl false 7 0 N'.length Cp.no,iI root_1]]),none,none,none,none,none,some (Row.gen 62 3 N'.length fun (i:Nat) => neV (N'.getD i dN))] F'_1 else k (iI v_1) [some (Row.lst 57 5 [AV.agg [AV.str s,iI (↑p:Int),iI (↑n:Int),iI bd,iI er]]),some (Row.lst 35 2 [AV.agg [AV.sl false 7 0 N.length Cp.no,iI root_1]]),none,none,none,none,none,some (Row.gen 62 3 N.length fun (i:Nat) => neV (N.getD i dN))] F' else ∃ (a_4:Nat),(↑((exN s (ByteArray.mk #[41]).data.toList a).snd + 1):Int) = (↑a_4:Int) /\ s.length.le 100000 /\ 126 = 126 /\ AV.ptr false 0 0 0 = AV.ptr false 0 0 0 /\ AV.ptr false 1 0 0 = AV.ptr false 1 0 0 /\ Nat.le 7 7 /\ ∃ (p:Nat),∃ (bd:Int),∃ (er:Int),∃ (v_1:Int),∃ (root_1:Int),∃ (d:Nat),∃ (N:List NE),iI v = iI v_1 /\ some (Row.lst 57 5 [AV.agg [AV.str s,iI (↑(blk s a_4):Int),iI (IntKind.i64.wrap ((↑(n + 1):Int) - 1)),iI (↑(exN s (ByteArray.mk #[41]).data.toList a).snd:Int),iI 3]]) = some (Row.lst 57 5 [AV.agg [AV.str s,iI (↑p:Int),iI (↑n:Int),iI bd,iI er]]) /\ some (Row.lst 35 2 [AV.agg [AV.sl false 6 0 N'.length Cp.no,iI root]]) = some (Row.lst 35 2 [AV.agg [AV.sl false d 0 N.length Cp.no,iI root_1]]) /\ Rows.live [some (Row.lst 57 5 [AV.agg [AV.str s,iI (↑(blk s a_4):Int),iI (IntKind.i64.wrap ((↑(n + 1):Int) - 1)),iI (↑(exN s (ByteArray.mk #[41]).data.toList a).snd:Int),iI 3]]),some (Row.lst 35 2 [AV.agg [AV.sl false 6 0 N'.length Cp.no,iI root]]),none,none,none,none,some (Row.gen 62 3 N'.length fun (i:Nat) => neV (N'.getD i dN))] d = some (Row.gen 62 3 N.length fun (i:Nat) => neV (N.getD i dN)) /\ bif er == 0 then bd = 0 /\ ∃ (i:Nat),∃ (t:Tr),v_1 = (↑i:Int) /\ RMk s p N F' t i /\ ∀ (N':List NE) (i':Nat) (F'_1:Fz),RMo s p N F' (mks s t p).fst (mks s t p).snd N' i' F'_1 -> k (iI (↑i':Int)) [some (Row.lst 57 5 [AV.agg [AV.str s,iI (↑(mks s t p).snd:Int),iI (↑n:Int),iI 0,iI 0]]),some (Row.lst 35 2 [AV.agg [AV.sl false 7 0 N'.length Cp.no,iI root_1]]),none,none,none,none,none,some (Row.gen 62 3 N'.length fun (i:Nat) => neV (N'.getD i dN))] F'_1 else k (iI v_1) [some (Row.lst 57 5 [AV.agg [AV.str s,iI (↑p:Int),iI (↑n:Int),iI bd,iI er]]),some (Row.lst 35 2 [AV.agg [AV.sl false 7 0 N.length Cp.no,iI root_1]]),none,none,none,none,none,some (Row.gen 62 3 N.length fun (i:Nat) => neV (N.getD i dN))] F' else ∃ (a:Nat),(↑p':Int) = (↑a:Int) /\ s.length.le 100000 /\ 126 = 126 /\ AV.ptr false 0 0 0 = AV.ptr false 0 0 0 /\ AV.ptr false 1 0 0 = AV.ptr false 1 0 0 /\ Nat.le 7 7 /\ ∃ (p:Nat),∃ (bd:Int),∃ (er:Int),∃ (v_1:Int),∃ (root_1:Int),∃ (d:Nat),∃ (N:List NE),iI v = iI v_1 /\ some (Row.lst 57 5 [AV.agg [AV.str s,iI (↑(blk s a):Int),iI (IntKind.i64.wrap ((↑(n + 1):Int) - 1)),iI (↑a':Int),iI (↑e:Int)]]) = some (Row.lst 57 5 [AV.agg [AV.str s,iI (↑p:Int),iI (↑n:Int),iI bd,iI er]]) /\ some (Row.lst 35 2 [AV.agg [AV.sl false 6 0 N'.length Cp.no,iI root]]) = some (Row.lst 35 2 [AV.agg [AV.sl false d 0 N.length Cp.no,iI root_1]]) /\ Rows.live [some (Row.lst 57 5 [AV.agg [AV.str s,iI (↑(blk s a):Int),iI (IntKind.i64.wrap ((↑(n + 1):Int) - 1)),iI (↑a':Int),iI (↑e:Int)]]),some (Row.lst 35 2 [AV.agg [AV.sl false 6 0 N'.length Cp.no,iI root]]),none,none,none,none,some (Row.gen 62 3 N'.length fun (i:Nat) => neV (N'.getD i dN))] d = some (Row.gen 62 3 N.length fun (i:Nat) => neV (N.getD i dN)) /\ bif er == 0 then bd = 0 /\ ∃ (i:Nat),∃ (t:Tr),v_1 = (↑i:Int) /\ RMk s p N F' t i /\ ∀ (N':List NE) (i':Nat) (F'_1:Fz),RMo s p N F' (mks s t p).fst (mks s t p).snd N' i' F'_1 -> k (iI (↑i':Int)) [some (Row.lst 57 5 [AV.agg [AV.str s,iI (↑(mks s t p).snd:Int),iI (↑n:Int),iI 0,iI 0]]),some (Row.lst 35 2 [AV.agg [AV.sl false 7 0 N'.length Cp.no,iI root_1]]),none,none,none,none,none,some (Row.gen 62 3 N'.length fun (i:Nat) => neV (N'.getD i dN))] F'_1 else k (iI v_1) [some (Row.lst 57 5 [AV.agg [AV.str s,iI (↑p:Int),iI (↑n:Int),iI bd,iI er]]),some (Row.lst 35 2 [AV.agg [AV.sl false 7 0 N.length Cp.no,iI root_1]]),none,none,none,none,none,some (Row.gen 62 3 N.length fun (i:Nat) => neV (N.getD i dN))] F' else ∃ (a_1:Nat),(↑a:Int) = (↑a_1:Int) /\ a_1.le s.length /\ s.length.le 100000 /\ (0:Int) = 0 /\ bif (scan wordly s a_1).beq a_1 then ∃ (N_1:List NE),N.length = N_1.length /\ some (Row.gen 62 3 N.length fun (i:Nat) => neV (N.getD i dN)) = some (Row.gen 62 3 N_1.length fun (i:Nat) => neV (N_1.getD i dN)) /\ N_1.length.le 100000 /\ ∃ (a:Nat),(↑a_1:Int) = (↑a:Int) /\ s.length.le 100000 /\ 126 = 126 /\ AV.ptr false 0 0 0 = AV.ptr false 0 0 0 /\ AV.ptr false 1 0 0 = AV.ptr false 1 0 0 /\ Nat.le 6 7 /\ ∃ (p:Nat),∃ (bd:Int),∃ (er:Int),∃ (v:Int),∃ (root_1:Int),∃ (d:Nat),∃ (N:List NE),iI (↑N_1.length:Int) = iI v /\ some (Row.lst 57 5 [AV.agg [AV.str s,iI (↑(blk s a):Int),iI (↑n:Int),iI (↑a_1:Int),iI 3]]) = some (Row.lst 57 5 [AV.agg [AV.str s,iI (↑p:Int),iI (↑n:Int),iI bd,iI er]]) /\ some (Row.lst 35 2 [AV.agg [AV.sl false 5 0 (N_1 ++ [NE.mk 1 [] [] 0]).length Cp.no,iI root]]) = some (Row.lst 35 2 [AV.agg [AV.sl false d 0 N.length Cp.no,iI root_1]]) /\ Rows.live [some (Row.lst 57 5 [AV.agg [AV.str s,iI (↑(blk s a):Int),iI (↑n:Int),iI (↑a_1:Int),iI 3]]),some (Row.lst 35 2 [AV.agg [AV.sl false 5 0 (N_1 ++ [NE.mk 1 [] [] 0]).length Cp.no,iI root]]),none,none,none,some (Row.gen 62 3 (N_1 ++ [NE.mk 1 [] [] 0]).length fun (i:Nat) => neV ((N_1 ++ [NE.mk 1 [] [] 0]).getD i dN))] d = some (Row.gen 62 3 N.length fun (i:Nat) => neV (N.getD i dN)) /\ bif er == 0 then bd = 0 /\ ∃ (i:Nat),∃ (t:Tr),v = (↑i:Int) /\ RMk s p N F t i /\ ∀ (N':List NE) (i':Nat) (F':Fz),RMo s p N F (mks s t p).fst (mks s t p).snd N' i' F' -> k (iI (↑i':Int)) [some (Row.lst 57 5 [AV.agg [AV.str s,iI (↑(mks s t p).snd:Int),iI (↑n:Int),iI 0,iI 0]]),some (Row.lst 35 2 [AV.agg [AV.sl false 7 0 N'.length Cp.no,iI root_1]]),none,none,none,none,none,some (Row.gen 62 3 N'.length fun (i:Nat) => neV (N'.getD i dN))] F' else k (iI v) [some (Row.lst 57 5 [AV.agg [AV.str s,iI (↑p:Int),iI (↑n:Int),iI bd,iI er]]),some (Row.lst 35 2 [AV.agg [AV.sl false 7 0 N.length Cp.no,iI root_1]]),none,none,none,none,none,some (Row.gen 62 3 N.length fun (i:Nat) => neV (N.getD i dN))] F else ∃ (N_1:List NE),N.length = N_1.length /\ some (Row.gen 62 3 N.length fun (i:Nat) => neV (N.getD i dN)) = some (Row.gen 62 3 N_1.length fun (i:Nat) => neV (N_1.getD i dN)) /\ N_1.length.le 100000 /\ ∃ (a:Nat),(↑(scan wordly s a_1):Int) = (↑a:Int) /\ s.length.le 100000 /\ 126 = 126 /\ AV.ptr false 0 0 0 = AV.ptr false 0 0 0 /\ AV.ptr false 1 0 0 = AV.ptr false 1 0 0 /\ Nat.le 6 7 /\ ∃ (p:Nat),∃ (bd:Int),∃ (er:Int),∃ (v:Int),∃ (root_1:Int),∃ (d:Nat),∃ (N:List NE),iI (↑N_1.length:Int) = iI v /\ some (Row.lst 57 5 [AV.agg [AV.str s,iI (↑(blk s a):Int),iI (↑n:Int),iI 0,iI 0]]) = some (Row.lst 57 5 [AV.agg [AV.str s,iI (↑p:Int),iI (↑n:Int),iI bd,iI er]]) /\ some (Row.lst 35 2 [AV.agg [AV.sl false 5 0 (N_1 ++ [NE.mk 1 (sub s a_1 (scan wordly s a_1)) [] 0]).length Cp.no,iI root]]) = some (Row.lst 35 2 [AV.agg [AV.sl false d 0 N.length Cp.no,iI root_1]]) /\ Rows.live [some (Row.lst 57 5 [AV.agg [AV.str s,iI (↑(blk s a):Int),iI (↑n:Int),iI 0,iI 0]]),some (Row.lst 35 2 [AV.agg [AV.sl false 5 0 (N_1 ++ [NE.mk 1 (sub s a_1 (scan wordly s a_1)) [] 0]).length Cp.no,iI root]]),none,none,none,some (Row.gen 62 3 (N_1 ++ [NE.mk 1 (sub s a_1 (scan wordly s a_1)) [] 0]).length fun (i:Nat) => neV ((N_1 ++ [NE.mk 1 (sub s a_1 (scan wordly s a_1)) [] 0]).getD i dN))] d = some (Row.gen 62 3 N.length fun (i:Nat) => neV (N.getD i dN)) /\ bif er == 0 then bd = 0 /\ ∃ (i:Nat),∃ (t:Tr),v = (↑i:Int) /\ RMk s p N F t i /\ ∀ (N':List NE) (i':Nat) (F':Fz),RMo s p N F (mks s t p).fst (mks s t p).snd N' i' F' -> k (iI (↑i':Int)) [some (Row.lst 57 5 [AV.agg [AV.str s,iI (↑(mks s t p).snd:Int),iI (↑n:Int),iI 0,iI 0]]),some (Row.lst 35 2 [AV.agg [AV.sl false 7 0 N'.length Cp.no,iI root_1]]),none,none,none,none,none,some (Row.gen 62 3 N'.length fun (i:Nat) => neV (N'.getD i dN))] F' else k (iI v) [some (Row.lst 57 5 [AV.agg [AV.str s,iI (↑p:Int),iI (↑n:Int),iI bd,iI er]]),some (Row.lst 35 2 [AV.agg [AV.sl false 7 0 N.length Cp.no,iI root_1]]),none,none,none,none,none,some (Row.gen 62 3 N.length fun (i:Nat) => neV (N.getD i dN))] F):=by kernel_rfl
inductive Out (s:List UInt8) (a:Nat) (N:List NE) (F:Fz) (r:PR):AV -> Int -> Int -> Int -> List NE -> Fz -> Prop
 | ok (t:Tr) (a1 i:Nat) (N':List NE) (F':Fz) (hr:r = .ok t a1) (h:ROk s a N F t a1 N' i F'):Out s a N F r (.int .i64 (i:Nat)) (a1:Nat) 0 0 N' F'
 | err (a' e p':Nat) (v:Int) (N':List NE) (F':Fz) (hr:r = .err a' e) (hp:p' <= 200000) (h:RErr s a N F N' F'):Out s a N F r (.int .i64 v) (p':Nat) (a':Nat) (e:Nat) N' F'
def Ans (s:List UInt8) (a n:Nat) (root:Int) (N:List NE) (F:Fz) (r:PR):AV -> Rows -> Fz -> Prop:=fun v h F' => ∃ p bd er d N',Out s a N F r v p bd er N' F' /\ h.live 0 = some (rrow s p (n:Nat) bd er) /\ h.live 1 = some (trow d N'.length root) /\ h.live d = some (arow N')
theorem item_end {s:List UInt8} {a n:Nat} {N N1:List NE} {F F1:Fz} {alt:Nat -> PR} {t:Tr} {a1 i:Nat} (hs:s.length <= 256) (hp:pAtom s n alt a = .ok t a1) (h:ROk s a N F t a1 N1 i F1) (ha:a1 <= s.length) (hR:N.length + 4 * (s.length - a) + 1 <= 2000) :
  RMk s (blk s a1) N1 F1 t i /\ ∀ N' i' F',RMo s (blk s a1) N1 F1 (mks s t (blk s a1)).1 (mks s t (blk s a1)).2 N' i' F' -> Out s a N F (pItem s n alt a) (.int .i64 (i':Nat)) ((mks s t (blk s a1)).2:Nat) 0 0 N' F':=by
 have hb:=blk_ge (s:=s) a1
 have hl:=blk_le ha
 have hr:=h.room
 refine ⟨⟨h.nf,hl,hs,h.tr,by omega⟩,fun N' i' F' hm => .ok (mks s t (blk s a1)).1 _ i' N' F' ?_ ⟨h.mo.trans hm.mo,hm.nf,h.up.trans hm.up,hm.tr,?_⟩⟩
 ·unfold pItem; rw [hp]; rfl
 ·have:=hm.room; omega
theorem atom_new {s:List UInt8} {a a1:Nat} {N:List NE} {F:Fz} {kd:Nat} {w:List UInt8} (nf:NF F N) (hlt:a < a1) (ha:a1 <= s.length):ROk s a N F (.mk kd w []) a1 (N ++ [NE.mk (kd:Nat) w [] 0]) N.length F :=
 ⟨Mo.snoc _ _,nf.snoc (frz0 F),Up.refl F,trn_new (by simp only [TrNs]),by simp only [List.length_append,List.length_cons,List.length_nil]; omega⟩
theorem atom_bad {s:List UInt8} {a:Nat} {N:List NE} {F:Fz} {e:NE} (nf:NF F N) (he:Frz F e.x (kidN e.kids)):RErr s a N F (N ++ [e]) F :=
 ⟨Mo.snoc _ _,nf.snoc he,Up.refl F,by simp only [List.length_append,List.length_cons,List.length_nil]; omega⟩
theorem item_err {s:List UInt8} {a n:Nat} {N N':List NE} {F F':Fz} {alt:Nat -> PR} {a' e p':Nat} {v:Int} (hp:pAtom s n alt a = .err a' e) (hp':p' <= 200000) (h:RErr s a N F N' F'):Out s a N F (pItem s n alt a) (.int .i64 v) (p':Nat) (a':Nat) (e:Nat) N' F' :=
 .err a' e p' v N' F' (by unfold pItem; rw [hp]; rfl) hp' h
theorem nle {a b:Nat} (h:Nat.ble a b = true):Nat.le a b:=Nat.le_of_ble_eq_true h
theorem exN_le (s:List UInt8):∀ (w:List UInt8) (a:Nat),(exN s w a).2 <= a + w.length
 | [],a => Nat.le_refl _
 | c :: w,a => by
  unfold exN
  cases hbI s a == ((c.toNat:Nat):Int) with
  | true => have:=exN_le s w (a + 1); simp only [cond_true,List.length_cons]; omega
  | false => simp only [cond_false,List.length_cons]; omega
theorem blk_room {s:List UInt8} {a:Nat} (hs:s.length <= 256) (ha:a <= 100000):blk s a <= 200000:=by
 rcases scan_room (p:=isB) (by decide) s a with h | h
 ·show scan isB s a <= _; omega
 ·show scan isB s a <= _; omega
theorem exN41 (s:List UInt8) (a:Nat):exN s [41] a = bif hbI s a == 41 then (true,a + 1) else (false,a):=rfl
theorem item_ok {R:RR} {s:List UInt8} {n:Nat} {alt:Nat -> PR} (hAlt:∀ HP args h k F,spec23 s (n + 1) 0 alt args h k F -> SafeCallX Try.prog R 23 args h F k HP) (hnz:∀ a,NZ (alt a)) (hG:Goes s alt) (hn:n <= 16)
  {a:Nat} {root:Int} {N:List NE} {F:Fz} (hin:RIn s a N F) (HP:HPt) :
  SafeCallX Try.prog R 31 [.ptr false 0 0 0,.ptr false 1 0 0] [some (rrow s (a:Nat) (n:Nat) 0 0),some (trow 2 N.length root),some (arow N)] F (Ans s a n root N F (pItem s n alt a)) HP:=by
 have hs:=hin.sm
 have hsl:s.length <= 100000:=by omega
 have hR:=hin.room
 have hNl:N.length <= 100000:=by omega
 have hle:=hin.le
 refine SafeCallX.by mixed (((envQ_ok R HP).addCall (f:=23) (fi:=fi23) (by kernel_rfl) (hAlt HP)).addLoop (f:=31) (fi:=fi31) (by kernel_rfl) (i:=1) (body:=.loop (loopOf fi31 1)) (by kernel_rfl) (loop31 R s n HP)) (f:=31) (fi:=fi31) (by kernel_rfl) 1000 (vc31 R s a n root N alt _ F) ?_
 refine ⟨show (0:Int) <= (a:Int) - 0 by omega,hcB (fun c1 => ?_) fun c1 => hcB (fun c2 => ?_) fun c2 => hcB (fun c3 => ?_) fun c3 => ?_⟩
 ·-- a name behind an at-sign
  have hlt:=hb_lt c1 (by decide)
  have pa:pAtom s n alt a = pWord s 2 (a + 1):=by unfold pAtom; rw [c1]; rfl
  refine ⟨a + 1,wrapSucc a (by omega),hlt,hsl,rfl,hcB (fun hw => ?_) fun hw => ?_⟩
  ·have pb:pAtom s n alt a = .err (a + 1) 3:=by rw [pa]; unfold pWord; rw [hw]; rfl
   refine ⟨N,rfl,rfl,hNl,a + 1,rfl,hsl,rfl,rfl,rfl,nle rfl,blk s (a + 1),_,3,_,root,5,_,rfl,rfl,rfl,rfl,hcF rfl ?_⟩
   exact ⟨_,_,_,7,_,item_err pb (blk_room hs (by omega)) (atom_bad hin.nf (frz0 F)),rfl,rfl,rfl⟩
  ·have hg:=pWord_goes (kd:=2) (s:=s) (a:=a + 1) hlt (t:=.mk 2 (sub s (a + 1) (scan wordly s (a + 1))) []) (a1:=scan wordly s (a + 1)) (by unfold pWord; rw [hw]; rfl)
   have pb:pAtom s n alt a = .ok (.mk 2 (sub s (a + 1) (scan wordly s (a + 1))) []) (scan wordly s (a + 1)):=by rw [pa]; unfold pWord; rw [hw]; rfl
   obtain ⟨q1,q2⟩:=item_end hs pb (atom_new (kd:=2) hin.nf (by omega) hg.2) hg.2 hR
   refine ⟨N,rfl,rfl,hNl,_,rfl,hsl,rfl,rfl,rfl,nle rfl,_,_,0,_,root,5,_,rfl,rfl,rfl,rfl,hcT rfl ⟨rfl,N.length,_,rfl,q1,fun N' i' F' hm => ?_⟩⟩
   exact ⟨_,_,_,7,N',q2 N' i' F' hm,rfl,rfl,rfl⟩
 ·-- the word of texts
  have hlt:=hb_lt c2 (by decide)
  have pa:pAtom s n alt a = bif (exN s txtW a).1 then .ok (.mk 3 [] []) (exN s txtW a).2 else .err (exN s txtW a).2 3:=by unfold pAtom; rw [c1,c2]; rfl
  have hel:=exN_le s txtW a
  have h5:txtW.length = 5:=rfl
  refine ⟨a,rfl,show a <= 200000 by omega,nle rfl,hcB (fun hw => ?_) fun hw => ?_⟩
  ·have hw':(exN s txtW a).1 = true:=hw
   have hg:=exN_ok txtW a hle (by decide) hw'
   have pb:pAtom s n alt a = .ok (.mk 3 [] []) (exN s txtW a).2:=by rw [pa,hw']; rfl
   obtain ⟨q1,q2⟩:=item_end hs pb (atom_new (kd:=3) hin.nf (by omega) (by omega)) (by omega) hR
   refine ⟨N,rfl,rfl,hNl,_,rfl,hsl,rfl,rfl,rfl,nle rfl,_,_,0,_,root,5,_,rfl,rfl,rfl,rfl,hcT rfl ⟨rfl,N.length,_,rfl,q1,fun N' i' F' hm => ?_⟩⟩
   exact ⟨_,_,_,7,N',q2 N' i' F' hm,rfl,rfl,rfl⟩
  ·have hw':(exN s txtW a).1 = false:=hw
   have pb:pAtom s n alt a = .err (exN s txtW a).2 3:=by rw [pa,hw']; rfl
   refine ⟨N,rfl,rfl,hNl,(exN s txtW a).2 + 1,rfl,hsl,rfl,rfl,rfl,nle rfl,_,_,3,_,root,5,_,rfl,rfl,rfl,rfl,hcF rfl ?_⟩
   exact ⟨_,_,_,7,_,item_err pb (blk_room hs (by omega)) (atom_bad hin.nf (frz0 F)),rfl,rfl,rfl⟩
 ·-- brackets
  have hlt:=hb_lt c3 (by decide)
  have pa:pAtom s n alt a = pBr s n alt a:=by unfold pAtom; rw [c1,c2,c3]; rfl
  refine hcB (fun hq => ?_) fun hq => ?_
  ·have hn16:n = 16:=by have:=eq_of_beq hq; omega
   have pb:pAtom s n alt a = .err a 5:=by rw [pa]; unfold pBr; rw [hn16]; rfl
   exact ⟨_,_,_,2,N,item_err pb (by omega) ⟨Mo.refl N,hin.nf,Up.refl F,by omega⟩,rfl,rfl,rfl⟩
  ·have hn16:Nat.beq n 16 = false:=by
    cases hb:Nat.beq n 16 with
    | false => rfl
    | true => rw [Nat.eq_of_beq_eq_true hb] at hq; simp at hq
   have hb1:=blk_ge (s:=s) (a + 1)
   have hb2:=blk_le (s:=s) (a:=a + 1) hlt
   refine ⟨a + 1,wrapSucc a (by omega),hsl,show (0:Int) <= _ by omega,hcB (fun hp => ?_) fun hp => ?_⟩
   ·have hl2:=hb_lt hp (by decide)
    have pb:pAtom s n alt a = .ok (.mk 0 [] []) (blk s (a + 1) + 1):=by rw [pa]; unfold pBr; rw [hn16,hp]; rfl
    obtain ⟨q1,q2⟩:=item_end hs pb (atom_new (kd:=0) hin.nf (by omega) (by omega)) (by omega) hR
    refine ⟨N,rfl,rfl,hNl,blk s (a + 1) + 1,wrapSucc _ (by omega),hsl,rfl,rfl,rfl,nle rfl,_,_,0,_,root,5,_,rfl,rfl,rfl,rfl,hcT rfl ⟨rfl,N.length,_,rfl,q1,fun N' i' F' hm => ?_⟩⟩
    exact ⟨_,_,_,7,N',q2 N' i' F' hm,rfl,rfl,rfl⟩
   ·have pc:pAtom s n alt a = (alt (blk s (a + 1))).bind fun t a1 => bif hbI s a1 == 41 then .ok t (a1 + 1) else .err a1 3:=by rw [pa]; unfold pBr; rw [hn16,hp]; rfl
    have hne:IntKind.i64.wrap (((n + 1:Nat):Int) - 1) = (n:Int):=by rw [wrapI64 _ (by omega) (by omega)]; omega
    rw [hne]
    have hn17:n + 1 <= 16:=by
     rcases Nat.lt_or_ge n 16 with h | h
     ·exact h
     ·have:n = 16:=by omega
      rw [this] at hn16; cases hn16
    refine ⟨rfl,hn17,N,blk s (a + 1),rfl,rfl,wrapSucc n (by omega),rfl,rfl,rfl,rfl,⟨hin.nf,hb2,hs,by omega⟩,?_,?_⟩
    ·intro t a1 hr N' i F' h
     obtain ⟨g1,g2⟩:=hG _ hb2 _ _ hr
     have hroom:=h.room
     refine ⟨a1,rfl,show a1 <= 200000 by omega,nle rfl,hcB (fun hw => ?_) fun hw => ?_⟩
     ·have hw':(exN s [41] a1).1 = true:=hw
      have h41:(hbI s a1 == 41) = true:=by rw [exN41] at hw'; cases hx:hbI s a1 == 41 with
       | true => rfl
       | false => rw [hx] at hw'; cases hw'
      have e2:(exN s [41] a1).2 = a1 + 1:=by rw [exN41,h41]; rfl
      have e2':(exN s (ByteArray.mk #[41]).data.toList a1).2 = a1 + 1:=e2
      have hl3:=hb_lt h41 (by decide)
      have pb:pAtom s n alt a = .ok t (a1 + 1):=by rw [pc,hr]; show (bif hbI s a1 == 41 then PR.ok t (a1 + 1) else _) = _; rw [h41]; rfl
      obtain ⟨q1,q2⟩:=item_end (F:=F) (N:=N) hs pb ⟨h.mo,h.nf,h.up,h.tr,by omega⟩ (by omega) hR
      rw [e2']
      refine ⟨a1 + 1,rfl,hsl,rfl,rfl,rfl,nle rfl,_,_,0,_,root,6,N',rfl,rfl,rfl,rfl,hcT rfl ⟨rfl,i,t,rfl,q1,fun N2 i' F2 hm => ?_⟩⟩
      exact ⟨_,_,_,7,N2,q2 N2 i' F2 hm,rfl,rfl,rfl⟩
     ·have hw':(exN s [41] a1).1 = false:=hw
      have h41:(hbI s a1 == 41) = false:=by rw [exN41] at hw'; cases hx:hbI s a1 == 41 with
       | false => rfl
       | true => rw [hx] at hw'; cases hw'
      have e2:(exN s [41] a1).2 = a1:=by rw [exN41,h41]; rfl
      have e2':(exN s (ByteArray.mk #[41]).data.toList a1).2 = a1:=e2
      have pb:pAtom s n alt a = .err a1 3:=by rw [pc,hr]; show (bif hbI s a1 == 41 then PR.ok t (a1 + 1) else _) = _; rw [h41]; rfl
      rw [e2']
      refine ⟨a1 + 1,rfl,hsl,rfl,rfl,rfl,nle rfl,_,_,3,_,root,6,N',rfl,rfl,rfl,rfl,hcF rfl ?_⟩
      exact ⟨_,_,_,7,N',item_err pb (blk_room hs (by omega)) ⟨h.mo,h.nf,h.up,by omega⟩,rfl,rfl,rfl⟩
    ·intro a' e hr p' N' v F' hp' h
     have hroom:=h.room
     have he:((e:Int) == 0) = false:=by
      have:=hnz _ _ _ hr
      rw [beq_eq_false_iff_ne]; omega
     have hp2:p' <= 200000:=hp'
     have pb:pAtom s n alt a = .err a' e:=by rw [pc,hr]; rfl
     have hbr:blk s p' <= 200000:=by
      rcases scan_room (p:=isB) (by decide) s p' with h | h
      ·show scan isB s p' <= _; omega
      ·show scan isB s p' <= _; omega
     refine ⟨p',rfl,hp2,nle rfl,hcF he ⟨p',rfl,hsl,rfl,rfl,rfl,nle rfl,_,_,e,_,root,6,N',rfl,rfl,rfl,rfl,hcF he ?_⟩⟩
     exact ⟨_,_,_,7,N',item_err pb hbr ⟨h.mo,h.nf,h.up,by omega⟩,rfl,rfl,rfl⟩
 ·-- a word
  have pa:pAtom s n alt a = pWord s 1 a:=by unfold pAtom; rw [c1,c2,c3]; rfl
  refine ⟨a,rfl,hle,hsl,rfl,hcB (fun hw => ?_) fun hw => ?_⟩
  ·have pb:pAtom s n alt a = .err a 3:=by rw [pa]; unfold pWord; rw [hw]; rfl
   refine ⟨N,rfl,rfl,hNl,a,rfl,hsl,rfl,rfl,rfl,nle rfl,blk s a,_,3,_,root,5,_,rfl,rfl,rfl,rfl,hcF rfl ?_⟩
   exact ⟨_,_,_,7,_,item_err pb (blk_room hs (by omega)) (atom_bad hin.nf (frz0 F)),rfl,rfl,rfl⟩
  ·have hg:=pWord_goes (kd:=1) (s:=s) (a:=a) hle (t:=.mk 1 (sub s a (scan wordly s a)) []) (a1:=scan wordly s a) (by unfold pWord; rw [hw]; rfl)
   have pb:pAtom s n alt a = .ok (.mk 1 (sub s a (scan wordly s a)) []) (scan wordly s a):=by rw [pa]; unfold pWord; rw [hw]; rfl
   obtain ⟨q1,q2⟩:=item_end hs pb (atom_new (kd:=1) hin.nf (by omega) hg.2) hg.2 hR
   refine ⟨N,rfl,rfl,hNl,_,rfl,hsl,rfl,rfl,rfl,nle rfl,_,_,0,_,root,5,_,rfl,rfl,rfl,rfl,hcT rfl ⟨rfl,N.length,_,rfl,q1,fun N' i' F' hm => ?_⟩⟩
   exact ⟨_,_,_,7,N',q2 N' i' F' hm,rfl,rfl,rfl⟩
abbrev out4 (rr:Row) (n:Nat) (root:Int) (N:List NE):Rows:=[some rr,some (trow 3 n root),none,some (arow N)]
theorem out4_live {rr:Row} {n:Nat} {root:Int} {N:List NE} {c:Nat} {r:Row} (h:Rows.live (out4 rr n root N) c = some r):(c = 0 /\ r = rr) \/ (c = 1 /\ r = trow 3 n root) \/ (c = 3 /\ r = arow N):=by
 match c,h with
 | 0,h => cases h; exact .inl ⟨rfl,rfl⟩
 | 1,h => cases h; exact .inr (.inl ⟨rfl,rfl⟩)
 | 3,h => cases h; exact .inr (.inr ⟨rfl,rfl⟩)
 | 2,h => cases h
 | c + 4,h => simp [Rows.live] at h
theorem out4_view {s:List UInt8} {p n bd er root:Int} {N:List NE} {h:Rows} {d:Nat} (h0:h.live 0 = some (rrow s p n bd er)) (h1:h.live 1 = some (trow d N.length root)) (h2:h.live d = some (arow N)):ViewW (mvR 3 d) (out4 (rrow s p n bd er) N.length root N) h where
 inj:=fun c c' b r r' hc hc' e e' => by
  have n0:d ≠ 0:=fun e => by rw [e,h0] at h2; cases h2
  have n1:d ≠ 1:=fun e => by rw [e,h1] at h2; cases h2
  rcases out4_live hc with ⟨rfl,_⟩ | ⟨rfl,_⟩ | ⟨rfl,_⟩ <;> rcases out4_live hc' with ⟨rfl,_⟩ | ⟨rfl,_⟩ | ⟨rfl,_⟩ <;> first | rfl | (simp only [show mvR 3 d 0 = some 0 from rfl,show mvR 3 d 1 = some 1 from rfl,show mvR 3 d 3 = some d from rfl,Option.some.injEq] at e e'; omega)
 row:=fun c r hc => by
  rcases out4_live hc with ⟨rfl,rfl⟩ | ⟨rfl,rfl⟩ | ⟨rfl,rfl⟩
  ·exact .inl ⟨0,_,rfl,h0,(rrow_g _ _ _ _ _).vw _ _⟩
  ·exact .inl ⟨1,_,rfl,h1,trow_v rfl (by simp)⟩
  ·exact .inl ⟨d,_,rfl,h2,(arow_g N).vw _ _⟩
theorem Out.gnd {s:List UInt8} {a:Nat} {N N':List NE} {F F':Fz} {r:PR} {v:AV} {p bd er:Int} (h:Out s a N F r v p bd er N' F'):gnd v = true:=by cases h <;> rfl
theorem ref_out {R:RR} {fn:FuncId} {args:List AV} {s:List UInt8} {a n:Nat} {root:Int} {N:List NE} {F:Fz} {r:PR}
  (hs:SafeCallX Try.prog R fn args [some (rrow s (a:Nat) (n:Nat) 0 0),some (trow 2 N.length root),some (arow N)] F (Ans s a n root N F r) (fun _ _ _ => False)) :
  SafeCallX Try.prog R fn args [some (rrow s (a:Nat) (n:Nat) 0 0),some (trow 2 N.length root),some (arow N)] F (fun v h' F' => ∃ p bd er N',Out s a N F r v p bd er N' F' /\ h' = out4 (rrow s p (n:Nat) bd er) N'.length root N') (fun _ _ _ => False):=by
 refine SafeCallX.post hs ?_ (fun v h' F' _ h => h.elim)
 rintro v h' F' _ ⟨p,bd,er,d,N',ho,e0,e1,e2⟩
 exact ToV.fitW (mvR 3 d) (out4_view e0 e1 e2) (gnd_vw _ _ _ ho.gnd) (mvR_lt (n:=3) (by decide)) (by simp) (ToV.here ⟨p,bd,er,N',ho,rfl⟩)
theorem ref_at {R:RR} {fn:FuncId} {argsL args:List AV} {s:List UInt8} {n b c:Nat} {r:Nat -> PR} {h:Rows} {k HP:AV -> Rows -> Fz -> Prop} {F:Fz}
  (hA:∀ d,VwL (posV [b,c,d]) 3 argsL args)
  (hs:∀ a root N,RIn s a N F -> SafeCallX Try.prog R fn argsL [some (rrow s (a:Nat) (n:Nat) 0 0),some (trow 2 N.length root),some (arow N)] F (Ans s a n root N F (r a)) (fun _ _ _ => False))
  (hk:specRef s n r b c h k F):SafeCallX Try.prog R fn args h F k HP:=by
 unfold specRef at hk
 obtain ⟨s',p,n',bd,er,hb,hk⟩:=atR_ofX hk
 obtain ⟨d,nn,root,hc,N,a,rfl,rfl,rfl,rfl,rfl,rfl,hd,hin,hok,herr⟩:=atT_ofX hk
 have ne1:b ≠ c:=fun e => by rw [e,hc] at hb; cases hb
 have ne2:b ≠ d:=fun e => by rw [e,hd] at hb; cases hb
 have ne3:c ≠ d:=fun e => by rw [e,hd] at hc; cases hc
 refine (SafeCallX.atN (Q:=fun v os tl F' => ∃ p bd er N',Out s' a N F (r a) v p bd er N' F' /\ os = [some (rrow s' p (n:Nat) bd er),some (trow 3 N'.length root),none] /\ tl = [some (arow N')]) (HP:=fun _ _ _ _ => False) [b,c,d]
  (hL:=[some (rrow s' (a:Nat) (n:Nat) 0 0),some (trow 2 N.length root),some (arow N)]) rfl (by simp [ne1,ne2,ne3]) (fun e he => by
   simp only [List.mem_cons,List.not_mem_nil,or_false] at he
   rcases he with rfl | rfl | rfl
   ·exact live_lt hb
   ·exact live_lt hc
   ·exact live_lt hd) (fun e q he => by
   match e with
   | 0 => cases he; exact ⟨b,_,rfl,hb,(rrow_g _ _ _ _ _).vw _ _⟩
   | 1 => cases he; exact ⟨c,_,rfl,hc,trow_v rfl (by simp)⟩
   | 2 => cases he; exact ⟨d,_,rfl,hd,(arow_g N).vw _ _⟩
   | e + 3 => simp [Rows.live] at he) (hA d) ((ref_out (hs a root N hin)).mono ?_ ?_)).mono ?_ ?_
 ·rintro v h' F' _ ⟨p,bd,er,N',ho,rfl⟩
  exact ⟨[some (rrow s' p (n:Nat) bd er),some (trow 3 N'.length root),none],[some (arow N')],rfl,rfl,p,bd,er,N',ho,rfl,rfl⟩
 ·rintro v h' F' _ h; exact h.elim
 ·rintro v h' F' _ ⟨v0,os,tl,rfl,rfl,p,bd,er,N',ho,rfl,rfl⟩
  cases ho with
  | ok t a1 i _ _ hr hh => exact hok t a1 hr N' i F' hh
  | err a' e p' w _ _ hr hp hh => exact herr a' e hr p' N' w F' hp hh
 ·rintro v h' F' _ ⟨v0,os,tl,_,_,h⟩; exact h.elim
theorem spec31_ok {R:RR} {s:List UInt8} {n:Nat} {alt:Nat -> PR} (hAlt:∀ HP args h k F,spec23 s (n + 1) 0 alt args h k F -> SafeCallX Try.prog R 23 args h F k HP) (hnz:∀ a,NZ (alt a)) (hG:Goes s alt) (hn:n <= 16) (HP:HPt) :
  ∀ args h k F,spec31 s n (pItem s n alt) args h k F -> SafeCallX Try.prog R 31 args h F k HP:=by
 intro args h k F hk
 unfold spec31 at hk
 split at hk
 ·rename_i b c
  exact ref_at (argsL:=[.ptr false 0 0 0,.ptr false 1 0 0]) (fun d => VwL.cons (Vw.ptrI (by decide) rfl) (VwL.cons (Vw.ptrI (by decide) rfl) VwL.nil)) (fun a root N hin => item_ok hAlt hnz hG hn hin _) hk
 ·exact hk.elim
abbrev nrow (l:List Nat):Row:=.gen 3 1 l.length fun i => .int .i64 ((l.getD i 0:Nat):Int)
noncomputable abbrev tm23 (kk:Int) (m:Nat):List AV:=[.ptr false 0 0 0,.ptr false 1 0 0,.int .i64 kk,.any,.any,.any,.any,.sl false 4 0 m .no,.any,.any,.any,.any,.any,.any,.any,.any,.any,.any,.any,.any,.any,.any,.any,.any,.any,.any,.any,.any,.any,.any,.any,.any,.any,.any,.any,.any,.any,.any,.any,.any,.any,.any,.any,.any,.any,.any,.any,.any,.any,.any,.any,.any,.any,.any,.any,.any,.any,.any,.any,.any,.any,.any,.any,.any,.any,.any,.any,.any,.any,.any,.any,.any,.any,.any,.any,.any,.any,.any,.any,.any,.any,.any,.any,.any,.any,.any,.any,.any,.any,.any,.any,.any,.any,.any,.any,.any,.any,.any]
noncomputable abbrev fam23 (kk:Int) (s:List UInt8) (p n:Nat) (bd er root:Int) (N:List NE) (l:List Nat):St:=⟨tm23 kk l.length,[some (rrow s p n bd er),some (trow 3 N.length root),none,some (arow N),some (nrow l)]⟩
noncomputable abbrev env23 (R:RR) (s:List UInt8) (n:Nat) (kk:Int) (part:Nat -> PR):EnvX:=((envP R).addCall 28 spec28).addCall 23 (spec23 s n kk part)
noncomputable abbrev env23i (R:RR) (s:List UInt8) (n:Nat) (part:Nat -> PR):EnvX:=((envP R).addCall 28 spec28).addCall 31 (spec31 s n part)
noncomputable abbrev tm23b (kk:Int):List AV:=[.ptr false 0 0 0,.ptr false 1 0 0,.int .i64 kk,.any,.any,.any,.any,.any,.any,.any,.any,.any,.any,.any,.any,.any,.any,.any,.any,.any,.any,.any,.any,.any,.any,.any,.any,.any,.any,.any,.any,.any,.any,.any,.any,.any,.any,.any,.any,.any,.any,.any,.any,.any,.any,.any,.any,.any,.any,.any,.any,.any,.any,.any,.any,.any,.any,.any,.any,.any,.any,.any,.any,.any,.any,.any,.any,.any,.any,.any,.any,.any,.any,.any,.any,.any,.any,.any,.any,.any,.any,.any,.any,.any,.any,.any,.any,.any,.any,.any,.any,.any,.any,.any,.any,.any,.any,.any]
noncomputable abbrev famB (kk:Int) (s:List UInt8) (p n:Nat) (bd er root:Int) (N:List NE):St:=⟨tm23b kk,[some (rrow s p n bd er),some (trow 3 N.length root),none,some (arow N)]⟩
def Lp (s:List UInt8) (cont:Int -> Bool) (sp kd:Nat) (part:Nat -> PR):Nat -> List Tr -> Nat -> PR
 | 0,l,a => .ok (rowT kd l) a
 | f + 1,l,a => bif cont (hbI s a) then (part (a + sp)).bind fun t a1 => Lp s cont sp kd part f (l ++ [t]) a1 else .ok (rowT kd l) a
def LpI (s:List UInt8) (cont:Int -> Bool) (sp kd:Nat) (part:Nat -> PR) (a:Nat):PR:=(part a).bind fun t a1 => Lp s cont sp kd part (s.length + 1) [t] a1
theorem lp_joins (s:List UInt8) (sg:Int) (kd:Nat) (part:Nat -> PR):∀ f l a,pJoins s sg kd part f l a = Lp s (fun c => c == sg) 1 kd part f l a
 | 0,l,a => rfl
 | f + 1,l,a => by
  show (bif hbI s a == sg then (part (a + 1)).bind (fun t a1 => pJoins s sg kd part f (l ++ [t]) a1) else .ok (rowT kd l) a) = bif hbI s a == sg then (part (a + 1)).bind (fun t a1 => Lp s (fun c => c == sg) 1 kd part f (l ++ [t]) a1) else .ok (rowT kd l) a
  rw [funext fun t => funext fun a1 => lp_joins s sg kd part f (l ++ [t]) a1]
theorem lp_seqs (s:List UInt8) (n:Nat) (alt:Nat -> PR):∀ f l a,pSeqs s n alt f l a = Lp s begins 0 4 (pItem s n alt) f l a
 | 0,l,a => rfl
 | f + 1,l,a => by
  show (bif begins (hbI s a) then (pItem s n alt a).bind (fun t a1 => pSeqs s n alt f (l ++ [t]) a1) else .ok (rowT 4 l) a) = bif begins (hbI s a) then (pItem s n alt a).bind (fun t a1 => Lp s begins 0 4 (pItem s n alt) f (l ++ [t]) a1) else .ok (rowT 4 l) a
  rw [funext fun t => funext fun a1 => lp_seqs s n alt f (l ++ [t]) a1]
theorem pJoin_lp (s:List UInt8) (sg:Int) (kd:Nat) (part:Nat -> PR) (a:Nat):pJoin s sg kd part a = LpI s (fun c => c == sg) 1 kd part a:=by
 unfold pJoin LpI
 rw [funext fun t => funext fun a1 => lp_joins s sg kd part (s.length + 1) [t] a1]
theorem pSeq_lp (s:List UInt8) (n:Nat) (alt:Nat -> PR) (a:Nat):pSeq s n alt a = LpI s begins 0 4 (pItem s n alt) (blk s a):=by
 unfold pSeq LpI
 rw [funext fun t => funext fun a1 => lp_seqs s n alt (s.length + 1) [t] a1]
structure RLs (s:List UInt8) (a:Nat) (N:List NE) (F:Fz) (ts:List Tr) (a1:Nat) (N':List NE) (l:List Nat) (F':Fz):Prop where
 mo:Mo N N'
 nf:NF F' N'
 up:Up F F'
 tr:TrNs N' ts l
 le:a1 <= s.length
 room:N'.length + 4 * (s.length - a1) + 3 * ts.length <= N.length + 4 * (s.length - a)
def lp23 (kk:Int) (s:List UInt8) (n:Nat) (kd:Nat) (r:Nat -> PR):LoopSpX:=fun st k F => st.tmps.length = 98 /\ nthV st.tmps 0 = .ptr false 0 0 0 /\ nthV st.tmps 1 = .ptr false 1 0 0 /\ nthV st.tmps 2 = .int .i64 kk /\ nthV st.tmps 7 = .nils /\
 ∃ (root:Int) (N:List NE) (a:Nat),st.rows = [some (rrow s (a:Nat) (n:Nat) 0 0),some (trow 2 N.length root),some (arow N)] /\ RIn s a N F /\
  (∀ ts l a1 N' F',r a = .ok (rowT kd ts) a1 -> ts ≠ [] -> RLs s a N F ts a1 N' l F' -> k .normal (fam23 kk s a1 n 0 0 root N' l) F') /\
  (∀ (a' e p':Nat) (N':List NE) F',r a = .err a' e -> e ≠ 0 -> p' <= 200000 -> RErr s a N F N' F' -> k .normal (famB kk s p' n (a':Nat) (e:Nat) root N') F')
theorem vr23_2 (R:RR) (s:List UInt8) (p n:Nat) (root:Int) (N:List NE) (l:List Nat) (part:Nat -> PR) (k:Exit -> St -> Fz -> Prop) (F:Fz):rnx (env23 R s n 3 part) 1000 23 (loopOf fi23 0) (fam23 2 s p n 0 0 root N l) k F = ((3:Int) = 3 /\ n <= 16 /\ ∃ (N_1:List NE),∃ (a:Nat),s = s /\ (↑p:Int) = (↑a:Int) /\ (↑n:Int) = (↑n:Int) /\ (0:Int) = 0 /\ (0:Int) = 0 /\ N.length = N_1.length /\ some (Row.gen 62 3 N.length fun (i:Nat) => neV (N.getD i dN)) = some (Row.gen 62 3 N_1.length fun (i:Nat) => neV (N_1.getD i dN)) /\ RIn s a N_1 F /\ (∀ (t:Tr) (a1:Nat),part a = PR.ok t a1 -> ∀ (N':List NE) (i:Nat) (F':Fz),ROk s a N_1 F t a1 N' i F' -> bif decide (0 + l.length <= l.length) && (true && (true && decide (((Src.gen l.length fun (j:Nat) => iI (↑(l.getD (0 + j) 0):Int)).len + 1) * 8 <= 140737488355328))) then ((↑a1:Int) - 0).NonNeg /\ bif wordly (hbI s (↑a1:Int)) then k Exit.normal (St.mk [AV.ptr false 0 0 0,AV.ptr false 1 0 0,iI 2,AV.any,AV.any,AV.any,AV.any,AV.sl false 10 0 ((Src.gen l.length fun (j:Nat) => iI (↑(l.getD (0 + j) 0):Int)).len + 1) Cp.no,iI (↑i:Int),AV.int IntKind.u8 (hbI s (↑a1:Int)),AV.any,AV.any,AV.any,AV.any,AV.any,AV.any,AV.any,AV.any,AV.any,AV.any,AV.any,AV.any,AV.any,AV.any,AV.ptr false 0 0 0,AV.ptr false 0 0 0,AV.ptr false 0 0 4,iI 0,AV.bool true,AV.ptr false 0 0 0,AV.ptr false 1 0 0,iI 2,iI 3,iI (↑i:Int),AV.sl false 4 0 l.length Cp.no,iI (↑i:Int),AV.sl false 9 0 1 Cp.tight,AV.sl false 10 0 ((Src.gen l.length fun (j:Nat) => iI (↑(l.getD (0 + j) 0):Int)).len + 1) Cp.no,AV.ptr false 0 0 0,AV.int IntKind.u8 (hbI s (↑a1:Int)),iI 2,AV.bool false,AV.bool false,AV.tup [],AV.tup [],AV.bool false,AV.bool false,iI 2,AV.bool false,AV.bool false,AV.tup [],AV.tup [],AV.bool false,AV.bool false,AV.any,AV.any,AV.any,AV.any,AV.any,AV.any,AV.any,iI 2,AV.bool true,AV.bool true,AV.int IntKind.u8 (hbI s (↑a1:Int)),AV.bool (wordly (hbI s (↑a1:Int))),AV.bool true,AV.tup [],AV.tup [],AV.bool true,AV.bool true,AV.tup [],AV.tup [],AV.bool true,AV.bool true,AV.tup [],AV.tup [],AV.bool true,AV.bool true,AV.any,AV.any,AV.any,AV.any,AV.any,AV.any,AV.any,AV.any,AV.any,AV.any,AV.any,AV.any,AV.any,AV.any,AV.any,AV.any,AV.any,AV.any,AV.any] [some (Row.lst 57 5 [AV.agg [AV.str s,iI (↑a1:Int),iI (↑n:Int),iI 0,iI 0]]),some (Row.lst 35 2 [AV.agg [AV.sl false 8 0 N'.length Cp.no,iI root]]),none,none,none,none,none,none,some (Row.gen 62 3 N'.length fun (i:Nat) => neV (N'.getD i dN)),some (Row.lst 3 1 [iI (↑i:Int)]),some (Row.gen 3 1 ((Src.gen l.length fun (j:Nat) => iI (↑(l.getD (0 + j) 0):Int)).len + 1) fun (j:Nat) => bif j.blt (Src.gen l.length fun (j:Nat) => iI (↑(l.getD (0 + j) 0):Int)).len then iI (↑(l.getD (0 + j) 0):Int) else (Src.lst [iI (↑i:Int)]).at_ (j - (Src.gen l.length fun (j:Nat) => iI (↑(l.getD (0 + j) 0):Int)).len))]) F' else bif hbI s (↑a1:Int) == 64 then k Exit.normal (St.mk [AV.ptr false 0 0 0,AV.ptr false 1 0 0,iI 2,AV.any,AV.any,AV.any,AV.any,AV.sl false 10 0 ((Src.gen l.length fun (j:Nat) => iI (↑(l.getD (0 + j) 0):Int)).len + 1) Cp.no,iI (↑i:Int),AV.int IntKind.u8 (hbI s (↑a1:Int)),AV.any,AV.any,AV.any,AV.any,AV.any,AV.any,AV.any,AV.any,AV.any,AV.any,AV.any,AV.any,AV.any,AV.any,AV.ptr false 0 0 0,AV.ptr false 0 0 0,AV.ptr false 0 0 4,iI 0,AV.bool true,AV.ptr false 0 0 0,AV.ptr false 1 0 0,iI 2,iI 3,iI (↑i:Int),AV.sl false 4 0 l.length Cp.no,iI (↑i:Int),AV.sl false 9 0 1 Cp.tight,AV.sl false 10 0 ((Src.gen l.length fun (j:Nat) => iI (↑(l.getD (0 + j) 0):Int)).len + 1) Cp.no,AV.ptr false 0 0 0,AV.int IntKind.u8 (hbI s (↑a1:Int)),iI 2,AV.bool false,AV.bool false,AV.tup [],AV.tup [],AV.bool false,AV.bool false,iI 2,AV.bool false,AV.bool false,AV.tup [],AV.tup [],AV.bool false,AV.bool false,AV.any,AV.any,AV.any,AV.any,AV.any,AV.any,AV.any,iI 2,AV.bool true,AV.bool true,AV.int IntKind.u8 (hbI s (↑a1:Int)),AV.bool (wordly (hbI s (↑a1:Int))),AV.bool false,AV.int IntKind.u8 (hbI s (↑a1:Int)),AV.bool (hbI s (↑a1:Int) == 64),AV.bool (hbI s (↑a1:Int) == 64),AV.bool true,AV.tup [],AV.tup [],AV.bool true,AV.bool true,AV.tup [],AV.tup [],AV.bool true,AV.bool true,AV.any,AV.any,AV.any,AV.any,AV.any,AV.any,AV.any,AV.any,AV.any,AV.any,AV.any,AV.any,AV.any,AV.any,AV.any,AV.any,AV.any,AV.any,AV.any] [some (Row.lst 57 5 [AV.agg [AV.str s,iI (↑a1:Int),iI (↑n:Int),iI 0,iI 0]]),some (Row.lst 35 2 [AV.agg [AV.sl false 8 0 N'.length Cp.no,iI root]]),none,none,none,none,none,none,some (Row.gen 62 3 N'.length fun (i:Nat) => neV (N'.getD i dN)),some (Row.lst 3 1 [iI (↑i:Int)]),some (Row.gen 3 1 ((Src.gen l.length fun (j:Nat) => iI (↑(l.getD (0 + j) 0):Int)).len + 1) fun (j:Nat) => bif j.blt (Src.gen l.length fun (j:Nat) => iI (↑(l.getD (0 + j) 0):Int)).len then iI (↑(l.getD (0 + j) 0):Int) else (Src.lst [iI (↑i:Int)]).at_ (j - (Src.gen l.length fun (j:Nat) => iI (↑(l.getD (0 + j) 0):Int)).len))]) F' else bif hbI s (↑a1:Int) == 35 then k Exit.normal (St.mk [AV.ptr false 0 0 0,AV.ptr false 1 0 0,iI 2,AV.any,AV.any,AV.any,AV.any,AV.sl false 10 0 ((Src.gen l.length fun (j:Nat) => iI (↑(l.getD (0 + j) 0):Int)).len + 1) Cp.no,iI (↑i:Int),AV.int IntKind.u8 (hbI s (↑a1:Int)),AV.any,AV.any,AV.any,AV.any,AV.any,AV.any,AV.any,AV.any,AV.any,AV.any,AV.any,AV.any,AV.any,AV.any,AV.ptr false 0 0 0,AV.ptr false 0 0 0,AV.ptr false 0 0 4,iI 0,AV.bool true,AV.ptr false 0 0 0,AV.ptr false 1 0 0,iI 2,iI 3,iI (↑i:Int),AV.sl false 4 0 l.length Cp.no,iI (↑i:Int),AV.sl false 9 0 1 Cp.tight,AV.sl false 10 0 ((Src.gen l.length fun (j:Nat) => iI (↑(l.getD (0 + j) 0):Int)).len + 1) Cp.no,AV.ptr false 0 0 0,AV.int IntKind.u8 (hbI s (↑a1:Int)),iI 2,AV.bool false,AV.bool false,AV.tup [],AV.tup [],AV.bool false,AV.bool false,iI 2,AV.bool false,AV.bool false,AV.tup [],AV.tup [],AV.bool false,AV.bool false,AV.any,AV.any,AV.any,AV.any,AV.any,AV.any,AV.any,iI 2,AV.bool true,AV.bool true,AV.int IntKind.u8 (hbI s (↑a1:Int)),AV.bool (wordly (hbI s (↑a1:Int))),AV.bool false,AV.int IntKind.u8 (hbI s (↑a1:Int)),AV.bool (hbI s (↑a1:Int) == 64),AV.bool (hbI s (↑a1:Int) == 64),AV.bool false,AV.int IntKind.u8 (hbI s (↑a1:Int)),AV.bool (hbI s (↑a1:Int) == 35),AV.bool (hbI s (↑a1:Int) == 35),AV.bool true,AV.tup [],AV.tup [],AV.bool true,AV.bool true,AV.any,AV.any,AV.any,AV.any,AV.any,AV.any,AV.any,AV.any,AV.any,AV.any,AV.any,AV.any,AV.any,AV.any,AV.any,AV.any,AV.any,AV.any,AV.any] [some (Row.lst 57 5 [AV.agg [AV.str s,iI (↑a1:Int),iI (↑n:Int),iI 0,iI 0]]),some (Row.lst 35 2 [AV.agg [AV.sl false 8 0 N'.length Cp.no,iI root]]),none,none,none,none,none,none,some (Row.gen 62 3 N'.length fun (i:Nat) => neV (N'.getD i dN)),some (Row.lst 3 1 [iI (↑i:Int)]),some (Row.gen 3 1 ((Src.gen l.length fun (j:Nat) => iI (↑(l.getD (0 + j) 0):Int)).len + 1) fun (j:Nat) => bif j.blt (Src.gen l.length fun (j:Nat) => iI (↑(l.getD (0 + j) 0):Int)).len then iI (↑(l.getD (0 + j) 0):Int) else (Src.lst [iI (↑i:Int)]).at_ (j - (Src.gen l.length fun (j:Nat) => iI (↑(l.getD (0 + j) 0):Int)).len))]) F' else bif hbI s (↑a1:Int) == 40 then k Exit.normal (St.mk [AV.ptr false 0 0 0,AV.ptr false 1 0 0,iI 2,AV.any,AV.any,AV.any,AV.any,AV.sl false 10 0 ((Src.gen l.length fun (j:Nat) => iI (↑(l.getD (0 + j) 0):Int)).len + 1) Cp.no,iI (↑i:Int),AV.int IntKind.u8 (hbI s (↑a1:Int)),AV.any,AV.any,AV.any,AV.any,AV.any,AV.any,AV.any,AV.any,AV.any,AV.any,AV.any,AV.any,AV.any,AV.any,AV.ptr false 0 0 0,AV.ptr false 0 0 0,AV.ptr false 0 0 4,iI 0,AV.bool true,AV.ptr false 0 0 0,AV.ptr false 1 0 0,iI 2,iI 3,iI (↑i:Int),AV.sl false 4 0 l.length Cp.no,iI (↑i:Int),AV.sl false 9 0 1 Cp.tight,AV.sl false 10 0 ((Src.gen l.length fun (j:Nat) => iI (↑(l.getD (0 + j) 0):Int)).len + 1) Cp.no,AV.ptr false 0 0 0,AV.int IntKind.u8 (hbI s (↑a1:Int)),iI 2,AV.bool false,AV.bool false,AV.tup [],AV.tup [],AV.bool false,AV.bool false,iI 2,AV.bool false,AV.bool false,AV.tup [],AV.tup [],AV.bool false,AV.bool false,AV.any,AV.any,AV.any,AV.any,AV.any,AV.any,AV.any,iI 2,AV.bool true,AV.bool true,AV.int IntKind.u8 (hbI s (↑a1:Int)),AV.bool (wordly (hbI s (↑a1:Int))),AV.bool false,AV.int IntKind.u8 (hbI s (↑a1:Int)),AV.bool (hbI s (↑a1:Int) == 64),AV.bool (hbI s (↑a1:Int) == 64),AV.bool false,AV.int IntKind.u8 (hbI s (↑a1:Int)),AV.bool (hbI s (↑a1:Int) == 35),AV.bool (hbI s (↑a1:Int) == 35),AV.bool false,AV.int IntKind.u8 (hbI s (↑a1:Int)),AV.bool (hbI s (↑a1:Int) == 40),AV.bool (hbI s (↑a1:Int) == 40),AV.bool true,AV.any,AV.any,AV.any,AV.any,AV.any,AV.any,AV.any,AV.any,AV.any,AV.any,AV.any,AV.any,AV.any,AV.any,AV.any,AV.any,AV.any,AV.any,AV.any] [some (Row.lst 57 5 [AV.agg [AV.str s,iI (↑a1:Int),iI (↑n:Int),iI 0,iI 0]]),some (Row.lst 35 2 [AV.agg [AV.sl false 8 0 N'.length Cp.no,iI root]]),none,none,none,none,none,none,some (Row.gen 62 3 N'.length fun (i:Nat) => neV (N'.getD i dN)),some (Row.lst 3 1 [iI (↑i:Int)]),some (Row.gen 3 1 ((Src.gen l.length fun (j:Nat) => iI (↑(l.getD (0 + j) 0):Int)).len + 1) fun (j:Nat) => bif j.blt (Src.gen l.length fun (j:Nat) => iI (↑(l.getD (0 + j) 0):Int)).len then iI (↑(l.getD (0 + j) 0):Int) else (Src.lst [iI (↑i:Int)]).at_ (j - (Src.gen l.length fun (j:Nat) => iI (↑(l.getD (0 + j) 0):Int)).len))]) F' else k (Exit.exit 0) (St.mk [AV.ptr false 0 0 0,AV.ptr false 1 0 0,iI 2,AV.any,AV.any,AV.any,AV.any,AV.sl false 10 0 ((Src.gen l.length fun (j:Nat) => iI (↑(l.getD (0 + j) 0):Int)).len + 1) Cp.no,iI (↑i:Int),AV.int IntKind.u8 (hbI s (↑a1:Int)),AV.any,AV.any,AV.any,AV.any,AV.any,AV.any,AV.any,AV.any,AV.any,AV.any,AV.any,AV.any,AV.any,AV.any,AV.ptr false 0 0 0,AV.ptr false 0 0 0,AV.ptr false 0 0 4,iI 0,AV.bool true,AV.ptr false 0 0 0,AV.ptr false 1 0 0,iI 2,iI 3,iI (↑i:Int),AV.sl false 4 0 l.length Cp.no,iI (↑i:Int),AV.sl false 9 0 1 Cp.tight,AV.sl false 10 0 ((Src.gen l.length fun (j:Nat) => iI (↑(l.getD (0 + j) 0):Int)).len + 1) Cp.no,AV.ptr false 0 0 0,AV.int IntKind.u8 (hbI s (↑a1:Int)),iI 2,AV.bool false,AV.bool false,AV.tup [],AV.tup [],AV.bool false,AV.bool false,iI 2,AV.bool false,AV.bool false,AV.tup [],AV.tup [],AV.bool false,AV.bool false,AV.any,AV.any,AV.any,AV.any,AV.any,AV.any,AV.any,iI 2,AV.bool true,AV.bool true,AV.int IntKind.u8 (hbI s (↑a1:Int)),AV.bool (wordly (hbI s (↑a1:Int))),AV.bool false,AV.int IntKind.u8 (hbI s (↑a1:Int)),AV.bool (hbI s (↑a1:Int) == 64),AV.bool (hbI s (↑a1:Int) == 64),AV.bool false,AV.int IntKind.u8 (hbI s (↑a1:Int)),AV.bool (hbI s (↑a1:Int) == 35),AV.bool (hbI s (↑a1:Int) == 35),AV.bool false,AV.int IntKind.u8 (hbI s (↑a1:Int)),AV.bool (hbI s (↑a1:Int) == 40),AV.bool (hbI s (↑a1:Int) == 40),AV.bool false,AV.any,AV.any,AV.any,AV.any,AV.any,AV.any,AV.any,AV.any,AV.any,AV.any,AV.any,AV.any,AV.any,AV.any,AV.any,AV.any,AV.any,AV.any,AV.any] [some (Row.lst 57 5 [AV.agg [AV.str s,iI (↑a1:Int),iI (↑n:Int),iI 0,iI 0]]),some (Row.lst 35 2 [AV.agg [AV.sl false 8 0 N'.length Cp.no,iI root]]),none,none,none,none,none,none,some (Row.gen 62 3 N'.length fun (i:Nat) => neV (N'.getD i dN)),some (Row.lst 3 1 [iI (↑i:Int)]),some (Row.gen 3 1 ((Src.gen l.length fun (j:Nat) => iI (↑(l.getD (0 + j) 0):Int)).len + 1) fun (j:Nat) => bif j.blt (Src.gen l.length fun (j:Nat) => iI (↑(l.getD (0 + j) 0):Int)).len then iI (↑(l.getD (0 + j) 0):Int) else (Src.lst [iI (↑i:Int)]).at_ (j - (Src.gen l.length fun (j:Nat) => iI (↑(l.getD (0 + j) 0):Int)).len))]) F' else False) /\ ∀ (a' e:Nat),part a = PR.err a' e -> ∀ (p':Nat) (N':List NE) (v:Int) (F':Fz),p'.le 200000 -> RErr s a N_1 F N' F' -> bif decide (0 + l.length <= l.length) && (true && (true && decide (((Src.gen l.length fun (j:Nat) => iI (↑(l.getD (0 + j) 0):Int)).len + 1) * 8 <= 140737488355328))) then ((↑p':Int) - 0).NonNeg /\ bif wordly (hbI s (↑p':Int)) then k Exit.normal (St.mk [AV.ptr false 0 0 0,AV.ptr false 1 0 0,iI 2,AV.any,AV.any,AV.any,AV.any,AV.sl false 10 0 ((Src.gen l.length fun (j:Nat) => iI (↑(l.getD (0 + j) 0):Int)).len + 1) Cp.no,iI v,AV.int IntKind.u8 (hbI s (↑p':Int)),AV.any,AV.any,AV.any,AV.any,AV.any,AV.any,AV.any,AV.any,AV.any,AV.any,AV.any,AV.any,AV.any,AV.any,AV.ptr false 0 0 0,AV.ptr false 0 0 0,AV.ptr false 0 0 4,iI 0,AV.bool true,AV.ptr false 0 0 0,AV.ptr false 1 0 0,iI 2,iI 3,iI v,AV.sl false 4 0 l.length Cp.no,iI v,AV.sl false 9 0 1 Cp.tight,AV.sl false 10 0 ((Src.gen l.length fun (j:Nat) => iI (↑(l.getD (0 + j) 0):Int)).len + 1) Cp.no,AV.ptr false 0 0 0,AV.int IntKind.u8 (hbI s (↑p':Int)),iI 2,AV.bool false,AV.bool false,AV.tup [],AV.tup [],AV.bool false,AV.bool false,iI 2,AV.bool false,AV.bool false,AV.tup [],AV.tup [],AV.bool false,AV.bool false,AV.any,AV.any,AV.any,AV.any,AV.any,AV.any,AV.any,iI 2,AV.bool true,AV.bool true,AV.int IntKind.u8 (hbI s (↑p':Int)),AV.bool (wordly (hbI s (↑p':Int))),AV.bool true,AV.tup [],AV.tup [],AV.bool true,AV.bool true,AV.tup [],AV.tup [],AV.bool true,AV.bool true,AV.tup [],AV.tup [],AV.bool true,AV.bool true,AV.any,AV.any,AV.any,AV.any,AV.any,AV.any,AV.any,AV.any,AV.any,AV.any,AV.any,AV.any,AV.any,AV.any,AV.any,AV.any,AV.any,AV.any,AV.any] [some (Row.lst 57 5 [AV.agg [AV.str s,iI (↑p':Int),iI (↑n:Int),iI (↑a':Int),iI (↑e:Int)]]),some (Row.lst 35 2 [AV.agg [AV.sl false 8 0 N'.length Cp.no,iI root]]),none,none,none,none,none,none,some (Row.gen 62 3 N'.length fun (i:Nat) => neV (N'.getD i dN)),some (Row.lst 3 1 [iI v]),some (Row.gen 3 1 ((Src.gen l.length fun (j:Nat) => iI (↑(l.getD (0 + j) 0):Int)).len + 1) fun (j:Nat) => bif j.blt (Src.gen l.length fun (j:Nat) => iI (↑(l.getD (0 + j) 0):Int)).len then iI (↑(l.getD (0 + j) 0):Int) else (Src.lst [iI v]).at_ (j - (Src.gen l.length fun (j:Nat) => iI (↑(l.getD (0 + j) 0):Int)).len))]) F' else bif hbI s (↑p':Int) == 64 then k Exit.normal (St.mk [AV.ptr false 0 0 0,AV.ptr false 1 0 0,iI 2,AV.any,AV.any,AV.any,AV.any,AV.sl false 10 0 ((Src.gen l.length fun (j:Nat) => iI (↑(l.getD (0 + j) 0):Int)).len + 1) Cp.no,iI v,AV.int IntKind.u8 (hbI s (↑p':Int)),AV.any,AV.any,AV.any,AV.any,AV.any,AV.any,AV.any,AV.any,AV.any,AV.any,AV.any,AV.any,AV.any,AV.any,AV.ptr false 0 0 0,AV.ptr false 0 0 0,AV.ptr false 0 0 4,iI 0,AV.bool true,AV.ptr false 0 0 0,AV.ptr false 1 0 0,iI 2,iI 3,iI v,AV.sl false 4 0 l.length Cp.no,iI v,AV.sl false 9 0 1 Cp.tight,AV.sl false 10 0 ((Src.gen l.length fun (j:Nat) => iI (↑(l.getD (0 + j) 0):Int)).len + 1) Cp.no,AV.ptr false 0 0 0,AV.int IntKind.u8 (hbI s (↑p':Int)),iI 2,AV.bool false,AV.bool false,AV.tup [],AV.tup [],AV.bool false,AV.bool false,iI 2,AV.bool false,AV.bool false,AV.tup [],AV.tup [],AV.bool false,AV.bool false,AV.any,AV.any,AV.any,AV.any,AV.any,AV.any,AV.any,iI 2,AV.bool true,AV.bool true,AV.int IntKind.u8 (hbI s (↑p':Int)),AV.bool (wordly (hbI s (↑p':Int))),AV.bool false,AV.int IntKind.u8 (hbI s (↑p':Int)),AV.bool (hbI s (↑p':Int) == 64),AV.bool (hbI s (↑p':Int) == 64),AV.bool true,AV.tup [],AV.tup [],AV.bool true,AV.bool true,AV.tup [],AV.tup [],AV.bool true,AV.bool true,AV.any,AV.any,AV.any,AV.any,AV.any,AV.any,AV.any,AV.any,AV.any,AV.any,AV.any,AV.any,AV.any,AV.any,AV.any,AV.any,AV.any,AV.any,AV.any] [some (Row.lst 57 5 [AV.agg [AV.str s,iI (↑p':Int),iI (↑n:Int),iI (↑a':Int),iI (↑e:Int)]]),some (Row.lst 35 2 [AV.agg [AV.sl false 8 0 N'.length Cp.no,iI root]]),none,none,none,none,none,none,some (Row.gen 62 3 N'.length fun (i:Nat) => neV (N'.getD i dN)),some (Row.lst 3 1 [iI v]),some (Row.gen 3 1 ((Src.gen l.length fun (j:Nat) => iI (↑(l.getD (0 + j) 0):Int)).len + 1) fun (j:Nat) => bif j.blt (Src.gen l.length fun (j:Nat) => iI (↑(l.getD (0 + j) 0):Int)).len then iI (↑(l.getD (0 + j) 0):Int) else (Src.lst [iI v]).at_ (j - (Src.gen l.length fun (j:Nat) => iI (↑(l.getD (0 + j) 0):Int)).len))]) F' else bif hbI s (↑p':Int) == 35 then k Exit.normal (St.mk [AV.ptr false 0 0 0,AV.ptr false 1 0 0,iI 2,AV.any,AV.any,AV.any,AV.any,AV.sl false 10 0 ((Src.gen l.length fun (j:Nat) => iI (↑(l.getD (0 + j) 0):Int)).len + 1) Cp.no,iI v,AV.int IntKind.u8 (hbI s (↑p':Int)),AV.any,AV.any,AV.any,AV.any,AV.any,AV.any,AV.any,AV.any,AV.any,AV.any,AV.any,AV.any,AV.any,AV.any,AV.ptr false 0 0 0,AV.ptr false 0 0 0,AV.ptr false 0 0 4,iI 0,AV.bool true,AV.ptr false 0 0 0,AV.ptr false 1 0 0,iI 2,iI 3,iI v,AV.sl false 4 0 l.length Cp.no,iI v,AV.sl false 9 0 1 Cp.tight,AV.sl false 10 0 ((Src.gen l.length fun (j:Nat) => iI (↑(l.getD (0 + j) 0):Int)).len + 1) Cp.no,AV.ptr false 0 0 0,AV.int IntKind.u8 (hbI s (↑p':Int)),iI 2,AV.bool false,AV.bool false,AV.tup [],AV.tup [],AV.bool false,AV.bool false,iI 2,AV.bool false,AV.bool false,AV.tup [],AV.tup [],AV.bool false,AV.bool false,AV.any,AV.any,AV.any,AV.any,AV.any,AV.any,AV.any,iI 2,AV.bool true,AV.bool true,AV.int IntKind.u8 (hbI s (↑p':Int)),AV.bool (wordly (hbI s (↑p':Int))),AV.bool false,AV.int IntKind.u8 (hbI s (↑p':Int)),AV.bool (hbI s (↑p':Int) == 64),AV.bool (hbI s (↑p':Int) == 64),AV.bool false,AV.int IntKind.u8 (hbI s (↑p':Int)),AV.bool (hbI s (↑p':Int) == 35),AV.bool (hbI s (↑p':Int) == 35),AV.bool true,AV.tup [],AV.tup [],AV.bool true,AV.bool true,AV.any,AV.any,AV.any,AV.any,AV.any,AV.any,AV.any,AV.any,AV.any,AV.any,AV.any,AV.any,AV.any,AV.any,AV.any,AV.any,AV.any,AV.any,AV.any] [some (Row.lst 57 5 [AV.agg [AV.str s,iI (↑p':Int),iI (↑n:Int),iI (↑a':Int),iI (↑e:Int)]]),some (Row.lst 35 2 [AV.agg [AV.sl false 8 0 N'.length Cp.no,iI root]]),none,none,none,none,none,none,some (Row.gen 62 3 N'.length fun (i:Nat) => neV (N'.getD i dN)),some (Row.lst 3 1 [iI v]),some (Row.gen 3 1 ((Src.gen l.length fun (j:Nat) => iI (↑(l.getD (0 + j) 0):Int)).len + 1) fun (j:Nat) => bif j.blt (Src.gen l.length fun (j:Nat) => iI (↑(l.getD (0 + j) 0):Int)).len then iI (↑(l.getD (0 + j) 0):Int) else (Src.lst [iI v]).at_ (j - (Src.gen l.length fun (j:Nat) => iI (↑(l.getD (0 + j) 0):Int)).len))]) F' else bif hbI s (↑p':Int) == 40 then k Exit.normal (St.mk [AV.ptr false 0 0 0,AV.ptr false 1 0 0,iI 2,AV.any,AV.any,AV.any,AV.any,AV.sl false 10 0 ((Src.gen l.length fun (j:Nat) => iI (↑(l.getD (0 + j) 0):Int)).len + 1) Cp.no,iI v,AV.int IntKind.u8 (hbI s (↑p':Int)),AV.any,AV.any,AV.any,AV.any,AV.any,AV.any,AV.any,AV.any,AV.any,AV.any,AV.any,AV.any,AV.any,AV.any,AV.ptr false 0 0 0,AV.ptr false 0 0 0,AV.ptr false 0 0 4,iI 0,AV.bool true,AV.ptr false 0 0 0,AV.ptr false 1 0 0,iI 2,iI 3,iI v,AV.sl false 4 0 l.length Cp.no,iI v,AV.sl false 9 0 1 Cp.tight,AV.sl false 10 0 ((Src.gen l.length fun (j:Nat) => iI (↑(l.getD (0 + j) 0):Int)).len + 1) Cp.no,AV.ptr false 0 0 0,AV.int IntKind.u8 (hbI s (↑p':Int)),iI 2,AV.bool false,AV.bool false,AV.tup [],AV.tup [],AV.bool false,AV.bool false,iI 2,AV.bool false,AV.bool false,AV.tup [],AV.tup [],AV.bool false,AV.bool false,AV.any,AV.any,AV.any,AV.any,AV.any,AV.any,AV.any,iI 2,AV.bool true,AV.bool true,AV.int IntKind.u8 (hbI s (↑p':Int)),AV.bool (wordly (hbI s (↑p':Int))),AV.bool false,AV.int IntKind.u8 (hbI s (↑p':Int)),AV.bool (hbI s (↑p':Int) == 64),AV.bool (hbI s (↑p':Int) == 64),AV.bool false,AV.int IntKind.u8 (hbI s (↑p':Int)),AV.bool (hbI s (↑p':Int) == 35),AV.bool (hbI s (↑p':Int) == 35),AV.bool false,AV.int IntKind.u8 (hbI s (↑p':Int)),AV.bool (hbI s (↑p':Int) == 40),AV.bool (hbI s (↑p':Int) == 40),AV.bool true,AV.any,AV.any,AV.any,AV.any,AV.any,AV.any,AV.any,AV.any,AV.any,AV.any,AV.any,AV.any,AV.any,AV.any,AV.any,AV.any,AV.any,AV.any,AV.any] [some (Row.lst 57 5 [AV.agg [AV.str s,iI (↑p':Int),iI (↑n:Int),iI (↑a':Int),iI (↑e:Int)]]),some (Row.lst 35 2 [AV.agg [AV.sl false 8 0 N'.length Cp.no,iI root]]),none,none,none,none,none,none,some (Row.gen 62 3 N'.length fun (i:Nat) => neV (N'.getD i dN)),some (Row.lst 3 1 [iI v]),some (Row.gen 3 1 ((Src.gen l.length fun (j:Nat) => iI (↑(l.getD (0 + j) 0):Int)).len + 1) fun (j:Nat) => bif j.blt (Src.gen l.length fun (j:Nat) => iI (↑(l.getD (0 + j) 0):Int)).len then iI (↑(l.getD (0 + j) 0):Int) else (Src.lst [iI v]).at_ (j - (Src.gen l.length fun (j:Nat) => iI (↑(l.getD (0 + j) 0):Int)).len))]) F' else k (Exit.exit 0) (St.mk [AV.ptr false 0 0 0,AV.ptr false 1 0 0,iI 2,AV.any,AV.any,AV.any,AV.any,AV.sl false 10 0 ((Src.gen l.length fun (j:Nat) => iI (↑(l.getD (0 + j) 0):Int)).len + 1) Cp.no,iI v,AV.int IntKind.u8 (hbI s (↑p':Int)),AV.any,AV.any,AV.any,AV.any,AV.any,AV.any,AV.any,AV.any,AV.any,AV.any,AV.any,AV.any,AV.any,AV.any,AV.ptr false 0 0 0,AV.ptr false 0 0 0,AV.ptr false 0 0 4,iI 0,AV.bool true,AV.ptr false 0 0 0,AV.ptr false 1 0 0,iI 2,iI 3,iI v,AV.sl false 4 0 l.length Cp.no,iI v,AV.sl false 9 0 1 Cp.tight,AV.sl false 10 0 ((Src.gen l.length fun (j:Nat) => iI (↑(l.getD (0 + j) 0):Int)).len + 1) Cp.no,AV.ptr false 0 0 0,AV.int IntKind.u8 (hbI s (↑p':Int)),iI 2,AV.bool false,AV.bool false,AV.tup [],AV.tup [],AV.bool false,AV.bool false,iI 2,AV.bool false,AV.bool false,AV.tup [],AV.tup [],AV.bool false,AV.bool false,AV.any,AV.any,AV.any,AV.any,AV.any,AV.any,AV.any,iI 2,AV.bool true,AV.bool true,AV.int IntKind.u8 (hbI s (↑p':Int)),AV.bool (wordly (hbI s (↑p':Int))),AV.bool false,AV.int IntKind.u8 (hbI s (↑p':Int)),AV.bool (hbI s (↑p':Int) == 64),AV.bool (hbI s (↑p':Int) == 64),AV.bool false,AV.int IntKind.u8 (hbI s (↑p':Int)),AV.bool (hbI s (↑p':Int) == 35),AV.bool (hbI s (↑p':Int) == 35),AV.bool false,AV.int IntKind.u8 (hbI s (↑p':Int)),AV.bool (hbI s (↑p':Int) == 40),AV.bool (hbI s (↑p':Int) == 40),AV.bool false,AV.any,AV.any,AV.any,AV.any,AV.any,AV.any,AV.any,AV.any,AV.any,AV.any,AV.any,AV.any,AV.any,AV.any,AV.any,AV.any,AV.any,AV.any,AV.any] [some (Row.lst 57 5 [AV.agg [AV.str s,iI (↑p':Int),iI (↑n:Int),iI (↑a':Int),iI (↑e:Int)]]),some (Row.lst 35 2 [AV.agg [AV.sl false 8 0 N'.length Cp.no,iI root]]),none,none,none,none,none,none,some (Row.gen 62 3 N'.length fun (i:Nat) => neV (N'.getD i dN)),some (Row.lst 3 1 [iI v]),some (Row.gen 3 1 ((Src.gen l.length fun (j:Nat) => iI (↑(l.getD (0 + j) 0):Int)).len + 1) fun (j:Nat) => bif j.blt (Src.gen l.length fun (j:Nat) => iI (↑(l.getD (0 + j) 0):Int)).len then iI (↑(l.getD (0 + j) 0):Int) else (Src.lst [iI v]).at_ (j - (Src.gen l.length fun (j:Nat) => iI (↑(l.getD (0 + j) 0):Int)).len))]) F' else False):=by kernel_rfl
theorem vr23b_2 (R:RR) (s:List UInt8) (p n e:Nat) (bd root:Int) (N:List NE) (part:Nat -> PR) (k:Exit -> St -> Fz -> Prop) (F:Fz):rnx (env23 R s n 3 part) 1000 23 (loopOf fi23 0) (famB 2 s p n bd ((e + 1:Nat):Int) root N) k F = (k (Exit.exit 0) (St.mk [AV.ptr false 0 0 0,AV.ptr false 1 0 0,iI 2,AV.any,AV.any,AV.any,AV.any,AV.any,AV.any,AV.any,AV.any,AV.any,AV.any,AV.any,AV.any,AV.any,AV.any,AV.any,AV.any,AV.any,AV.any,AV.any,AV.any,AV.any,AV.ptr false 0 0 0,AV.ptr false 0 0 0,AV.ptr false 0 0 4,iI (↑(e + 1):Int),AV.bool false,AV.any,AV.any,AV.any,AV.any,AV.any,AV.any,AV.any,AV.any,AV.any,AV.any,AV.any,AV.any,AV.any,AV.any,AV.any,AV.any,AV.any,AV.any,AV.any,AV.any,AV.any,AV.any,AV.any,AV.any,AV.any,AV.any,AV.any,AV.any,AV.any,AV.any,AV.any,AV.any,AV.any,AV.any,AV.any,AV.any,AV.any,AV.any,AV.any,AV.any,AV.any,AV.any,AV.any,AV.any,AV.any,AV.any,AV.any,AV.any,AV.any,AV.any,AV.any,AV.any,AV.any,AV.any,AV.any,AV.any,AV.any,AV.any,AV.any,AV.any,AV.any,AV.any,AV.any,AV.any,AV.any,AV.any,AV.any,AV.any,AV.any] [some (Row.lst 57 5 [AV.agg [AV.str s,iI (↑p:Int),iI (↑n:Int),iI bd,iI (↑(e + 1):Int)]]),some (Row.lst 35 2 [AV.agg [AV.sl false 3 0 N.length Cp.no,iI root]]),none,some (Row.gen 62 3 N.length fun (i:Nat) => neV (N.getD i dN))]) F):=by kernel_rfl
theorem vr23_1 (R:RR) (s:List UInt8) (p n:Nat) (root:Int) (N:List NE) (l:List Nat) (part:Nat -> PR) (k:Exit -> St -> Fz -> Prop) (F:Fz):rnx (env23 R s n 2 part) 1000 23 (loopOf fi23 0) (fam23 1 s p n 0 0 root N l) k F = ((2:Int) = 2 /\ n <= 16 /\ ∃ (N_1:List NE),∃ (a:Nat),s = s /\ (↑p:Int) = (↑a:Int) /\ (↑n:Int) = (↑n:Int) /\ (0:Int) = 0 /\ (0:Int) = 0 /\ N.length = N_1.length /\ some (Row.gen 62 3 N.length fun (i:Nat) => neV (N.getD i dN)) = some (Row.gen 62 3 N_1.length fun (i:Nat) => neV (N_1.getD i dN)) /\ RIn s a N_1 F /\ (∀ (t:Tr) (a1:Nat),part a = PR.ok t a1 -> ∀ (N':List NE) (i:Nat) (F':Fz),ROk s a N_1 F t a1 N' i F' -> bif decide (0 + l.length <= l.length) && (true && (true && decide (((Src.gen l.length fun (j:Nat) => iI (↑(l.getD (0 + j) 0):Int)).len + 1) * 8 <= 140737488355328))) then ((↑a1:Int) - 0).NonNeg /\ bif hbI s (↑a1:Int) == 38 then k Exit.normal (St.mk [AV.ptr false 0 0 0,AV.ptr false 1 0 0,iI 1,AV.any,AV.any,AV.any,AV.any,AV.sl false 10 0 ((Src.gen l.length fun (j:Nat) => iI (↑(l.getD (0 + j) 0):Int)).len + 1) Cp.no,iI (↑i:Int),AV.int IntKind.u8 (hbI s (↑a1:Int)),AV.any,AV.any,AV.any,AV.any,AV.any,AV.any,AV.any,AV.any,AV.any,AV.any,AV.any,AV.any,AV.any,AV.any,AV.ptr false 0 0 0,AV.ptr false 0 0 0,AV.ptr false 0 0 4,iI 0,AV.bool true,AV.ptr false 0 0 0,AV.ptr false 1 0 0,iI 1,iI 2,iI (↑i:Int),AV.sl false 4 0 l.length Cp.no,iI (↑i:Int),AV.sl false 9 0 1 Cp.tight,AV.sl false 10 0 ((Src.gen l.length fun (j:Nat) => iI (↑(l.getD (0 + j) 0):Int)).len + 1) Cp.no,AV.ptr false 0 0 0,AV.int IntKind.u8 (hbI s (↑a1:Int)),iI 1,AV.bool false,AV.bool false,AV.tup [],AV.tup [],AV.bool false,AV.bool false,iI 1,AV.bool true,AV.bool true,AV.int IntKind.u8 (hbI s (↑a1:Int)),AV.bool (hbI s (↑a1:Int) == 38),AV.bool (hbI s (↑a1:Int) == 38),AV.bool true,AV.ptr false 0 0 0,AV.ptr false 0 0 0,AV.ptr false 0 0 1,iI (↑a1:Int),iI (IntKind.i64.wrap ((↑a1:Int) + 1)),AV.ptr false 0 0 0,AV.ptr false 0 0 1,AV.any,AV.any,AV.any,AV.any,AV.any,AV.any,AV.any,AV.any,AV.any,AV.any,AV.any,AV.any,AV.any,AV.any,AV.any,AV.any,AV.any,AV.any,AV.any,AV.any,AV.any,AV.any,AV.any,AV.any,AV.any,AV.any,AV.any,AV.any,AV.any,AV.any,AV.any,AV.any,AV.any,AV.any,AV.any,AV.any,AV.any] [some (Row.lst 57 5 [AV.agg [AV.str s,iI (IntKind.i64.wrap ((↑a1:Int) + 1)),iI (↑n:Int),iI 0,iI 0]]),some (Row.lst 35 2 [AV.agg [AV.sl false 8 0 N'.length Cp.no,iI root]]),none,none,none,none,none,none,some (Row.gen 62 3 N'.length fun (i:Nat) => neV (N'.getD i dN)),some (Row.lst 3 1 [iI (↑i:Int)]),some (Row.gen 3 1 ((Src.gen l.length fun (j:Nat) => iI (↑(l.getD (0 + j) 0):Int)).len + 1) fun (j:Nat) => bif j.blt (Src.gen l.length fun (j:Nat) => iI (↑(l.getD (0 + j) 0):Int)).len then iI (↑(l.getD (0 + j) 0):Int) else (Src.lst [iI (↑i:Int)]).at_ (j - (Src.gen l.length fun (j:Nat) => iI (↑(l.getD (0 + j) 0):Int)).len))]) F' else k (Exit.exit 0) (St.mk [AV.ptr false 0 0 0,AV.ptr false 1 0 0,iI 1,AV.any,AV.any,AV.any,AV.any,AV.sl false 10 0 ((Src.gen l.length fun (j:Nat) => iI (↑(l.getD (0 + j) 0):Int)).len + 1) Cp.no,iI (↑i:Int),AV.int IntKind.u8 (hbI s (↑a1:Int)),AV.any,AV.any,AV.any,AV.any,AV.any,AV.any,AV.any,AV.any,AV.any,AV.any,AV.any,AV.any,AV.any,AV.any,AV.ptr false 0 0 0,AV.ptr false 0 0 0,AV.ptr false 0 0 4,iI 0,AV.bool true,AV.ptr false 0 0 0,AV.ptr false 1 0 0,iI 1,iI 2,iI (↑i:Int),AV.sl false 4 0 l.length Cp.no,iI (↑i:Int),AV.sl false 9 0 1 Cp.tight,AV.sl false 10 0 ((Src.gen l.length fun (j:Nat) => iI (↑(l.getD (0 + j) 0):Int)).len + 1) Cp.no,AV.ptr false 0 0 0,AV.int IntKind.u8 (hbI s (↑a1:Int)),iI 1,AV.bool false,AV.bool false,AV.tup [],AV.tup [],AV.bool false,AV.bool false,iI 1,AV.bool true,AV.bool true,AV.int IntKind.u8 (hbI s (↑a1:Int)),AV.bool (hbI s (↑a1:Int) == 38),AV.bool (hbI s (↑a1:Int) == 38),AV.bool false,AV.any,AV.any,AV.any,AV.any,AV.any,AV.any,AV.any,iI 1,AV.bool false,AV.bool false,AV.tup [],AV.tup [],AV.tup [],AV.tup [],AV.tup [],AV.tup [],AV.tup [],AV.tup [],AV.tup [],AV.tup [],AV.tup [],AV.tup [],AV.tup [],AV.tup [],AV.bool false,AV.any,AV.any,AV.any,AV.any,AV.any,AV.any,AV.any,AV.any,AV.any,AV.any,AV.any,AV.any,AV.any,AV.any,AV.any,AV.any,AV.any,AV.any,AV.any] [some (Row.lst 57 5 [AV.agg [AV.str s,iI (↑a1:Int),iI (↑n:Int),iI 0,iI 0]]),some (Row.lst 35 2 [AV.agg [AV.sl false 8 0 N'.length Cp.no,iI root]]),none,none,none,none,none,none,some (Row.gen 62 3 N'.length fun (i:Nat) => neV (N'.getD i dN)),some (Row.lst 3 1 [iI (↑i:Int)]),some (Row.gen 3 1 ((Src.gen l.length fun (j:Nat) => iI (↑(l.getD (0 + j) 0):Int)).len + 1) fun (j:Nat) => bif j.blt (Src.gen l.length fun (j:Nat) => iI (↑(l.getD (0 + j) 0):Int)).len then iI (↑(l.getD (0 + j) 0):Int) else (Src.lst [iI (↑i:Int)]).at_ (j - (Src.gen l.length fun (j:Nat) => iI (↑(l.getD (0 + j) 0):Int)).len))]) F' else False) /\ ∀ (a' e:Nat),part a = PR.err a' e -> ∀ (p':Nat) (N':List NE) (v:Int) (F':Fz),p'.le 200000 -> RErr s a N_1 F N' F' -> bif decide (0 + l.length <= l.length) && (true && (true && decide (((Src.gen l.length fun (j:Nat) => iI (↑(l.getD (0 + j) 0):Int)).len + 1) * 8 <= 140737488355328))) then ((↑p':Int) - 0).NonNeg /\ bif hbI s (↑p':Int) == 38 then k Exit.normal (St.mk [AV.ptr false 0 0 0,AV.ptr false 1 0 0,iI 1,AV.any,AV.any,AV.any,AV.any,AV.sl false 10 0 ((Src.gen l.length fun (j:Nat) => iI (↑(l.getD (0 + j) 0):Int)).len + 1) Cp.no,iI v,AV.int IntKind.u8 (hbI s (↑p':Int)),AV.any,AV.any,AV.any,AV.any,AV.any,AV.any,AV.any,AV.any,AV.any,AV.any,AV.any,AV.any,AV.any,AV.any,AV.ptr false 0 0 0,AV.ptr false 0 0 0,AV.ptr false 0 0 4,iI 0,AV.bool true,AV.ptr false 0 0 0,AV.ptr false 1 0 0,iI 1,iI 2,iI v,AV.sl false 4 0 l.length Cp.no,iI v,AV.sl false 9 0 1 Cp.tight,AV.sl false 10 0 ((Src.gen l.length fun (j:Nat) => iI (↑(l.getD (0 + j) 0):Int)).len + 1) Cp.no,AV.ptr false 0 0 0,AV.int IntKind.u8 (hbI s (↑p':Int)),iI 1,AV.bool false,AV.bool false,AV.tup [],AV.tup [],AV.bool false,AV.bool false,iI 1,AV.bool true,AV.bool true,AV.int IntKind.u8 (hbI s (↑p':Int)),AV.bool (hbI s (↑p':Int) == 38),AV.bool (hbI s (↑p':Int) == 38),AV.bool true,AV.ptr false 0 0 0,AV.ptr false 0 0 0,AV.ptr false 0 0 1,iI (↑p':Int),iI (IntKind.i64.wrap ((↑p':Int) + 1)),AV.ptr false 0 0 0,AV.ptr false 0 0 1,AV.any,AV.any,AV.any,AV.any,AV.any,AV.any,AV.any,AV.any,AV.any,AV.any,AV.any,AV.any,AV.any,AV.any,AV.any,AV.any,AV.any,AV.any,AV.any,AV.any,AV.any,AV.any,AV.any,AV.any,AV.any,AV.any,AV.any,AV.any,AV.any,AV.any,AV.any,AV.any,AV.any,AV.any,AV.any,AV.any,AV.any] [some (Row.lst 57 5 [AV.agg [AV.str s,iI (IntKind.i64.wrap ((↑p':Int) + 1)),iI (↑n:Int),iI (↑a':Int),iI (↑e:Int)]]),some (Row.lst 35 2 [AV.agg [AV.sl false 8 0 N'.length Cp.no,iI root]]),none,none,none,none,none,none,some (Row.gen 62 3 N'.length fun (i:Nat) => neV (N'.getD i dN)),some (Row.lst 3 1 [iI v]),some (Row.gen 3 1 ((Src.gen l.length fun (j:Nat) => iI (↑(l.getD (0 + j) 0):Int)).len + 1) fun (j:Nat) => bif j.blt (Src.gen l.length fun (j:Nat) => iI (↑(l.getD (0 + j) 0):Int)).len then iI (↑(l.getD (0 + j) 0):Int) else (Src.lst [iI v]).at_ (j - (Src.gen l.length fun (j:Nat) => iI (↑(l.getD (0 + j) 0):Int)).len))]) F' else k (Exit.exit 0) (St.mk [AV.ptr false 0 0 0,AV.ptr false 1 0 0,iI 1,AV.any,AV.any,AV.any,AV.any,AV.sl false 10 0 ((Src.gen l.length fun (j:Nat) => iI (↑(l.getD (0 + j) 0):Int)).len + 1) Cp.no,iI v,AV.int IntKind.u8 (hbI s (↑p':Int)),AV.any,AV.any,AV.any,AV.any,AV.any,AV.any,AV.any,AV.any,AV.any,AV.any,AV.any,AV.any,AV.any,AV.any,AV.ptr false 0 0 0,AV.ptr false 0 0 0,AV.ptr false 0 0 4,iI 0,AV.bool true,AV.ptr false 0 0 0,AV.ptr false 1 0 0,iI 1,iI 2,iI v,AV.sl false 4 0 l.length Cp.no,iI v,AV.sl false 9 0 1 Cp.tight,AV.sl false 10 0 ((Src.gen l.length fun (j:Nat) => iI (↑(l.getD (0 + j) 0):Int)).len + 1) Cp.no,AV.ptr false 0 0 0,AV.int IntKind.u8 (hbI s (↑p':Int)),iI 1,AV.bool false,AV.bool false,AV.tup [],AV.tup [],AV.bool false,AV.bool false,iI 1,AV.bool true,AV.bool true,AV.int IntKind.u8 (hbI s (↑p':Int)),AV.bool (hbI s (↑p':Int) == 38),AV.bool (hbI s (↑p':Int) == 38),AV.bool false,AV.any,AV.any,AV.any,AV.any,AV.any,AV.any,AV.any,iI 1,AV.bool false,AV.bool false,AV.tup [],AV.tup [],AV.tup [],AV.tup [],AV.tup [],AV.tup [],AV.tup [],AV.tup [],AV.tup [],AV.tup [],AV.tup [],AV.tup [],AV.tup [],AV.tup [],AV.bool false,AV.any,AV.any,AV.any,AV.any,AV.any,AV.any,AV.any,AV.any,AV.any,AV.any,AV.any,AV.any,AV.any,AV.any,AV.any,AV.any,AV.any,AV.any,AV.any] [some (Row.lst 57 5 [AV.agg [AV.str s,iI (↑p':Int),iI (↑n:Int),iI (↑a':Int),iI (↑e:Int)]]),some (Row.lst 35 2 [AV.agg [AV.sl false 8 0 N'.length Cp.no,iI root]]),none,none,none,none,none,none,some (Row.gen 62 3 N'.length fun (i:Nat) => neV (N'.getD i dN)),some (Row.lst 3 1 [iI v]),some (Row.gen 3 1 ((Src.gen l.length fun (j:Nat) => iI (↑(l.getD (0 + j) 0):Int)).len + 1) fun (j:Nat) => bif j.blt (Src.gen l.length fun (j:Nat) => iI (↑(l.getD (0 + j) 0):Int)).len then iI (↑(l.getD (0 + j) 0):Int) else (Src.lst [iI v]).at_ (j - (Src.gen l.length fun (j:Nat) => iI (↑(l.getD (0 + j) 0):Int)).len))]) F' else False):=by kernel_rfl
theorem vr23b_1 (R:RR) (s:List UInt8) (p n e:Nat) (bd root:Int) (N:List NE) (part:Nat -> PR) (k:Exit -> St -> Fz -> Prop) (F:Fz):rnx (env23 R s n 2 part) 1000 23 (loopOf fi23 0) (famB 1 s p n bd ((e + 1:Nat):Int) root N) k F = (k (Exit.exit 0) (St.mk [AV.ptr false 0 0 0,AV.ptr false 1 0 0,iI 1,AV.any,AV.any,AV.any,AV.any,AV.any,AV.any,AV.any,AV.any,AV.any,AV.any,AV.any,AV.any,AV.any,AV.any,AV.any,AV.any,AV.any,AV.any,AV.any,AV.any,AV.any,AV.ptr false 0 0 0,AV.ptr false 0 0 0,AV.ptr false 0 0 4,iI (↑(e + 1):Int),AV.bool false,AV.any,AV.any,AV.any,AV.any,AV.any,AV.any,AV.any,AV.any,AV.any,AV.any,AV.any,AV.any,AV.any,AV.any,AV.any,AV.any,AV.any,AV.any,AV.any,AV.any,AV.any,AV.any,AV.any,AV.any,AV.any,AV.any,AV.any,AV.any,AV.any,AV.any,AV.any,AV.any,AV.any,AV.any,AV.any,AV.any,AV.any,AV.any,AV.any,AV.any,AV.any,AV.any,AV.any,AV.any,AV.any,AV.any,AV.any,AV.any,AV.any,AV.any,AV.any,AV.any,AV.any,AV.any,AV.any,AV.any,AV.any,AV.any,AV.any,AV.any,AV.any,AV.any,AV.any,AV.any,AV.any,AV.any,AV.any,AV.any,AV.any] [some (Row.lst 57 5 [AV.agg [AV.str s,iI (↑p:Int),iI (↑n:Int),iI bd,iI (↑(e + 1):Int)]]),some (Row.lst 35 2 [AV.agg [AV.sl false 3 0 N.length Cp.no,iI root]]),none,some (Row.gen 62 3 N.length fun (i:Nat) => neV (N.getD i dN))]) F):=by kernel_rfl
theorem vr23_0 (R:RR) (s:List UInt8) (p n:Nat) (root:Int) (N:List NE) (l:List Nat) (part:Nat -> PR) (k:Exit -> St -> Fz -> Prop) (F:Fz):rnx (env23 R s n 1 part) 1000 23 (loopOf fi23 0) (fam23 0 s p n 0 0 root N l) k F = ((1:Int) = 1 /\ n <= 16 /\ ∃ (N_1:List NE),∃ (a:Nat),s = s /\ (↑p:Int) = (↑a:Int) /\ (↑n:Int) = (↑n:Int) /\ (0:Int) = 0 /\ (0:Int) = 0 /\ N.length = N_1.length /\ some (Row.gen 62 3 N.length fun (i:Nat) => neV (N.getD i dN)) = some (Row.gen 62 3 N_1.length fun (i:Nat) => neV (N_1.getD i dN)) /\ RIn s a N_1 F /\ (∀ (t:Tr) (a1:Nat),part a = PR.ok t a1 -> ∀ (N':List NE) (i:Nat) (F':Fz),ROk s a N_1 F t a1 N' i F' -> bif decide (0 + l.length <= l.length) && (true && (true && decide (((Src.gen l.length fun (j:Nat) => iI (↑(l.getD (0 + j) 0):Int)).len + 1) * 8 <= 140737488355328))) then ((↑a1:Int) - 0).NonNeg /\ bif hbI s (↑a1:Int) == 124 then k Exit.normal (St.mk [AV.ptr false 0 0 0,AV.ptr false 1 0 0,iI 0,AV.any,AV.any,AV.any,AV.any,AV.sl false 10 0 ((Src.gen l.length fun (j:Nat) => iI (↑(l.getD (0 + j) 0):Int)).len + 1) Cp.no,iI (↑i:Int),AV.int IntKind.u8 (hbI s (↑a1:Int)),AV.any,AV.any,AV.any,AV.any,AV.any,AV.any,AV.any,AV.any,AV.any,AV.any,AV.any,AV.any,AV.any,AV.any,AV.ptr false 0 0 0,AV.ptr false 0 0 0,AV.ptr false 0 0 4,iI 0,AV.bool true,AV.ptr false 0 0 0,AV.ptr false 1 0 0,iI 0,iI 1,iI (↑i:Int),AV.sl false 4 0 l.length Cp.no,iI (↑i:Int),AV.sl false 9 0 1 Cp.tight,AV.sl false 10 0 ((Src.gen l.length fun (j:Nat) => iI (↑(l.getD (0 + j) 0):Int)).len + 1) Cp.no,AV.ptr false 0 0 0,AV.int IntKind.u8 (hbI s (↑a1:Int)),iI 0,AV.bool true,AV.bool true,AV.int IntKind.u8 (hbI s (↑a1:Int)),AV.bool (hbI s (↑a1:Int) == 124),AV.bool (hbI s (↑a1:Int) == 124),AV.bool true,AV.tup [],AV.tup [],AV.tup [],AV.tup [],AV.tup [],AV.tup [],AV.bool true,AV.ptr false 0 0 0,AV.ptr false 0 0 0,AV.ptr false 0 0 1,iI (↑a1:Int),iI (IntKind.i64.wrap ((↑a1:Int) + 1)),AV.ptr false 0 0 0,AV.ptr false 0 0 1,AV.any,AV.any,AV.any,AV.any,AV.any,AV.any,AV.any,AV.any,AV.any,AV.any,AV.any,AV.any,AV.any,AV.any,AV.any,AV.any,AV.any,AV.any,AV.any,AV.any,AV.any,AV.any,AV.any,AV.any,AV.any,AV.any,AV.any,AV.any,AV.any,AV.any,AV.any,AV.any,AV.any,AV.any,AV.any,AV.any,AV.any] [some (Row.lst 57 5 [AV.agg [AV.str s,iI (IntKind.i64.wrap ((↑a1:Int) + 1)),iI (↑n:Int),iI 0,iI 0]]),some (Row.lst 35 2 [AV.agg [AV.sl false 8 0 N'.length Cp.no,iI root]]),none,none,none,none,none,none,some (Row.gen 62 3 N'.length fun (i:Nat) => neV (N'.getD i dN)),some (Row.lst 3 1 [iI (↑i:Int)]),some (Row.gen 3 1 ((Src.gen l.length fun (j:Nat) => iI (↑(l.getD (0 + j) 0):Int)).len + 1) fun (j:Nat) => bif j.blt (Src.gen l.length fun (j:Nat) => iI (↑(l.getD (0 + j) 0):Int)).len then iI (↑(l.getD (0 + j) 0):Int) else (Src.lst [iI (↑i:Int)]).at_ (j - (Src.gen l.length fun (j:Nat) => iI (↑(l.getD (0 + j) 0):Int)).len))]) F' else k (Exit.exit 0) (St.mk [AV.ptr false 0 0 0,AV.ptr false 1 0 0,iI 0,AV.any,AV.any,AV.any,AV.any,AV.sl false 10 0 ((Src.gen l.length fun (j:Nat) => iI (↑(l.getD (0 + j) 0):Int)).len + 1) Cp.no,iI (↑i:Int),AV.int IntKind.u8 (hbI s (↑a1:Int)),AV.any,AV.any,AV.any,AV.any,AV.any,AV.any,AV.any,AV.any,AV.any,AV.any,AV.any,AV.any,AV.any,AV.any,AV.ptr false 0 0 0,AV.ptr false 0 0 0,AV.ptr false 0 0 4,iI 0,AV.bool true,AV.ptr false 0 0 0,AV.ptr false 1 0 0,iI 0,iI 1,iI (↑i:Int),AV.sl false 4 0 l.length Cp.no,iI (↑i:Int),AV.sl false 9 0 1 Cp.tight,AV.sl false 10 0 ((Src.gen l.length fun (j:Nat) => iI (↑(l.getD (0 + j) 0):Int)).len + 1) Cp.no,AV.ptr false 0 0 0,AV.int IntKind.u8 (hbI s (↑a1:Int)),iI 0,AV.bool true,AV.bool true,AV.int IntKind.u8 (hbI s (↑a1:Int)),AV.bool (hbI s (↑a1:Int) == 124),AV.bool (hbI s (↑a1:Int) == 124),AV.bool false,iI 0,AV.bool false,AV.bool false,AV.tup [],AV.tup [],AV.bool false,AV.bool false,AV.any,AV.any,AV.any,AV.any,AV.any,AV.any,AV.any,iI 0,AV.bool false,AV.bool false,AV.tup [],AV.tup [],AV.tup [],AV.tup [],AV.tup [],AV.tup [],AV.tup [],AV.tup [],AV.tup [],AV.tup [],AV.tup [],AV.tup [],AV.tup [],AV.tup [],AV.bool false,AV.any,AV.any,AV.any,AV.any,AV.any,AV.any,AV.any,AV.any,AV.any,AV.any,AV.any,AV.any,AV.any,AV.any,AV.any,AV.any,AV.any,AV.any,AV.any] [some (Row.lst 57 5 [AV.agg [AV.str s,iI (↑a1:Int),iI (↑n:Int),iI 0,iI 0]]),some (Row.lst 35 2 [AV.agg [AV.sl false 8 0 N'.length Cp.no,iI root]]),none,none,none,none,none,none,some (Row.gen 62 3 N'.length fun (i:Nat) => neV (N'.getD i dN)),some (Row.lst 3 1 [iI (↑i:Int)]),some (Row.gen 3 1 ((Src.gen l.length fun (j:Nat) => iI (↑(l.getD (0 + j) 0):Int)).len + 1) fun (j:Nat) => bif j.blt (Src.gen l.length fun (j:Nat) => iI (↑(l.getD (0 + j) 0):Int)).len then iI (↑(l.getD (0 + j) 0):Int) else (Src.lst [iI (↑i:Int)]).at_ (j - (Src.gen l.length fun (j:Nat) => iI (↑(l.getD (0 + j) 0):Int)).len))]) F' else False) /\ ∀ (a' e:Nat),part a = PR.err a' e -> ∀ (p':Nat) (N':List NE) (v:Int) (F':Fz),p'.le 200000 -> RErr s a N_1 F N' F' -> bif decide (0 + l.length <= l.length) && (true && (true && decide (((Src.gen l.length fun (j:Nat) => iI (↑(l.getD (0 + j) 0):Int)).len + 1) * 8 <= 140737488355328))) then ((↑p':Int) - 0).NonNeg /\ bif hbI s (↑p':Int) == 124 then k Exit.normal (St.mk [AV.ptr false 0 0 0,AV.ptr false 1 0 0,iI 0,AV.any,AV.any,AV.any,AV.any,AV.sl false 10 0 ((Src.gen l.length fun (j:Nat) => iI (↑(l.getD (0 + j) 0):Int)).len + 1) Cp.no,iI v,AV.int IntKind.u8 (hbI s (↑p':Int)),AV.any,AV.any,AV.any,AV.any,AV.any,AV.any,AV.any,AV.any,AV.any,AV.any,AV.any,AV.any,AV.any,AV.any,AV.ptr false 0 0 0,AV.ptr false 0 0 0,AV.ptr false 0 0 4,iI 0,AV.bool true,AV.ptr false 0 0 0,AV.ptr false 1 0 0,iI 0,iI 1,iI v,AV.sl false 4 0 l.length Cp.no,iI v,AV.sl false 9 0 1 Cp.tight,AV.sl false 10 0 ((Src.gen l.length fun (j:Nat) => iI (↑(l.getD (0 + j) 0):Int)).len + 1) Cp.no,AV.ptr false 0 0 0,AV.int IntKind.u8 (hbI s (↑p':Int)),iI 0,AV.bool true,AV.bool true,AV.int IntKind.u8 (hbI s (↑p':Int)),AV.bool (hbI s (↑p':Int) == 124),AV.bool (hbI s (↑p':Int) == 124),AV.bool true,AV.tup [],AV.tup [],AV.tup [],AV.tup [],AV.tup [],AV.tup [],AV.bool true,AV.ptr false 0 0 0,AV.ptr false 0 0 0,AV.ptr false 0 0 1,iI (↑p':Int),iI (IntKind.i64.wrap ((↑p':Int) + 1)),AV.ptr false 0 0 0,AV.ptr false 0 0 1,AV.any,AV.any,AV.any,AV.any,AV.any,AV.any,AV.any,AV.any,AV.any,AV.any,AV.any,AV.any,AV.any,AV.any,AV.any,AV.any,AV.any,AV.any,AV.any,AV.any,AV.any,AV.any,AV.any,AV.any,AV.any,AV.any,AV.any,AV.any,AV.any,AV.any,AV.any,AV.any,AV.any,AV.any,AV.any,AV.any,AV.any] [some (Row.lst 57 5 [AV.agg [AV.str s,iI (IntKind.i64.wrap ((↑p':Int) + 1)),iI (↑n:Int),iI (↑a':Int),iI (↑e:Int)]]),some (Row.lst 35 2 [AV.agg [AV.sl false 8 0 N'.length Cp.no,iI root]]),none,none,none,none,none,none,some (Row.gen 62 3 N'.length fun (i:Nat) => neV (N'.getD i dN)),some (Row.lst 3 1 [iI v]),some (Row.gen 3 1 ((Src.gen l.length fun (j:Nat) => iI (↑(l.getD (0 + j) 0):Int)).len + 1) fun (j:Nat) => bif j.blt (Src.gen l.length fun (j:Nat) => iI (↑(l.getD (0 + j) 0):Int)).len then iI (↑(l.getD (0 + j) 0):Int) else (Src.lst [iI v]).at_ (j - (Src.gen l.length fun (j:Nat) => iI (↑(l.getD (0 + j) 0):Int)).len))]) F' else k (Exit.exit 0) (St.mk [AV.ptr false 0 0 0,AV.ptr false 1 0 0,iI 0,AV.any,AV.any,AV.any,AV.any,AV.sl false 10 0 ((Src.gen l.length fun (j:Nat) => iI (↑(l.getD (0 + j) 0):Int)).len + 1) Cp.no,iI v,AV.int IntKind.u8 (hbI s (↑p':Int)),AV.any,AV.any,AV.any,AV.any,AV.any,AV.any,AV.any,AV.any,AV.any,AV.any,AV.any,AV.any,AV.any,AV.any,AV.ptr false 0 0 0,AV.ptr false 0 0 0,AV.ptr false 0 0 4,iI 0,AV.bool true,AV.ptr false 0 0 0,AV.ptr false 1 0 0,iI 0,iI 1,iI v,AV.sl false 4 0 l.length Cp.no,iI v,AV.sl false 9 0 1 Cp.tight,AV.sl false 10 0 ((Src.gen l.length fun (j:Nat) => iI (↑(l.getD (0 + j) 0):Int)).len + 1) Cp.no,AV.ptr false 0 0 0,AV.int IntKind.u8 (hbI s (↑p':Int)),iI 0,AV.bool true,AV.bool true,AV.int IntKind.u8 (hbI s (↑p':Int)),AV.bool (hbI s (↑p':Int) == 124),AV.bool (hbI s (↑p':Int) == 124),AV.bool false,iI 0,AV.bool false,AV.bool false,AV.tup [],AV.tup [],AV.bool false,AV.bool false,AV.any,AV.any,AV.any,AV.any,AV.any,AV.any,AV.any,iI 0,AV.bool false,AV.bool false,AV.tup [],AV.tup [],AV.tup [],AV.tup [],AV.tup [],AV.tup [],AV.tup [],AV.tup [],AV.tup [],AV.tup [],AV.tup [],AV.tup [],AV.tup [],AV.tup [],AV.bool false,AV.any,AV.any,AV.any,AV.any,AV.any,AV.any,AV.any,AV.any,AV.any,AV.any,AV.any,AV.any,AV.any,AV.any,AV.any,AV.any,AV.any,AV.any,AV.any] [some (Row.lst 57 5 [AV.agg [AV.str s,iI (↑p':Int),iI (↑n:Int),iI (↑a':Int),iI (↑e:Int)]]),some (Row.lst 35 2 [AV.agg [AV.sl false 8 0 N'.length Cp.no,iI root]]),none,none,none,none,none,none,some (Row.gen 62 3 N'.length fun (i:Nat) => neV (N'.getD i dN)),some (Row.lst 3 1 [iI v]),some (Row.gen 3 1 ((Src.gen l.length fun (j:Nat) => iI (↑(l.getD (0 + j) 0):Int)).len + 1) fun (j:Nat) => bif j.blt (Src.gen l.length fun (j:Nat) => iI (↑(l.getD (0 + j) 0):Int)).len then iI (↑(l.getD (0 + j) 0):Int) else (Src.lst [iI v]).at_ (j - (Src.gen l.length fun (j:Nat) => iI (↑(l.getD (0 + j) 0):Int)).len))]) F' else False):=by kernel_rfl
theorem vr23b_0 (R:RR) (s:List UInt8) (p n e:Nat) (bd root:Int) (N:List NE) (part:Nat -> PR) (k:Exit -> St -> Fz -> Prop) (F:Fz):rnx (env23 R s n 1 part) 1000 23 (loopOf fi23 0) (famB 0 s p n bd ((e + 1:Nat):Int) root N) k F = (k (Exit.exit 0) (St.mk [AV.ptr false 0 0 0,AV.ptr false 1 0 0,iI 0,AV.any,AV.any,AV.any,AV.any,AV.any,AV.any,AV.any,AV.any,AV.any,AV.any,AV.any,AV.any,AV.any,AV.any,AV.any,AV.any,AV.any,AV.any,AV.any,AV.any,AV.any,AV.ptr false 0 0 0,AV.ptr false 0 0 0,AV.ptr false 0 0 4,iI (↑(e + 1):Int),AV.bool false,AV.any,AV.any,AV.any,AV.any,AV.any,AV.any,AV.any,AV.any,AV.any,AV.any,AV.any,AV.any,AV.any,AV.any,AV.any,AV.any,AV.any,AV.any,AV.any,AV.any,AV.any,AV.any,AV.any,AV.any,AV.any,AV.any,AV.any,AV.any,AV.any,AV.any,AV.any,AV.any,AV.any,AV.any,AV.any,AV.any,AV.any,AV.any,AV.any,AV.any,AV.any,AV.any,AV.any,AV.any,AV.any,AV.any,AV.any,AV.any,AV.any,AV.any,AV.any,AV.any,AV.any,AV.any,AV.any,AV.any,AV.any,AV.any,AV.any,AV.any,AV.any,AV.any,AV.any,AV.any,AV.any,AV.any,AV.any,AV.any,AV.any] [some (Row.lst 57 5 [AV.agg [AV.str s,iI (↑p:Int),iI (↑n:Int),iI bd,iI (↑(e + 1):Int)]]),some (Row.lst 35 2 [AV.agg [AV.sl false 3 0 N.length Cp.no,iI root]]),none,some (Row.gen 62 3 N.length fun (i:Nat) => neV (N.getD i dN))]) F):=by kernel_rfl
abbrev pad5 (rr:Row) (n:Nat) (root:Int) (N:List NE) (l:List Nat):Rows:=[some rr,some (trow 3 n root),none,some (arow N),some (nrow l)]
theorem pad5_live {rr:Row} {n:Nat} {root:Int} {N:List NE} {l:List Nat} {c:Nat} {r:Row} (h:Rows.live (pad5 rr n root N l) c = some r):(c = 0 /\ r = rr) \/ (c = 1 /\ r = trow 3 n root) \/ (c = 3 /\ r = arow N) \/ (c = 4 /\ r = nrow l):=by
 match c,h with
 | 0,h => cases h; exact .inl ⟨rfl,rfl⟩
 | 1,h => cases h; exact .inr (.inl ⟨rfl,rfl⟩)
 | 3,h => cases h; exact .inr (.inr (.inl ⟨rfl,rfl⟩))
 | 4,h => cases h; exact .inr (.inr (.inr ⟨rfl,rfl⟩))
 | 2,h => cases h
 | c + 5,h => simp [Rows.live] at h
def fiveR (d:Nat) (o:Option Nat):Nat -> Option Nat:=fun c => bif Nat.beq c 3 then some d else bif Nat.beq c 4 then o else some c
theorem five_lt {d:Nat} {o:Option Nat} {nk:Nat} (h:nk <= 3) (c:Nat) (hc:c < nk):fiveR d o c = some c:=by
 match c with
 | 0 => rfl
 | 1 => rfl
 | 2 => rfl
 | c + 3 => omega
theorem pad5_view {s:List UInt8} {p n bd er root:Int} {N:List NE} {l:List Nat} {h:Rows} {d:Nat} {o:Option Nat} (h0:h.live 0 = some (rrow s p n bd er)) (h1:h.live 1 = some (trow d N.length root)) (h2:h.live d = some (arow N))
  (h3:(o = none /\ l = []) \/ ∃ q g,o = some q /\ h.live q = some (.gen 3 1 l.length g) /\ ∀ i,i < l.length -> g i = .int .i64 ((l.getD i 0:Nat):Int)):ViewW (fiveR d o) (pad5 (rrow s p n bd er) N.length root N l) h where
 inj:=fun c c' b r r' hc hc' e e' => by
  have n0:d ≠ 0:=fun e => by rw [e,h0] at h2; cases h2
  have n1:d ≠ 1:=fun e => by rw [e,h1] at h2; cases h2
  have q0:o ≠ some 0:=fun e => by
   rcases h3 with ⟨h,_⟩ | ⟨q,g,h,hq,_⟩
   ·rw [h] at e; cases e
   ·rw [h] at e; cases e; rw [h0] at hq; cases hq
  have q1:o ≠ some 1:=fun e => by
   rcases h3 with ⟨h,_⟩ | ⟨q,g,h,hq,_⟩
   ·rw [h] at e; cases e
   ·rw [h] at e; cases e; rw [h1] at hq; cases hq
  have qd:o ≠ some d:=fun e => by
   rcases h3 with ⟨h,_⟩ | ⟨q,g,h,hq,_⟩
   ·rw [h] at e; cases e
   ·rw [h] at e; cases e; rw [h2] at hq; cases hq
  have f0:fiveR d o 0 = some 0:=rfl
  have f1:fiveR d o 1 = some 1:=rfl
  have f3:fiveR d o 3 = some d:=rfl
  have f4:fiveR d o 4 = o:=rfl
  rcases pad5_live hc with ⟨rfl,_⟩ | ⟨rfl,_⟩ | ⟨rfl,_⟩ | ⟨rfl,_⟩ <;> rcases pad5_live hc' with ⟨rfl,_⟩ | ⟨rfl,_⟩ | ⟨rfl,_⟩ | ⟨rfl,_⟩ <;>
   first
    | rfl
    | (exfalso; simp only [f0,f1,f3,f4] at e e'; rw [<- e'] at e; first | exact q0 e | exact q1 e | exact qd e | exact q0 e.symm | exact q1 e.symm | exact qd e.symm | exact n0 (Option.some.inj e) | exact n1 (Option.some.inj e) | exact n0 (Option.some.inj e).symm | exact n1 (Option.some.inj e).symm | (cases e))
 row:=fun c r hc => by
  rcases pad5_live hc with ⟨rfl,rfl⟩ | ⟨rfl,rfl⟩ | ⟨rfl,rfl⟩ | ⟨rfl,rfl⟩
  ·exact .inl ⟨0,_,rfl,h0,(rrow_g _ _ _ _ _).vw _ _⟩
  ·exact .inl ⟨1,_,rfl,h1,trow_v rfl (by simp)⟩
  ·exact .inl ⟨d,_,rfl,h2,(arow_g N).vw _ _⟩
  ·rcases h3 with ⟨h,rfl⟩ | ⟨q,g,h,hq,hg⟩
   ·exact .inr ⟨h,rfl⟩
   ·exact .inl ⟨q,_,h,hq,.gen rfl fun i hi => ⟨rfl,by rw [hg i hi]; exact Vw.intI⟩⟩
theorem toFive {R:RR} {nk:Nat} {T TM:List AV} {h:Rows} {s:List UInt8} {p n bd er root:Int} {N:List NE} {l:List Nat} {d:Nat} {o:Option Nat} {F:Fz} {S:St -> Fz -> Prop} (hnk:nk <= 3) (h0:h.live 0 = some (rrow s p n bd er)) (h1:h.live 1 = some (trow d N.length root)) (h2:h.live d = some (arow N))
  (h3:(o = none /\ l = []) \/ ∃ q g,o = some q /\ h.live q = some (.gen 3 1 l.length g) /\ ∀ i,i < l.length -> g i = .int .i64 ((l.getD i 0:Nat):Int))
  (hT:VwL (fiveR d o) 5 T TM) (hS:S ⟨T,pad5 (rrow s p n bd er) N.length root N l⟩ F):ToX R [] nk ⟨TM,h⟩ F S :=
 ToX.fitW (stE:=⟨T,pad5 (rrow s p n bd er) N.length root N l⟩) (fiveR d o) (pad5_view h0 h1 h2 h3) hT (five_lt hnk) (by simp; omega) (ToX.here hS)
theorem toBad {R:RR} {nk:Nat} {T TM:List AV} {h:Rows} {s:List UInt8} {p n bd er root:Int} {N:List NE} {d:Nat} {F:Fz} {S:St -> Fz -> Prop} (hnk:nk <= 3) (h0:h.live 0 = some (rrow s p n bd er)) (h1:h.live 1 = some (trow d N.length root)) (h2:h.live d = some (arow N))
  (hT:VwL (mvR 3 d) 4 T TM) (hS:S ⟨T,out4 (rrow s p n bd er) N.length root N⟩ F):ToX R [] nk ⟨TM,h⟩ F S :=
 ToX.fitW (stE:=⟨T,out4 (rrow s p n bd er) N.length root N⟩) (mvR 3 d) (out4_view h0 h1 h2) hT (mvR_lt hnk) (by simp; omega) (ToX.here hS)
theorem RLs.snoc {s:List UInt8} {a a1 a2:Nat} {N N1 N2:List NE} {F F1 F2:Fz} {ts:List Tr} {l:List Nat} {t:Tr} {i:Nat} (h:RLs s a N F ts a1 N1 l F1) (g:ROk s a1 N1 F1 t a2 N2 i F2) (hle:a2 <= s.length):RLs s a N F (ts ++ [t]) a2 N2 (l ++ [i]) F2 where
 mo:=h.mo.trans g.mo
 nf:=g.nf
 up:=h.up.trans g.up
 tr:=TrNs.snoc g.tr ts l (g.mo.trs h.tr)
 le:=hle
 room:=by
  have:=h.room; have:=g.room
  simp only [List.length_append,List.length_cons,List.length_nil]
  omega
theorem ROk.far {s:List UInt8} {a a1:Nat} {N N':List NE} {F F':Fz} {t:Tr} {i:Nat} (h:ROk s a N F t a1 N' i F') (ha:a <= s.length):a < a1:=by
 obtain ⟨l,rfl⟩:=h.mo.pre
 have:=h.room
 rw [List.length_append] at this
 omega
theorem RLs.step {s:List UInt8} {a a1 a2:Nat} {N N1:List NE} {F F1:Fz} {ts:List Tr} {l:List Nat} (h:RLs s a N F ts a1 N1 l F1) (h1:a1 <= a2) (h2:a2 <= s.length):RLs s a N F ts a2 N1 l F1 :=
 ⟨h.mo,h.nf,h.up,h.tr,h2,by have:=h.room; omega⟩
theorem env23_ok {R:RR} {s:List UInt8} {n:Nat} {kk:Int} {part:Nat -> PR} {HP:HPt} (hP:∀ args h k F,spec23 s n kk part args h k F -> SafeCallX Try.prog R 23 args h F k HP):OKX Try.prog (env23 R s n kk part) [] HP :=
 (envQ_ok R HP).addCall (f:=23) (fi:=fi23) (by kernel_rfl) hP
theorem tm23_spr (kk:Int) (m:Nat):tm23 kk m = spr [(0,.ptr false 0 0 0),(1,.ptr false 1 0 0),(2,.int .i64 kk),(7,.sl false 4 0 m .no)] 0 98:=by kernel_rfl
theorem nrow_app (l:List Nat) (i j:Nat) (hj:j < (l ++ [i]).length):(bif j.blt l.length then AV.int .i64 ((l.getD (0 + j) 0:Nat):Int) else (Src.lst [.int .i64 (i:Nat)]).at_ (j - l.length)) = .int .i64 (((l ++ [i]).getD j 0:Nat):Int):=by
 have hj:j < l.length + 1:=by simpa using hj
 exact app_gen (F:=fun j => .int .i64 ((l.getD j 0:Nat):Int)) (G:=fun j => .int .i64 (((l ++ [i]).getD j 0:Nat):Int)) (n:=l.length) (e:=.int .i64 (i:Nat)) (fun j hj => by
  simp only [Nat.zero_add]
  rw [List.getD_eq_getElem?_getD,List.getD_eq_getElem?_getD,List.getElem?_append_left hj]) (by simp) j hj
theorem capN {l:List Nat} (h:l.length <= 100000):(decide (0 + l.length <= l.length) && (true && (true && decide (((Src.gen l.length fun (j:Nat) => AV.int .i64 ((l.getD (0 + j) 0:Nat):Int)).len + 1) * 8 <= 140737488355328)))) = true:=by
 have h1:(Src.gen l.length fun (j:Nat) => AV.int .i64 ((l.getD (0 + j) 0:Nat):Int)).len = l.length:=rfl
 rw [h1]
 simp only [Bool.and_eq_true,decide_eq_true_eq]
 exact ⟨by omega,trivial,trivial,by omega⟩
theorem loop23_2 {R:RR} {s:List UInt8} {n:Nat} {part:Nat -> PR} (HP:HPt) (hP:∀ args h k F,spec23 s n 3 part args h k F -> SafeCallX Try.prog R 23 args h F k HP) (hnz:∀ a,NZ (part a)) (hG:Goes s part) (hn:n <= 16) :
  ∀ st k F,lp23 2 s n 4 (LpI s begins 0 4 part) st k F -> SafeX Try.prog R [] (.block 0 (.loop (loopOf fi23 0))) st F k HP:=by
 rintro ⟨TM,rows⟩ k F ⟨h0,h1,h2,h3,h4,root,N,a,hr,hin,hok,herr⟩
 simp only at h0 h1 h2 h3 h4 hr
 subst hr
 have hs:=hin.sm
 have hle:=hin.le
 have hR:=hin.room
 refine SafeX.loop_block (Inv:=fun m st F' => (∃ a1 N1 l ts,s.length + 1 <= m + a1 /\ RLs s a N F ts a1 N1 l F' /\ LpI s begins 0 4 part a = ((part a1).bind fun t a2 => (Lp s begins 0 4 part m (ts ++ [t]) a2)) /\ st = fam23 2 s a1 n 0 0 root N1 l) \/ (∃ a' e p' N1,LpI s begins 0 4 part a = .err a' (e + 1) /\ p' <= 200000 /\ RErr s a N F N1 F' /\ st = famB 2 s p' n (a':Nat) ((e + 1:Nat):Int) root N1)) ?_ ?_
 ·refine toFive (o:=none) (d:=2) (l:=[]) (Nat.le_refl 3) rfl rfl rfl (.inl ⟨rfl,rfl⟩) (T:=tm23 2 0) ?_ ?_
  ·rw [tm23_spr]
   exact VwL.ofKnown h0 ⟨by rw [h1]; exact Vw.ptrI (by simp) rfl,by rw [h2]; exact Vw.ptrI (by simp) rfl,by rw [h3]; exact Vw.intI,by rw [h4]; simp only [Vw]; exact ⟨by simp,.inr ⟨rfl,trivial,by simp [CpOK],trivial⟩⟩,trivial⟩
  ·exact ⟨s.length + 1,.inl ⟨a,N,[],[],by omega,⟨Mo.refl N,hin.nf,Up.refl F,by simp only [TrNs],hle,by simp⟩,rfl,rfl⟩⟩
 ·rintro m st' F1 (⟨a1,N1,l,ts,hm,hI,hW,rfl⟩ | ⟨a',e,p',N1,hW,hp',hE,rfl⟩)
  ·have ha1:=hI.le
   have hrm:=hI.room
   have hl1:l.length = ts.length:=(hI.tr.len).symm
   obtain ⟨g,rfl⟩:∃ g,m = g + 1:=⟨m - 1,by omega⟩
   refine SafeX.by mixed (env23_ok hP) (f:=23) (fi:=fi23) (i:=0) (by kernel_rfl) (b:=.loop (loopOf fi23 0)) (by kernel_rfl) (subs_loop _) 1000 (vr23_2 R s a1 n root N1 l part _ F1) ?_
   refine ⟨rfl,hn,N1,a1,rfl,rfl,rfl,rfl,rfl,rfl,rfl,⟨hI.nf,ha1,hs,by omega⟩,?_,?_⟩
   ·intro t a2 hpt N2 i F2 ho
    have hg:=(hG _ ha1 _ _ hpt).2
    have hfar:=ho.far ha1
    have hS:=hI.snoc ho hg
    rw [capN (by omega)]
    have hW2:LpI s begins 0 4 part a = (Lp s begins 0 4 part (g + 1) (ts ++ [t]) a2):=by rw [hW,hpt]; rfl
    refine ⟨show (0:Int) <= (a2:Int) - 0 by omega,hcB (fun h1 => ?_) fun h1 => hcB (fun h2 => ?_) fun h2 => hcB (fun h3 => ?_) fun h3 => hcB (fun h4 => ?_) fun h4 => ?_⟩
    ·have hb:begins (hbI s a2) = true:=by simp [begins,h1]
     refine toFive (o:=some 10) (d:=8) (l:=l ++ [i]) (Nat.le_refl 3) rfl rfl rfl (.inr ⟨10,_,rfl,by rw [List.length_append]; rfl,nrow_app l i⟩) (T:=tm23 2 (l ++ [i]).length) ?_ ?_
     ·rw [List.length_append]; (repeat' (first | with_reducible exact VwL.nil | with_reducible refine VwL.cons ?_ ?_ | with_reducible exact Vw.anyI | with_reducible exact Vw.strI | with_reducible exact Vw.boolI | with_reducible exact Vw.intI | with_reducible exact Vw.nilsI | exact Vw.ptrI (by simp) rfl | exact Vw.slI (by simp) rfl | with_reducible refine Vw.aggI ?_ | exact Vw.gndI rfl))
     ·refine ⟨g,Nat.lt_succ_self g,.inl ⟨a2,N2,l ++ [i],ts ++ [t],by omega,hS,?_,rfl⟩⟩
      rw [hW2]
      show (bif begins (hbI s a2) then _ else _) = _
      rw [hb]; rfl
    ·have hb:begins (hbI s a2) = true:=by simp [begins,h1,h2]
     refine toFive (o:=some 10) (d:=8) (l:=l ++ [i]) (Nat.le_refl 3) rfl rfl rfl (.inr ⟨10,_,rfl,by rw [List.length_append]; rfl,nrow_app l i⟩) (T:=tm23 2 (l ++ [i]).length) ?_ ?_
     ·rw [List.length_append]; (repeat' (first | with_reducible exact VwL.nil | with_reducible refine VwL.cons ?_ ?_ | with_reducible exact Vw.anyI | with_reducible exact Vw.strI | with_reducible exact Vw.boolI | with_reducible exact Vw.intI | with_reducible exact Vw.nilsI | exact Vw.ptrI (by simp) rfl | exact Vw.slI (by simp) rfl | with_reducible refine Vw.aggI ?_ | exact Vw.gndI rfl))
     ·refine ⟨g,Nat.lt_succ_self g,.inl ⟨a2,N2,l ++ [i],ts ++ [t],by omega,hS,?_,rfl⟩⟩
      rw [hW2]
      show (bif begins (hbI s a2) then _ else _) = _
      rw [hb]; rfl
    ·have hb:begins (hbI s a2) = true:=by simp [begins,h1,h2,h3]
     refine toFive (o:=some 10) (d:=8) (l:=l ++ [i]) (Nat.le_refl 3) rfl rfl rfl (.inr ⟨10,_,rfl,by rw [List.length_append]; rfl,nrow_app l i⟩) (T:=tm23 2 (l ++ [i]).length) ?_ ?_
     ·rw [List.length_append]; (repeat' (first | with_reducible exact VwL.nil | with_reducible refine VwL.cons ?_ ?_ | with_reducible exact Vw.anyI | with_reducible exact Vw.strI | with_reducible exact Vw.boolI | with_reducible exact Vw.intI | with_reducible exact Vw.nilsI | exact Vw.ptrI (by simp) rfl | exact Vw.slI (by simp) rfl | with_reducible refine Vw.aggI ?_ | exact Vw.gndI rfl))
     ·refine ⟨g,Nat.lt_succ_self g,.inl ⟨a2,N2,l ++ [i],ts ++ [t],by omega,hS,?_,rfl⟩⟩
      rw [hW2]
      show (bif begins (hbI s a2) then _ else _) = _
      rw [hb]; rfl
    ·have hb:begins (hbI s a2) = true:=by simp [begins,h1,h2,h3,h4]
     refine toFive (o:=some 10) (d:=8) (l:=l ++ [i]) (Nat.le_refl 3) rfl rfl rfl (.inr ⟨10,_,rfl,by rw [List.length_append]; rfl,nrow_app l i⟩) (T:=tm23 2 (l ++ [i]).length) ?_ ?_
     ·rw [List.length_append]; (repeat' (first | with_reducible exact VwL.nil | with_reducible refine VwL.cons ?_ ?_ | with_reducible exact Vw.anyI | with_reducible exact Vw.strI | with_reducible exact Vw.boolI | with_reducible exact Vw.intI | with_reducible exact Vw.nilsI | exact Vw.ptrI (by simp) rfl | exact Vw.slI (by simp) rfl | with_reducible refine Vw.aggI ?_ | exact Vw.gndI rfl))
     ·refine ⟨g,Nat.lt_succ_self g,.inl ⟨a2,N2,l ++ [i],ts ++ [t],by omega,hS,?_,rfl⟩⟩
      rw [hW2]
      show (bif begins (hbI s a2) then _ else _) = _
      rw [hb]; rfl
    ·have hb:begins (hbI s a2) = false:=by simp [begins,h1,h2,h3,h4]
     refine toFive (o:=some 10) (d:=8) (l:=l ++ [i]) (Nat.le_refl 3) rfl rfl rfl (.inr ⟨10,_,rfl,by rw [List.length_append]; rfl,nrow_app l i⟩) (T:=tm23 2 (l ++ [i]).length) ?_ ?_
     ·rw [List.length_append]; (repeat' (first | with_reducible exact VwL.nil | with_reducible refine VwL.cons ?_ ?_ | with_reducible exact Vw.anyI | with_reducible exact Vw.strI | with_reducible exact Vw.boolI | with_reducible exact Vw.intI | with_reducible exact Vw.nilsI | exact Vw.ptrI (by simp) rfl | exact Vw.slI (by simp) rfl | with_reducible refine Vw.aggI ?_ | exact Vw.gndI rfl))
     ·refine hok (ts ++ [t]) (l ++ [i]) a2 N2 F2 ?_ (by simp) hS
      rw [hW2]
      show (bif begins (hbI s a2) then _ else _) = _
      rw [hb]; rfl
   ·intro a' e hpt p' N2 v F2 hp' ho
    have hp':p' <= 200000:=hp'
    have hz:=hnz a1 a' e hpt
    obtain ⟨e0,rfl⟩:∃ e0,e = e0 + 1:=⟨e - 1,by omega⟩
    have hrE:=ho.room
    have hE:RErr s a N F N2 F2:=⟨hI.mo.trans ho.mo,ho.nf,hI.up.trans ho.up,by omega⟩
    rw [capN (by omega)]
    have hW2:LpI s begins 0 4 part a = .err a' (e0 + 1):=by rw [hW,hpt]; rfl
    refine ⟨show (0:Int) <= (p':Int) - 0 by omega,hcB (fun h1 => ?_) fun h1 => hcB (fun h2 => ?_) fun h2 => hcB (fun h3 => ?_) fun h3 => hcB (fun h4 => ?_) fun h4 => ?_⟩
    ·refine toBad (d:=8) (Nat.le_refl 3) rfl rfl rfl (T:=tm23b 2) ?_ ?_
     ·(repeat' (first | with_reducible exact VwL.nil | with_reducible refine VwL.cons ?_ ?_ | with_reducible exact Vw.anyI | with_reducible exact Vw.strI | with_reducible exact Vw.boolI | with_reducible exact Vw.intI | with_reducible exact Vw.nilsI | exact Vw.ptrI (by simp) rfl | exact Vw.slI (by simp) rfl | with_reducible refine Vw.aggI ?_ | exact Vw.gndI rfl))
     ·exact ⟨g,Nat.lt_succ_self g,.inr ⟨a',e0,p',N2,hW2,by omega,hE,rfl⟩⟩
    ·refine toBad (d:=8) (Nat.le_refl 3) rfl rfl rfl (T:=tm23b 2) ?_ ?_
     ·(repeat' (first | with_reducible exact VwL.nil | with_reducible refine VwL.cons ?_ ?_ | with_reducible exact Vw.anyI | with_reducible exact Vw.strI | with_reducible exact Vw.boolI | with_reducible exact Vw.intI | with_reducible exact Vw.nilsI | exact Vw.ptrI (by simp) rfl | exact Vw.slI (by simp) rfl | with_reducible refine Vw.aggI ?_ | exact Vw.gndI rfl))
     ·exact ⟨g,Nat.lt_succ_self g,.inr ⟨a',e0,p',N2,hW2,by omega,hE,rfl⟩⟩
    ·refine toBad (d:=8) (Nat.le_refl 3) rfl rfl rfl (T:=tm23b 2) ?_ ?_
     ·(repeat' (first | with_reducible exact VwL.nil | with_reducible refine VwL.cons ?_ ?_ | with_reducible exact Vw.anyI | with_reducible exact Vw.strI | with_reducible exact Vw.boolI | with_reducible exact Vw.intI | with_reducible exact Vw.nilsI | exact Vw.ptrI (by simp) rfl | exact Vw.slI (by simp) rfl | with_reducible refine Vw.aggI ?_ | exact Vw.gndI rfl))
     ·exact ⟨g,Nat.lt_succ_self g,.inr ⟨a',e0,p',N2,hW2,by omega,hE,rfl⟩⟩
    ·refine toBad (d:=8) (Nat.le_refl 3) rfl rfl rfl (T:=tm23b 2) ?_ ?_
     ·(repeat' (first | with_reducible exact VwL.nil | with_reducible refine VwL.cons ?_ ?_ | with_reducible exact Vw.anyI | with_reducible exact Vw.strI | with_reducible exact Vw.boolI | with_reducible exact Vw.intI | with_reducible exact Vw.nilsI | exact Vw.ptrI (by simp) rfl | exact Vw.slI (by simp) rfl | with_reducible refine Vw.aggI ?_ | exact Vw.gndI rfl))
     ·exact ⟨g,Nat.lt_succ_self g,.inr ⟨a',e0,p',N2,hW2,by omega,hE,rfl⟩⟩
    ·refine toBad (d:=8) (Nat.le_refl 3) rfl rfl rfl (T:=tm23b 2) ?_ ?_
     ·(repeat' (first | with_reducible exact VwL.nil | with_reducible refine VwL.cons ?_ ?_ | with_reducible exact Vw.anyI | with_reducible exact Vw.strI | with_reducible exact Vw.boolI | with_reducible exact Vw.intI | with_reducible exact Vw.nilsI | exact Vw.ptrI (by simp) rfl | exact Vw.slI (by simp) rfl | with_reducible refine Vw.aggI ?_ | exact Vw.gndI rfl))
     ·exact herr a' (e0 + 1) p' N2 F2 hW2 (by omega) hp' hE
  ·refine SafeX.by mixed (env23_ok hP) (f:=23) (fi:=fi23) (i:=0) (by kernel_rfl) (b:=.loop (loopOf fi23 0)) (by kernel_rfl) (subs_loop _) 1000 (vr23b_2 R s p' n e (a':Nat) root N1 part _ F1) ?_
   refine toBad (d:=3) (Nat.le_refl 3) rfl rfl rfl (T:=tm23b 2) ?_ ?_
   ·(repeat' (first | with_reducible exact VwL.nil | with_reducible refine VwL.cons ?_ ?_ | with_reducible exact Vw.anyI | with_reducible exact Vw.strI | with_reducible exact Vw.boolI | with_reducible exact Vw.intI | with_reducible exact Vw.nilsI | exact Vw.ptrI (by simp) rfl | exact Vw.slI (by simp) rfl | with_reducible refine Vw.aggI ?_ | exact Vw.gndI rfl))
   ·exact herr a' (e + 1) p' N1 F1 hW (by omega) hp' hE
theorem loop23_1 {R:RR} {s:List UInt8} {n:Nat} {part:Nat -> PR} (HP:HPt) (hP:∀ args h k F,spec23 s n 2 part args h k F -> SafeCallX Try.prog R 23 args h F k HP) (hnz:∀ a,NZ (part a)) (hG:Goes s part) (hn:n <= 16) :
  ∀ st k F,lp23 1 s n 6 (LpI s (fun c => c == 38) 1 6 part) st k F -> SafeX Try.prog R [] (.block 0 (.loop (loopOf fi23 0))) st F k HP:=by
 rintro ⟨TM,rows⟩ k F ⟨h0,h1,h2,h3,h4,root,N,a,hr,hin,hok,herr⟩
 simp only at h0 h1 h2 h3 h4 hr
 subst hr
 have hs:=hin.sm
 have hle:=hin.le
 have hR:=hin.room
 refine SafeX.loop_block (Inv:=fun m st F' => (∃ a1 N1 l ts,s.length + 1 <= m + a1 /\ RLs s a N F ts a1 N1 l F' /\ LpI s (fun c => c == 38) 1 6 part a = ((part a1).bind fun t a2 => (Lp s (fun c => c == 38) 1 6 part m (ts ++ [t]) a2)) /\ st = fam23 1 s a1 n 0 0 root N1 l) \/ (∃ a' e p' N1,LpI s (fun c => c == 38) 1 6 part a = .err a' (e + 1) /\ p' <= 200000 /\ RErr s a N F N1 F' /\ st = famB 1 s p' n (a':Nat) ((e + 1:Nat):Int) root N1)) ?_ ?_
 ·refine toFive (o:=none) (d:=2) (l:=[]) (Nat.le_refl 3) rfl rfl rfl (.inl ⟨rfl,rfl⟩) (T:=tm23 1 0) ?_ ?_
  ·rw [tm23_spr]
   exact VwL.ofKnown h0 ⟨by rw [h1]; exact Vw.ptrI (by simp) rfl,by rw [h2]; exact Vw.ptrI (by simp) rfl,by rw [h3]; exact Vw.intI,by rw [h4]; simp only [Vw]; exact ⟨by simp,.inr ⟨rfl,trivial,by simp [CpOK],trivial⟩⟩,trivial⟩
  ·exact ⟨s.length + 1,.inl ⟨a,N,[],[],by omega,⟨Mo.refl N,hin.nf,Up.refl F,by simp only [TrNs],hle,by simp⟩,rfl,rfl⟩⟩
 ·rintro m st' F1 (⟨a1,N1,l,ts,hm,hI,hW,rfl⟩ | ⟨a',e,p',N1,hW,hp',hE,rfl⟩)
  ·have ha1:=hI.le
   have hrm:=hI.room
   have hl1:l.length = ts.length:=(hI.tr.len).symm
   obtain ⟨g,rfl⟩:∃ g,m = g + 1:=⟨m - 1,by omega⟩
   refine SafeX.by mixed (env23_ok hP) (f:=23) (fi:=fi23) (i:=0) (by kernel_rfl) (b:=.loop (loopOf fi23 0)) (by kernel_rfl) (subs_loop _) 1000 (vr23_1 R s a1 n root N1 l part _ F1) ?_
   refine ⟨rfl,hn,N1,a1,rfl,rfl,rfl,rfl,rfl,rfl,rfl,⟨hI.nf,ha1,hs,by omega⟩,?_,?_⟩
   ·intro t a2 hpt N2 i F2 ho
    have hg:=(hG _ ha1 _ _ hpt).2
    have hfar:=ho.far ha1
    have hS:=hI.snoc ho hg
    rw [capN (by omega)]
    have hW2:LpI s (fun c => c == 38) 1 6 part a = (Lp s (fun c => c == 38) 1 6 part (g + 1) (ts ++ [t]) a2):=by rw [hW,hpt]; rfl
    refine ⟨show (0:Int) <= (a2:Int) - 0 by omega,hcB (fun hc => ?_) fun hc => ?_⟩
    ·have hlt:=hb_lt hc (by decide)
     rw [wrapSucc a2 (by omega)]
     refine toFive (o:=some 10) (d:=8) (l:=l ++ [i]) (Nat.le_refl 3) rfl rfl rfl (.inr ⟨10,_,rfl,by rw [List.length_append]; rfl,nrow_app l i⟩) (T:=tm23 1 (l ++ [i]).length) ?_ ?_
     ·rw [List.length_append]; (repeat' (first | with_reducible exact VwL.nil | with_reducible refine VwL.cons ?_ ?_ | with_reducible exact Vw.anyI | with_reducible exact Vw.strI | with_reducible exact Vw.boolI | with_reducible exact Vw.intI | with_reducible exact Vw.nilsI | exact Vw.ptrI (by simp) rfl | exact Vw.slI (by simp) rfl | with_reducible refine Vw.aggI ?_ | exact Vw.gndI rfl))
     ·refine ⟨g,Nat.lt_succ_self g,.inl ⟨a2 + 1,N2,l ++ [i],ts ++ [t],by omega,hS.step (by omega) hlt,?_,rfl⟩⟩
      rw [hW2]
      show (bif hbI s a2 == 38 then _ else _) = _
      rw [hc]; rfl
    ·refine toFive (o:=some 10) (d:=8) (l:=l ++ [i]) (Nat.le_refl 3) rfl rfl rfl (.inr ⟨10,_,rfl,by rw [List.length_append]; rfl,nrow_app l i⟩) (T:=tm23 1 (l ++ [i]).length) ?_ ?_
     ·rw [List.length_append]; (repeat' (first | with_reducible exact VwL.nil | with_reducible refine VwL.cons ?_ ?_ | with_reducible exact Vw.anyI | with_reducible exact Vw.strI | with_reducible exact Vw.boolI | with_reducible exact Vw.intI | with_reducible exact Vw.nilsI | exact Vw.ptrI (by simp) rfl | exact Vw.slI (by simp) rfl | with_reducible refine Vw.aggI ?_ | exact Vw.gndI rfl))
     ·refine hok (ts ++ [t]) (l ++ [i]) a2 N2 F2 ?_ (by simp) hS
      rw [hW2]
      show (bif hbI s a2 == 38 then _ else _) = _
      rw [hc]; rfl
   ·intro a' e hpt p' N2 v F2 hp' ho
    have hp':p' <= 200000:=hp'
    have hz:=hnz a1 a' e hpt
    obtain ⟨e0,rfl⟩:∃ e0,e = e0 + 1:=⟨e - 1,by omega⟩
    have hrE:=ho.room
    have hE:RErr s a N F N2 F2:=⟨hI.mo.trans ho.mo,ho.nf,hI.up.trans ho.up,by omega⟩
    rw [capN (by omega)]
    have hW2:LpI s (fun c => c == 38) 1 6 part a = .err a' (e0 + 1):=by rw [hW,hpt]; rfl
    refine ⟨show (0:Int) <= (p':Int) - 0 by omega,hcB (fun hc => ?_) fun hc => ?_⟩
    ·have hlt:=hb_lt hc (by decide)
     rw [wrapSucc p' (by omega)]
     refine toBad (d:=8) (Nat.le_refl 3) rfl rfl rfl (T:=tm23b 1) ?_ ?_
     ·(repeat' (first | with_reducible exact VwL.nil | with_reducible refine VwL.cons ?_ ?_ | with_reducible exact Vw.anyI | with_reducible exact Vw.strI | with_reducible exact Vw.boolI | with_reducible exact Vw.intI | with_reducible exact Vw.nilsI | exact Vw.ptrI (by simp) rfl | exact Vw.slI (by simp) rfl | with_reducible refine Vw.aggI ?_ | exact Vw.gndI rfl))
     ·exact ⟨g,Nat.lt_succ_self g,.inr ⟨a',e0,p' + 1,N2,hW2,by omega,hE,rfl⟩⟩
    ·refine toBad (d:=8) (Nat.le_refl 3) rfl rfl rfl (T:=tm23b 1) ?_ ?_
     ·(repeat' (first | with_reducible exact VwL.nil | with_reducible refine VwL.cons ?_ ?_ | with_reducible exact Vw.anyI | with_reducible exact Vw.strI | with_reducible exact Vw.boolI | with_reducible exact Vw.intI | with_reducible exact Vw.nilsI | exact Vw.ptrI (by simp) rfl | exact Vw.slI (by simp) rfl | with_reducible refine Vw.aggI ?_ | exact Vw.gndI rfl))
     ·exact herr a' (e0 + 1) p' N2 F2 hW2 (by omega) hp' hE
  ·refine SafeX.by mixed (env23_ok hP) (f:=23) (fi:=fi23) (i:=0) (by kernel_rfl) (b:=.loop (loopOf fi23 0)) (by kernel_rfl) (subs_loop _) 1000 (vr23b_1 R s p' n e (a':Nat) root N1 part _ F1) ?_
   refine toBad (d:=3) (Nat.le_refl 3) rfl rfl rfl (T:=tm23b 1) ?_ ?_
   ·(repeat' (first | with_reducible exact VwL.nil | with_reducible refine VwL.cons ?_ ?_ | with_reducible exact Vw.anyI | with_reducible exact Vw.strI | with_reducible exact Vw.boolI | with_reducible exact Vw.intI | with_reducible exact Vw.nilsI | exact Vw.ptrI (by simp) rfl | exact Vw.slI (by simp) rfl | with_reducible refine Vw.aggI ?_ | exact Vw.gndI rfl))
   ·exact herr a' (e + 1) p' N1 F1 hW (by omega) hp' hE
theorem loop23_0 {R:RR} {s:List UInt8} {n:Nat} {part:Nat -> PR} (HP:HPt) (hP:∀ args h k F,spec23 s n 1 part args h k F -> SafeCallX Try.prog R 23 args h F k HP) (hnz:∀ a,NZ (part a)) (hG:Goes s part) (hn:n <= 16) :
  ∀ st k F,lp23 0 s n 5 (LpI s (fun c => c == 124) 1 5 part) st k F -> SafeX Try.prog R [] (.block 0 (.loop (loopOf fi23 0))) st F k HP:=by
 rintro ⟨TM,rows⟩ k F ⟨h0,h1,h2,h3,h4,root,N,a,hr,hin,hok,herr⟩
 simp only at h0 h1 h2 h3 h4 hr
 subst hr
 have hs:=hin.sm
 have hle:=hin.le
 have hR:=hin.room
 refine SafeX.loop_block (Inv:=fun m st F' => (∃ a1 N1 l ts,s.length + 1 <= m + a1 /\ RLs s a N F ts a1 N1 l F' /\ LpI s (fun c => c == 124) 1 5 part a = ((part a1).bind fun t a2 => (Lp s (fun c => c == 124) 1 5 part m (ts ++ [t]) a2)) /\ st = fam23 0 s a1 n 0 0 root N1 l) \/ (∃ a' e p' N1,LpI s (fun c => c == 124) 1 5 part a = .err a' (e + 1) /\ p' <= 200000 /\ RErr s a N F N1 F' /\ st = famB 0 s p' n (a':Nat) ((e + 1:Nat):Int) root N1)) ?_ ?_
 ·refine toFive (o:=none) (d:=2) (l:=[]) (Nat.le_refl 3) rfl rfl rfl (.inl ⟨rfl,rfl⟩) (T:=tm23 0 0) ?_ ?_
  ·rw [tm23_spr]
   exact VwL.ofKnown h0 ⟨by rw [h1]; exact Vw.ptrI (by simp) rfl,by rw [h2]; exact Vw.ptrI (by simp) rfl,by rw [h3]; exact Vw.intI,by rw [h4]; simp only [Vw]; exact ⟨by simp,.inr ⟨rfl,trivial,by simp [CpOK],trivial⟩⟩,trivial⟩
  ·exact ⟨s.length + 1,.inl ⟨a,N,[],[],by omega,⟨Mo.refl N,hin.nf,Up.refl F,by simp only [TrNs],hle,by simp⟩,rfl,rfl⟩⟩
 ·rintro m st' F1 (⟨a1,N1,l,ts,hm,hI,hW,rfl⟩ | ⟨a',e,p',N1,hW,hp',hE,rfl⟩)
  ·have ha1:=hI.le
   have hrm:=hI.room
   have hl1:l.length = ts.length:=(hI.tr.len).symm
   obtain ⟨g,rfl⟩:∃ g,m = g + 1:=⟨m - 1,by omega⟩
   refine SafeX.by mixed (env23_ok hP) (f:=23) (fi:=fi23) (i:=0) (by kernel_rfl) (b:=.loop (loopOf fi23 0)) (by kernel_rfl) (subs_loop _) 1000 (vr23_0 R s a1 n root N1 l part _ F1) ?_
   refine ⟨rfl,hn,N1,a1,rfl,rfl,rfl,rfl,rfl,rfl,rfl,⟨hI.nf,ha1,hs,by omega⟩,?_,?_⟩
   ·intro t a2 hpt N2 i F2 ho
    have hg:=(hG _ ha1 _ _ hpt).2
    have hfar:=ho.far ha1
    have hS:=hI.snoc ho hg
    rw [capN (by omega)]
    have hW2:LpI s (fun c => c == 124) 1 5 part a = (Lp s (fun c => c == 124) 1 5 part (g + 1) (ts ++ [t]) a2):=by rw [hW,hpt]; rfl
    refine ⟨show (0:Int) <= (a2:Int) - 0 by omega,hcB (fun hc => ?_) fun hc => ?_⟩
    ·have hlt:=hb_lt hc (by decide)
     rw [wrapSucc a2 (by omega)]
     refine toFive (o:=some 10) (d:=8) (l:=l ++ [i]) (Nat.le_refl 3) rfl rfl rfl (.inr ⟨10,_,rfl,by rw [List.length_append]; rfl,nrow_app l i⟩) (T:=tm23 0 (l ++ [i]).length) ?_ ?_
     ·rw [List.length_append]; (repeat' (first | with_reducible exact VwL.nil | with_reducible refine VwL.cons ?_ ?_ | with_reducible exact Vw.anyI | with_reducible exact Vw.strI | with_reducible exact Vw.boolI | with_reducible exact Vw.intI | with_reducible exact Vw.nilsI | exact Vw.ptrI (by simp) rfl | exact Vw.slI (by simp) rfl | with_reducible refine Vw.aggI ?_ | exact Vw.gndI rfl))
     ·refine ⟨g,Nat.lt_succ_self g,.inl ⟨a2 + 1,N2,l ++ [i],ts ++ [t],by omega,hS.step (by omega) hlt,?_,rfl⟩⟩
      rw [hW2]
      show (bif hbI s a2 == 124 then _ else _) = _
      rw [hc]; rfl
    ·refine toFive (o:=some 10) (d:=8) (l:=l ++ [i]) (Nat.le_refl 3) rfl rfl rfl (.inr ⟨10,_,rfl,by rw [List.length_append]; rfl,nrow_app l i⟩) (T:=tm23 0 (l ++ [i]).length) ?_ ?_
     ·rw [List.length_append]; (repeat' (first | with_reducible exact VwL.nil | with_reducible refine VwL.cons ?_ ?_ | with_reducible exact Vw.anyI | with_reducible exact Vw.strI | with_reducible exact Vw.boolI | with_reducible exact Vw.intI | with_reducible exact Vw.nilsI | exact Vw.ptrI (by simp) rfl | exact Vw.slI (by simp) rfl | with_reducible refine Vw.aggI ?_ | exact Vw.gndI rfl))
     ·refine hok (ts ++ [t]) (l ++ [i]) a2 N2 F2 ?_ (by simp) hS
      rw [hW2]
      show (bif hbI s a2 == 124 then _ else _) = _
      rw [hc]; rfl
   ·intro a' e hpt p' N2 v F2 hp' ho
    have hp':p' <= 200000:=hp'
    have hz:=hnz a1 a' e hpt
    obtain ⟨e0,rfl⟩:∃ e0,e = e0 + 1:=⟨e - 1,by omega⟩
    have hrE:=ho.room
    have hE:RErr s a N F N2 F2:=⟨hI.mo.trans ho.mo,ho.nf,hI.up.trans ho.up,by omega⟩
    rw [capN (by omega)]
    have hW2:LpI s (fun c => c == 124) 1 5 part a = .err a' (e0 + 1):=by rw [hW,hpt]; rfl
    refine ⟨show (0:Int) <= (p':Int) - 0 by omega,hcB (fun hc => ?_) fun hc => ?_⟩
    ·have hlt:=hb_lt hc (by decide)
     rw [wrapSucc p' (by omega)]
     refine toBad (d:=8) (Nat.le_refl 3) rfl rfl rfl (T:=tm23b 0) ?_ ?_
     ·(repeat' (first | with_reducible exact VwL.nil | with_reducible refine VwL.cons ?_ ?_ | with_reducible exact Vw.anyI | with_reducible exact Vw.strI | with_reducible exact Vw.boolI | with_reducible exact Vw.intI | with_reducible exact Vw.nilsI | exact Vw.ptrI (by simp) rfl | exact Vw.slI (by simp) rfl | with_reducible refine Vw.aggI ?_ | exact Vw.gndI rfl))
     ·exact ⟨g,Nat.lt_succ_self g,.inr ⟨a',e0,p' + 1,N2,hW2,by omega,hE,rfl⟩⟩
    ·refine toBad (d:=8) (Nat.le_refl 3) rfl rfl rfl (T:=tm23b 0) ?_ ?_
     ·(repeat' (first | with_reducible exact VwL.nil | with_reducible refine VwL.cons ?_ ?_ | with_reducible exact Vw.anyI | with_reducible exact Vw.strI | with_reducible exact Vw.boolI | with_reducible exact Vw.intI | with_reducible exact Vw.nilsI | exact Vw.ptrI (by simp) rfl | exact Vw.slI (by simp) rfl | with_reducible refine Vw.aggI ?_ | exact Vw.gndI rfl))
     ·exact herr a' (e0 + 1) p' N2 F2 hW2 (by omega) hp' hE
  ·refine SafeX.by mixed (env23_ok hP) (f:=23) (fi:=fi23) (i:=0) (by kernel_rfl) (b:=.loop (loopOf fi23 0)) (by kernel_rfl) (subs_loop _) 1000 (vr23b_0 R s p' n e (a':Nat) root N1 part _ F1) ?_
   refine toBad (d:=3) (Nat.le_refl 3) rfl rfl rfl (T:=tm23b 0) ?_ ?_
   ·(repeat' (first | with_reducible exact VwL.nil | with_reducible refine VwL.cons ?_ ?_ | with_reducible exact Vw.anyI | with_reducible exact Vw.strI | with_reducible exact Vw.boolI | with_reducible exact Vw.intI | with_reducible exact Vw.nilsI | exact Vw.ptrI (by simp) rfl | exact Vw.slI (by simp) rfl | with_reducible refine Vw.aggI ?_ | exact Vw.gndI rfl))
   ·exact herr a' (e + 1) p' N1 F1 hW (by omega) hp' hE
theorem vc23_2 (R:RR) (s:List UInt8) (a n:Nat) (root:Int) (N:List NE) (part:Nat -> PR) (k:AV -> Rows -> Fz -> Prop) (F:Fz):vcx ((env23 R s n 3 part).addLoop 23 0 (lp23 2 s n 4 (LpI s begins 0 4 part))) 1000 23 fi23 [.ptr false 0 0 0,.ptr false 1 0 0,.int .i64 2] [some (rrow s (a:Nat) (n:Nat) 0 0),some (trow 2 N.length root),some (arow N)] k F = (∃ (a_1:Nat),(↑a:Int) = (↑a_1:Int) /\ s.length.le 100000 /\ 98 = 98 /\ AV.ptr false 0 0 0 = AV.ptr false 0 0 0 /\ AV.ptr false 1 0 0 = AV.ptr false 1 0 0 /\ iI (2:Int) = iI 2 /\ AV.nils = AV.nils /\ ∃ (root_1:Int),∃ (N_1:List NE),∃ (a:Nat),[some (Row.lst 57 5 [AV.agg [AV.str s,iI (↑(blk s a_1):Int),iI (↑n:Int),iI 0,iI 0]]),some (Row.lst 35 2 [AV.agg [AV.sl false 2 0 N.length Cp.no,iI root]]),some (Row.gen 62 3 N.length fun (i:Nat) => neV (N.getD i dN))] = [some (Row.lst 57 5 [AV.agg [AV.str s,iI (↑a:Int),iI (↑n:Int),iI 0,iI 0]]),some (Row.lst 35 2 [AV.agg [AV.sl false 2 0 N_1.length Cp.no,iI root_1]]),some (Row.gen 62 3 N_1.length fun (i:Nat) => neV (N_1.getD i dN))] /\ RIn s a N_1 F /\ (∀ (ts:List Tr) (l:List Nat) (a1:Nat) (N':List NE) (F':Fz),LpI s begins 0 4 part a = PR.ok (rowT 4 ts) a1 -> (ts = [] -> False) -> RLs s a N_1 F ts a1 N' l F' -> bif (↑l.length:Int) == 1 then bif true && decide (0 < (↑l.length:Int)) then bif decide (0 < l.length) then k (iI (↑(l.getD 0 0):Int)) [some (Row.lst 57 5 [AV.agg [AV.str s,iI (↑a1:Int),iI (↑n:Int),iI 0,iI 0]]),some (Row.lst 35 2 [AV.agg [AV.sl false 3 0 N'.length Cp.no,iI root_1]]),none,some (Row.gen 62 3 N'.length fun (i:Nat) => neV (N'.getD i dN)),some (Row.gen 3 1 l.length fun (i:Nat) => iI (↑(l.getD i 0):Int))] F' else False else False else ∃ (r:Row),∃ (kids:List Nat),some (Row.gen 3 1 l.length fun (i:Nat) => iI (↑(l.getD i 0):Int)) = some r /\ RoOf r (RoRow.mk 3 1 kids.length fun (i:Nat) => iI (↑(kids.getD i 0):Int)) /\ l.length = kids.length /\ ∀ (F'_1:Fz) (x:Nat),Up F' F'_1 -> FrK F'_1 x kids -> ∃ (N:List NE),N'.length = N.length /\ some (Row.gen 62 3 N'.length fun (i:Nat) => tkE 4 x (AV.agg [iI (N'.getD i dN).kd,AV.str (N'.getD i dN).w,AV.sl true ((N'.getD i dN).x + 15) 0 (N'.getD i dN).kids.length Cp.no])) = some (Row.gen 62 3 N.length fun (i:Nat) => neV (N.getD i dN)) /\ N.length.le 100000 /\ k (iI (↑N.length:Int)) [some (Row.lst 57 5 [AV.agg [AV.str s,iI (↑a1:Int),iI (↑n:Int),iI 0,iI 0]]),some (Row.lst 35 2 [AV.agg [AV.sl false 8 0 (N ++ [NE.mk 4 [] kids x]).length Cp.no,iI root_1]]),none,none,none,some (Row.lst 3 1 [iI 5,iI 6,iI 4]),none,none,some (Row.gen 62 3 (N ++ [NE.mk 4 [] kids x]).length fun (i:Nat) => neV ((N ++ [NE.mk 4 [] kids x]).getD i dN))] F'_1) /\ ∀ (a' e p':Nat) (N':List NE) (F':Fz),LpI s begins 0 4 part a = PR.err a' e -> (e = 0 -> False) -> p'.le 200000 -> RErr s a N_1 F N' F' -> bif (↑e:Int) != 0 then k (iI (-1)) [some (Row.lst 57 5 [AV.agg [AV.str s,iI (↑p':Int),iI (↑n:Int),iI (↑a':Int),iI (↑e:Int)]]),some (Row.lst 35 2 [AV.agg [AV.sl false 3 0 N'.length Cp.no,iI root_1]]),none,some (Row.gen 62 3 N'.length fun (i:Nat) => neV (N'.getD i dN))] F' else False):=by kernel_rfl
theorem vc23_1 (R:RR) (s:List UInt8) (a n:Nat) (root:Int) (N:List NE) (part:Nat -> PR) (k:AV -> Rows -> Fz -> Prop) (F:Fz):vcx ((env23 R s n 2 part).addLoop 23 0 (lp23 1 s n 6 (LpI s (fun c => c == 38) 1 6 part))) 1000 23 fi23 [.ptr false 0 0 0,.ptr false 1 0 0,.int .i64 1] [some (rrow s (a:Nat) (n:Nat) 0 0),some (trow 2 N.length root),some (arow N)] k F = (98 = 98 /\ AV.ptr false 0 0 0 = AV.ptr false 0 0 0 /\ AV.ptr false 1 0 0 = AV.ptr false 1 0 0 /\ iI (1:Int) = iI 1 /\ AV.nils = AV.nils /\ ∃ (root_1:Int),∃ (N_1:List NE),∃ (a_1:Nat),[some (Row.lst 57 5 [AV.agg [AV.str s,iI (↑a:Int),iI (↑n:Int),iI 0,iI 0]]),some (Row.lst 35 2 [AV.agg [AV.sl false 2 0 N.length Cp.no,iI root]]),some (Row.gen 62 3 N.length fun (i:Nat) => neV (N.getD i dN))] = [some (Row.lst 57 5 [AV.agg [AV.str s,iI (↑a_1:Int),iI (↑n:Int),iI 0,iI 0]]),some (Row.lst 35 2 [AV.agg [AV.sl false 2 0 N_1.length Cp.no,iI root_1]]),some (Row.gen 62 3 N_1.length fun (i:Nat) => neV (N_1.getD i dN))] /\ RIn s a_1 N_1 F /\ (∀ (ts:List Tr) (l:List Nat) (a1:Nat) (N':List NE) (F':Fz),LpI s (fun (c:Int) => c == 38) 1 6 part a_1 = PR.ok (rowT 6 ts) a1 -> (ts = [] -> False) -> RLs s a_1 N_1 F ts a1 N' l F' -> bif (↑l.length:Int) == 1 then bif true && decide (0 < (↑l.length:Int)) then bif decide (0 < l.length) then k (iI (↑(l.getD 0 0):Int)) [some (Row.lst 57 5 [AV.agg [AV.str s,iI (↑a1:Int),iI (↑n:Int),iI 0,iI 0]]),some (Row.lst 35 2 [AV.agg [AV.sl false 3 0 N'.length Cp.no,iI root_1]]),none,some (Row.gen 62 3 N'.length fun (i:Nat) => neV (N'.getD i dN)),some (Row.gen 3 1 l.length fun (i:Nat) => iI (↑(l.getD i 0):Int))] F' else False else False else ∃ (r:Row),∃ (kids:List Nat),some (Row.gen 3 1 l.length fun (i:Nat) => iI (↑(l.getD i 0):Int)) = some r /\ RoOf r (RoRow.mk 3 1 kids.length fun (i:Nat) => iI (↑(kids.getD i 0):Int)) /\ l.length = kids.length /\ ∀ (F'_1:Fz) (x:Nat),Up F' F'_1 -> FrK F'_1 x kids -> ∃ (N:List NE),N'.length = N.length /\ some (Row.gen 62 3 N'.length fun (i:Nat) => tkE 4 x (AV.agg [iI (N'.getD i dN).kd,AV.str (N'.getD i dN).w,AV.sl true ((N'.getD i dN).x + 15) 0 (N'.getD i dN).kids.length Cp.no])) = some (Row.gen 62 3 N.length fun (i:Nat) => neV (N.getD i dN)) /\ N.length.le 100000 /\ k (iI (↑N.length:Int)) [some (Row.lst 57 5 [AV.agg [AV.str s,iI (↑a1:Int),iI (↑n:Int),iI 0,iI 0]]),some (Row.lst 35 2 [AV.agg [AV.sl false 8 0 (N ++ [NE.mk 6 [] kids x]).length Cp.no,iI root_1]]),none,none,none,some (Row.lst 3 1 [iI 5,iI 6,iI 4]),none,none,some (Row.gen 62 3 (N ++ [NE.mk 6 [] kids x]).length fun (i:Nat) => neV ((N ++ [NE.mk 6 [] kids x]).getD i dN))] F'_1) /\ ∀ (a' e p':Nat) (N':List NE) (F':Fz),LpI s (fun (c:Int) => c == 38) 1 6 part a_1 = PR.err a' e -> (e = 0 -> False) -> p'.le 200000 -> RErr s a_1 N_1 F N' F' -> bif (↑e:Int) != 0 then k (iI (-1)) [some (Row.lst 57 5 [AV.agg [AV.str s,iI (↑p':Int),iI (↑n:Int),iI (↑a':Int),iI (↑e:Int)]]),some (Row.lst 35 2 [AV.agg [AV.sl false 3 0 N'.length Cp.no,iI root_1]]),none,some (Row.gen 62 3 N'.length fun (i:Nat) => neV (N'.getD i dN))] F' else False):=by kernel_rfl
theorem vc23_0 (R:RR) (s:List UInt8) (a n:Nat) (root:Int) (N:List NE) (part:Nat -> PR) (k:AV -> Rows -> Fz -> Prop) (F:Fz):vcx ((env23 R s n 1 part).addLoop 23 0 (lp23 0 s n 5 (LpI s (fun c => c == 124) 1 5 part))) 1000 23 fi23 [.ptr false 0 0 0,.ptr false 1 0 0,.int .i64 0] [some (rrow s (a:Nat) (n:Nat) 0 0),some (trow 2 N.length root),some (arow N)] k F = (98 = 98 /\ AV.ptr false 0 0 0 = AV.ptr false 0 0 0 /\ AV.ptr false 1 0 0 = AV.ptr false 1 0 0 /\ iI (0:Int) = iI 0 /\ AV.nils = AV.nils /\ ∃ (root_1:Int),∃ (N_1:List NE),∃ (a_1:Nat),[some (Row.lst 57 5 [AV.agg [AV.str s,iI (↑a:Int),iI (↑n:Int),iI 0,iI 0]]),some (Row.lst 35 2 [AV.agg [AV.sl false 2 0 N.length Cp.no,iI root]]),some (Row.gen 62 3 N.length fun (i:Nat) => neV (N.getD i dN))] = [some (Row.lst 57 5 [AV.agg [AV.str s,iI (↑a_1:Int),iI (↑n:Int),iI 0,iI 0]]),some (Row.lst 35 2 [AV.agg [AV.sl false 2 0 N_1.length Cp.no,iI root_1]]),some (Row.gen 62 3 N_1.length fun (i:Nat) => neV (N_1.getD i dN))] /\ RIn s a_1 N_1 F /\ (∀ (ts:List Tr) (l:List Nat) (a1:Nat) (N':List NE) (F':Fz),LpI s (fun (c:Int) => c == 124) 1 5 part a_1 = PR.ok (rowT 5 ts) a1 -> (ts = [] -> False) -> RLs s a_1 N_1 F ts a1 N' l F' -> bif (↑l.length:Int) == 1 then bif true && decide (0 < (↑l.length:Int)) then bif decide (0 < l.length) then k (iI (↑(l.getD 0 0):Int)) [some (Row.lst 57 5 [AV.agg [AV.str s,iI (↑a1:Int),iI (↑n:Int),iI 0,iI 0]]),some (Row.lst 35 2 [AV.agg [AV.sl false 3 0 N'.length Cp.no,iI root_1]]),none,some (Row.gen 62 3 N'.length fun (i:Nat) => neV (N'.getD i dN)),some (Row.gen 3 1 l.length fun (i:Nat) => iI (↑(l.getD i 0):Int))] F' else False else False else ∃ (r:Row),∃ (kids:List Nat),some (Row.gen 3 1 l.length fun (i:Nat) => iI (↑(l.getD i 0):Int)) = some r /\ RoOf r (RoRow.mk 3 1 kids.length fun (i:Nat) => iI (↑(kids.getD i 0):Int)) /\ l.length = kids.length /\ ∀ (F'_1:Fz) (x:Nat),Up F' F'_1 -> FrK F'_1 x kids -> ∃ (N:List NE),N'.length = N.length /\ some (Row.gen 62 3 N'.length fun (i:Nat) => tkE 4 x (AV.agg [iI (N'.getD i dN).kd,AV.str (N'.getD i dN).w,AV.sl true ((N'.getD i dN).x + 15) 0 (N'.getD i dN).kids.length Cp.no])) = some (Row.gen 62 3 N.length fun (i:Nat) => neV (N.getD i dN)) /\ N.length.le 100000 /\ k (iI (↑N.length:Int)) [some (Row.lst 57 5 [AV.agg [AV.str s,iI (↑a1:Int),iI (↑n:Int),iI 0,iI 0]]),some (Row.lst 35 2 [AV.agg [AV.sl false 8 0 (N ++ [NE.mk 5 [] kids x]).length Cp.no,iI root_1]]),none,none,none,some (Row.lst 3 1 [iI 5,iI 6,iI 4]),none,none,some (Row.gen 62 3 (N ++ [NE.mk 5 [] kids x]).length fun (i:Nat) => neV ((N ++ [NE.mk 5 [] kids x]).getD i dN))] F'_1) /\ ∀ (a' e p':Nat) (N':List NE) (F':Fz),LpI s (fun (c:Int) => c == 124) 1 5 part a_1 = PR.err a' e -> (e = 0 -> False) -> p'.le 200000 -> RErr s a_1 N_1 F N' F' -> bif (↑e:Int) != 0 then k (iI (-1)) [some (Row.lst 57 5 [AV.agg [AV.str s,iI (↑p':Int),iI (↑n:Int),iI (↑a':Int),iI (↑e:Int)]]),some (Row.lst 35 2 [AV.agg [AV.sl false 3 0 N'.length Cp.no,iI root_1]]),none,some (Row.gen 62 3 N'.length fun (i:Nat) => neV (N'.getD i dN))] F' else False):=by kernel_rfl
theorem vc23_3 (R:RR) (s:List UInt8) (a n:Nat) (root:Int) (N:List NE) (part:Nat -> PR) (k:AV -> Rows -> Fz -> Prop) (F:Fz):vcx (env23i R s n part) 1000 23 fi23 [.ptr false 0 0 0,.ptr false 1 0 0,.int .i64 3] [some (rrow s (a:Nat) (n:Nat) 0 0),some (trow 2 N.length root),some (arow N)] k F = (∃ (N_1:List NE),∃ (a_1:Nat),s = s /\ (↑a:Int) = (↑a_1:Int) /\ (↑n:Int) = (↑n:Int) /\ (0:Int) = 0 /\ (0:Int) = 0 /\ N.length = N_1.length /\ some (Row.gen 62 3 N.length fun (i:Nat) => neV (N.getD i dN)) = some (Row.gen 62 3 N_1.length fun (i:Nat) => neV (N_1.getD i dN)) /\ RIn s a_1 N_1 F /\ (∀ (t:Tr) (a1:Nat),part a_1 = PR.ok t a1 -> ∀ (N':List NE) (i:Nat) (F':Fz),ROk s a_1 N_1 F t a1 N' i F' -> k (iI (↑i:Int)) [some (Row.lst 57 5 [AV.agg [AV.str s,iI (↑a1:Int),iI (↑n:Int),iI 0,iI 0]]),some (Row.lst 35 2 [AV.agg [AV.sl false 6 0 N'.length Cp.no,iI root]]),none,none,none,none,some (Row.gen 62 3 N'.length fun (i:Nat) => neV (N'.getD i dN))] F') /\ ∀ (a' e:Nat),part a_1 = PR.err a' e -> ∀ (p':Nat) (N':List NE) (v:Int) (F':Fz),p'.le 200000 -> RErr s a_1 N_1 F N' F' -> k (iI v) [some (Row.lst 57 5 [AV.agg [AV.str s,iI (↑p':Int),iI (↑n:Int),iI (↑a':Int),iI (↑e:Int)]]),some (Row.lst 35 2 [AV.agg [AV.sl false 6 0 N'.length Cp.no,iI root]]),none,none,none,none,some (Row.gen 62 3 N'.length fun (i:Nat) => neV (N'.getD i dN))] F'):=by kernel_rfl
theorem lvl_one {s:List UInt8} {a a2 a1 kd:Nat} {N N':List NE} {F F':Fz} {ts:List Tr} {l:List Nat} {r:PR} (h:RLs s a2 N F ts a1 N' l F') (ha:a <= a2) (hr:r = .ok (rowT kd ts) a1) (h1:l.length = 1):Out s a N F r (.int .i64 ((l.getD 0 0:Nat):Int)) (a1:Nat) 0 0 N' F':=by
 have hl:=h.tr.len
 have hm:=h.room
 obtain ⟨i,rfl⟩:=List.length_eq_one_iff.1 h1
 obtain ⟨t,rfl⟩:=List.length_eq_one_iff.1 hl
 have ht:=h.tr
 simp only [TrNs,and_true] at ht
 exact .ok t a1 i N' F' hr ⟨h.mo,h.nf,h.up,ht,by simp only [List.length_cons,List.length_nil] at hm; omega⟩
theorem rowT_more {kd:Nat} {ts:List Tr} (h:ts.length ≠ 1):rowT kd ts = .mk kd [] ts:=by
 match ts,h with
 | [],_ => rfl
 | [t],h => exact absurd rfl h
 | t :: u :: ts,_ => rfl
theorem lvl_more {s:List UInt8} {a a2 a1 kd x:Nat} {N N':List NE} {F F' F2:Fz} {ts:List Tr} {l:List Nat} {r:PR} (h:RLs s a2 N F ts a1 N' l F') (ha:a <= a2) (hr:r = .ok (rowT kd ts) a1) (hne:ts = [] -> False) (h1:l.length ≠ 1) (hu:Up F' F2) (hf:FrK F2 x l):Out s a N F r (.int .i64 (N'.length:Nat)) (a1:Nat) 0 0 (N' ++ [⟨(kd:Nat),[],l,x⟩]) F2:=by
 have hl:=h.tr.len
 have hm:=h.room
 rw [rowT_more (by omega)] at hr
 have h2:2 <= ts.length:=by
  match ts,hne with
  | [],hne => exact absurd rfl hne
  | [t],_ => exact absurd (by simpa using hl.symm) h1
  | t :: u :: ts,_ => simp
 exact .ok _ a1 N'.length _ F2 hr ⟨h.mo.trans (Mo.snoc _ _),(h.nf.le hu).snoc hf.fr,h.up.trans hu,trn_new h.tr,by simp only [List.length_append,List.length_cons,List.length_nil]; omega⟩
theorem nrow_ro (l:List Nat):RoOf (nrow l) (kidN l):=RoOf.gen fun i hi e he => by
 simp only [AV.cells,List.mem_cons,List.not_mem_nil,or_false] at he
 rw [he]; trivial
theorem rin_blk {s:List UInt8} {a:Nat} {N:List NE} {F:Fz} (h:RIn s a N F):RIn s (blk s a) N F :=
 ⟨h.nf,blk_le h.le,h.sm,by have:=h.room; have:=blk_ge (s:=s) a; omega⟩
theorem lvl23_2 {R:RR} {s:List UInt8} {n:Nat} {part:Nat -> PR} (hP:∀ HP args h k F,spec23 s n 3 part args h k F -> SafeCallX Try.prog R 23 args h F k HP) (hnz:∀ a,NZ (part a)) (hG:Goes s part) (hn:n <= 16) {a:Nat} {root:Int} {N:List NE} {F:Fz} (hin:RIn s a N F) (HP:HPt) :
  SafeCallX Try.prog R 23 [.ptr false 0 0 0,.ptr false 1 0 0,.int .i64 2] [some (rrow s (a:Nat) (n:Nat) 0 0),some (trow 2 N.length root),some (arow N)] F (Ans s a n root N F (LpI s begins 0 4 part (blk s a))) HP:=by
 have hs:=hin.sm
 have hsl:s.length <= 100000:=by omega
 have hle:=hin.le
 have hR:=hin.room
 refine SafeCallX.by mixed ((env23_ok (hP HP)).addLoop (f:=23) (fi:=fi23) (by kernel_rfl) (i:=0) (body:=.loop (loopOf fi23 0)) (by kernel_rfl) (loop23_2 HP (hP HP) hnz hG hn)) (f:=23) (fi:=fi23) (by kernel_rfl) 1000 (vc23_2 R s a n root N part _ F) ?_
 refine ⟨a,rfl,hsl,rfl,rfl,rfl,rfl,rfl,root,N,(blk s a),rfl,(rin_blk hin),?_,?_⟩
 ·intro ts l a1 N' F' hr hne hI
  have hl:=hI.tr.len
  have hrm:=hI.room
  refine hcB (fun h1 => ?_) fun h1 => ?_
  ·have h1:l.length = 1:=by have:=eq_of_beq h1; omega
   refine hcT (by rw [h1]; rfl) (hcT (by rw [h1]; rfl) ?_)
   exact ⟨_,_,_,3,N',lvl_one hI (blk_ge a) hr h1,rfl,rfl,rfl⟩
  ·have h1:l.length ≠ 1:=by
    rw [beq_eq_false_iff_ne] at h1; omega
   refine ⟨_,l,rfl,nrow_ro l,rfl,fun F2 x hu hf => ⟨N',rfl,rfl,show N'.length <= 100000 by omega,?_⟩⟩
   exact ⟨_,_,_,8,_,lvl_more (kd:=4) hI (blk_ge a) hr hne h1 hu hf,rfl,rfl,rfl⟩
 ·intro a' e p' N' F' hr hz hp' hE
  have hz:e ≠ 0:=hz
  refine hcT (by rw [bne_iff_ne]; omega) ?_
  have hrE:=hE.room
  exact ⟨_,_,_,3,N',.err a' e p' _ N' F' hr hp' ⟨hE.mo,hE.nf,hE.up,by have:a <= (blk s a):=(blk_ge a); omega⟩,rfl,rfl,rfl⟩
theorem lvl23_1 {R:RR} {s:List UInt8} {n:Nat} {part:Nat -> PR} (hP:∀ HP args h k F,spec23 s n 2 part args h k F -> SafeCallX Try.prog R 23 args h F k HP) (hnz:∀ a,NZ (part a)) (hG:Goes s part) (hn:n <= 16) {a:Nat} {root:Int} {N:List NE} {F:Fz} (hin:RIn s a N F) (HP:HPt) :
  SafeCallX Try.prog R 23 [.ptr false 0 0 0,.ptr false 1 0 0,.int .i64 1] [some (rrow s (a:Nat) (n:Nat) 0 0),some (trow 2 N.length root),some (arow N)] F (Ans s a n root N F (LpI s (fun c => c == 38) 1 6 part a)) HP:=by
 have hs:=hin.sm
 have hsl:s.length <= 100000:=by omega
 have hle:=hin.le
 have hR:=hin.room
 refine SafeCallX.by mixed ((env23_ok (hP HP)).addLoop (f:=23) (fi:=fi23) (by kernel_rfl) (i:=0) (body:=.loop (loopOf fi23 0)) (by kernel_rfl) (loop23_1 HP (hP HP) hnz hG hn)) (f:=23) (fi:=fi23) (by kernel_rfl) 1000 (vc23_1 R s a n root N part _ F) ?_
 refine ⟨rfl,rfl,rfl,rfl,rfl,root,N,a,rfl,hin,?_,?_⟩
 ·intro ts l a1 N' F' hr hne hI
  have hl:=hI.tr.len
  have hrm:=hI.room
  refine hcB (fun h1 => ?_) fun h1 => ?_
  ·have h1:l.length = 1:=by have:=eq_of_beq h1; omega
   refine hcT (by rw [h1]; rfl) (hcT (by rw [h1]; rfl) ?_)
   exact ⟨_,_,_,3,N',lvl_one hI (Nat.le_refl a) hr h1,rfl,rfl,rfl⟩
  ·have h1:l.length ≠ 1:=by
    rw [beq_eq_false_iff_ne] at h1; omega
   refine ⟨_,l,rfl,nrow_ro l,rfl,fun F2 x hu hf => ⟨N',rfl,rfl,show N'.length <= 100000 by omega,?_⟩⟩
   exact ⟨_,_,_,8,_,lvl_more (kd:=6) hI (Nat.le_refl a) hr hne h1 hu hf,rfl,rfl,rfl⟩
 ·intro a' e p' N' F' hr hz hp' hE
  have hz:e ≠ 0:=hz
  refine hcT (by rw [bne_iff_ne]; omega) ?_
  have hrE:=hE.room
  exact ⟨_,_,_,3,N',.err a' e p' _ N' F' hr hp' ⟨hE.mo,hE.nf,hE.up,by have:a <= a:=(Nat.le_refl a); omega⟩,rfl,rfl,rfl⟩
theorem lvl23_0 {R:RR} {s:List UInt8} {n:Nat} {part:Nat -> PR} (hP:∀ HP args h k F,spec23 s n 1 part args h k F -> SafeCallX Try.prog R 23 args h F k HP) (hnz:∀ a,NZ (part a)) (hG:Goes s part) (hn:n <= 16) {a:Nat} {root:Int} {N:List NE} {F:Fz} (hin:RIn s a N F) (HP:HPt) :
  SafeCallX Try.prog R 23 [.ptr false 0 0 0,.ptr false 1 0 0,.int .i64 0] [some (rrow s (a:Nat) (n:Nat) 0 0),some (trow 2 N.length root),some (arow N)] F (Ans s a n root N F (LpI s (fun c => c == 124) 1 5 part a)) HP:=by
 have hs:=hin.sm
 have hsl:s.length <= 100000:=by omega
 have hle:=hin.le
 have hR:=hin.room
 refine SafeCallX.by mixed ((env23_ok (hP HP)).addLoop (f:=23) (fi:=fi23) (by kernel_rfl) (i:=0) (body:=.loop (loopOf fi23 0)) (by kernel_rfl) (loop23_0 HP (hP HP) hnz hG hn)) (f:=23) (fi:=fi23) (by kernel_rfl) 1000 (vc23_0 R s a n root N part _ F) ?_
 refine ⟨rfl,rfl,rfl,rfl,rfl,root,N,a,rfl,hin,?_,?_⟩
 ·intro ts l a1 N' F' hr hne hI
  have hl:=hI.tr.len
  have hrm:=hI.room
  refine hcB (fun h1 => ?_) fun h1 => ?_
  ·have h1:l.length = 1:=by have:=eq_of_beq h1; omega
   refine hcT (by rw [h1]; rfl) (hcT (by rw [h1]; rfl) ?_)
   exact ⟨_,_,_,3,N',lvl_one hI (Nat.le_refl a) hr h1,rfl,rfl,rfl⟩
  ·have h1:l.length ≠ 1:=by
    rw [beq_eq_false_iff_ne] at h1; omega
   refine ⟨_,l,rfl,nrow_ro l,rfl,fun F2 x hu hf => ⟨N',rfl,rfl,show N'.length <= 100000 by omega,?_⟩⟩
   exact ⟨_,_,_,8,_,lvl_more (kd:=5) hI (Nat.le_refl a) hr hne h1 hu hf,rfl,rfl,rfl⟩
 ·intro a' e p' N' F' hr hz hp' hE
  have hz:e ≠ 0:=hz
  refine hcT (by rw [bne_iff_ne]; omega) ?_
  have hrE:=hE.room
  exact ⟨_,_,_,3,N',.err a' e p' _ N' F' hr hp' ⟨hE.mo,hE.nf,hE.up,by have:a <= a:=(Nat.le_refl a); omega⟩,rfl,rfl,rfl⟩
theorem lvl23_3 {R:RR} {s:List UInt8} {n:Nat} {part:Nat -> PR} (hP:∀ HP args h k F,spec31 s n part args h k F -> SafeCallX Try.prog R 31 args h F k HP) {a:Nat} {root:Int} {N:List NE} {F:Fz} (hin:RIn s a N F) (HP:HPt) :
  SafeCallX Try.prog R 23 [.ptr false 0 0 0,.ptr false 1 0 0,.int .i64 3] [some (rrow s (a:Nat) (n:Nat) 0 0),some (trow 2 N.length root),some (arow N)] F (Ans s a n root N F (part a)) HP:=by
 refine SafeCallX.by mixed ((envQ_ok R HP).addCall (f:=31) (fi:=fi31) (by kernel_rfl) (hP HP)) (f:=23) (fi:=fi23) (by kernel_rfl) 1000 (vc23_3 R s a n root N part _ F) ?_
 refine ⟨N,a,rfl,rfl,rfl,rfl,rfl,rfl,rfl,hin,?_,?_⟩
 ·intro t a1 hr N' i F' ho
  exact ⟨_,_,_,6,N',.ok t a1 i N' F' hr ho,rfl,rfl,rfl⟩
 ·intro a' e hr p' N' v F' hp' hE
  exact ⟨_,_,_,6,N',.err a' e p' v N' F' hr hp' hE,rfl,rfl,rfl⟩
theorem at23 {R:RR} {s:List UInt8} {n:Nat} {kk:Int} {r:Nat -> PR} (hs:n <= 16 -> ∀ a root N F,RIn s a N F -> SafeCallX Try.prog R 23 [.ptr false 0 0 0,.ptr false 1 0 0,.int .i64 kk] [some (rrow s (a:Nat) (n:Nat) 0 0),some (trow 2 N.length root),some (arow N)] F (Ans s a n root N F (r a)) (fun _ _ _ => False)) (HP:HPt) :
  ∀ args h k F,spec23 s n kk r args h k F -> SafeCallX Try.prog R 23 args h F k HP:=by
 intro args h k F hk
 unfold spec23 at hk
 split at hk
 ·rename_i b c j
  obtain ⟨rfl,hn,hk⟩:=hk
  exact ref_at (argsL:=[.ptr false 0 0 0,.ptr false 1 0 0,.int .i64 j]) (fun d => VwL.cons (Vw.ptrI (by decide) rfl) (VwL.cons (Vw.ptrI (by decide) rfl) (VwL.cons Vw.intI VwL.nil))) (fun a root N hin => hs hn a root N F hin) hk
 ·exact hk.elim
theorem all23 (R:RR) (s:List UInt8):∀ (d:Nat),d <= 17 -> ∀ HP args h k F,spec23 s (17 - d) 0 (pAltD s d) args h k F -> SafeCallX Try.prog R 23 args h F k HP
 | 0,_ => fun HP args h k F hk => by
  unfold spec23 at hk
  split at hk
  ·have:=hk.2.1; omega
  ·exact hk.elim
 | d + 1,hd => fun HP => at23 (r:=pAltD s (d + 1)) (fun hn a root N F hin => by
  have ih:=all23 R s d (by omega)
  have hA:=pAltD_nz (s:=s) d
  have hG:=pAltD_goes (s:=s) d
  have e:17 - (d + 1) + 1 = 17 - d:=by omega
  have h31:∀ HP args h k F,spec31 s (17 - (d + 1)) (pItem s (17 - (d + 1)) (pAltD s d)) args h k F -> SafeCallX Try.prog R 31 args h F k HP:=spec31_ok (by rw [e]; exact ih) hA hG hn
  have h3:∀ HP args h k F,spec23 s (17 - (d + 1)) 3 (pItem s (17 - (d + 1)) (pAltD s d)) args h k F -> SafeCallX Try.prog R 23 args h F k HP:=fun HP => at23 (fun _ a root N F hin => lvl23_3 h31 hin _) HP
  have n3:∀ a,NZ (pItem s (17 - (d + 1)) (pAltD s d) a):=pItem_nz hA
  have g3:Goes s (pItem s (17 - (d + 1)) (pAltD s d)):=fun a ha t a1 h => by have:=pItem_goes hG ha h; omega
  have h2:∀ HP args h k F,spec23 s (17 - (d + 1)) 2 (pSeq s (17 - (d + 1)) (pAltD s d)) args h k F -> SafeCallX Try.prog R 23 args h F k HP:=fun HP => at23 (fun _ a root N F hin => by rw [pSeq_lp]; exact lvl23_2 h3 n3 g3 hn hin _) HP
  have n2:∀ a,NZ (pSeq s (17 - (d + 1)) (pAltD s d) a):=pSeq_nz hA
  have g2:Goes s (pSeq s (17 - (d + 1)) (pAltD s d)):=pSeq_goes hG
  have h1:∀ HP args h k F,spec23 s (17 - (d + 1)) 1 (pAll s (17 - (d + 1)) (pAltD s d)) args h k F -> SafeCallX Try.prog R 23 args h F k HP:=fun HP => at23 (fun _ a root N F hin => by
   show SafeCallX _ _ _ _ _ _ (Ans s a _ root N F (pJoin s 38 6 (pSeq s (17 - (d + 1)) (pAltD s d)) a)) _
   rw [pJoin_lp]; exact lvl23_1 h2 n2 g2 hn hin _) HP
  have n1:∀ a,NZ (pAll s (17 - (d + 1)) (pAltD s d) a):=pJoin_nz n2
  have g1:Goes s (pAll s (17 - (d + 1)) (pAltD s d)):=pAll_goes hG
  have e0:pAltD s (d + 1) a = LpI s (fun c => c == 124) 1 5 (pAll s (17 - (d + 1)) (pAltD s d)) a:=by
   have e1:17 - (d + 1) = 16 - d:=by omega
   rw [e1]
   show pJoin s 124 5 (pAll s (16 - d) (pAltD s d)) a = _
   rw [pJoin_lp]
  rw [e0]
  exact lvl23_0 h1 n1 g1 hn hin _) HP
abbrev tree0:Row:=.lst 35 2 [.agg [.nils,.int .i64 0]]
def preF:Nat -> Option Nat:=fun c => bif Nat.beq c 0 then some 1 else bif Nat.beq c 1 then some 0 else none
abbrev five11 (s:List UInt8) (p bd er:Int) (N:List NE):Rows:=[some (trow 5 N.length 0),some (rrow s p 0 bd er),none,none,none,some (arow N)]
def spec23t (s:List UInt8):CallSpecX:=fun args h k => match args with
 | [.ptr false 1 0 0,.ptr false 0 0 0,.int .i64 0] => fun F => h = [some tree0,some (rrow s 0 0 0 0)] /\ s.length <= 256 /\
   (∀ t a1,pAltD s 17 0 = .ok t a1 -> ∀ N' i F',ROk s 0 [] F t a1 N' i F' -> k (.int .i64 (i:Nat)) (five11 s (a1:Nat) 0 0 N') F') /\
   (∀ a' e,pAltD s 17 0 = .err a' e -> ∀ (p':Nat) (N':List NE) (v:Int) F',p' <= 200000 -> RErr s 0 [] F N' F' -> k (.int .i64 v) (five11 s (p':Nat) (a':Nat) (e:Nat) N') F')
 | _ => botX
theorem nf_nil (F:Fz):NF F []:=⟨fun e he => by cases he⟩
theorem preV (s:List UInt8):View preF [some (rrow s 0 0 0 0),some (trow 2 0 0),some (arow [])] [some tree0,some (rrow s 0 0 0 0)] where
 lt:=fun c b hc hb => by
  match c with
  | 0 => cases hb; show 1 < 2; decide
  | 1 => cases hb; show 0 < 2; decide
  | c + 2 => cases hb
 inj:=fun c c' b hc hc' h h' => by
  match c,c' with
  | 0,0 => rfl
  | 1,1 => rfl
  | 0,1 => cases h; cases h'
  | 1,0 => cases h; cases h'
  | c + 2,_ => cases h
  | 0,c + 2 => cases h'
  | 1,c + 2 => cases h'
 row:=fun c r hc => by
  match c with
  | 0 => cases hc; exact .inl ⟨1,_,rfl,rfl,(rrow_g _ _ _ _ _).vw _ _⟩
  | 1 => cases hc; exact .inl ⟨0,_,rfl,rfl,.lst1 rfl (Vw.aggI (VwL.cons (by simp only [Vw]; exact ⟨by simp,.inr ⟨rfl,trivial,by simp [CpOK],trivial⟩⟩) (VwL.cons Vw.intI VwL.nil)))⟩
  | 2 => cases hc; exact .inr ⟨rfl,rfl⟩
  | c + 3 => simp [Rows.live] at hc
theorem spec23t_ok (R:RR) (s:List UInt8) (HP:HPt):∀ args h k F,spec23t s args h k F -> SafeCallX Try.prog R 23 args h F k HP:=by
 intro args h k F hk
 unfold spec23t at hk
 split at hk
 ·obtain ⟨rfl,hs,hok,herr⟩:=hk
  have h0:SafeCallX Try.prog R 23 [.ptr false 0 0 0,.ptr false 1 0 0,.int .i64 0] [some (rrow s 0 0 0 0),some (trow 2 0 0),some (arow [])] F (Ans s 0 0 0 [] F (pAltD s 17 0)) (fun _ _ _ => False):=by
   refine all23 R s 17 (Nat.le_refl _) _ _ _ _ _ ?_
   refine ⟨rfl,Nat.zero_le _,[],0,rfl,rfl,rfl,rfl,rfl,rfl,rfl,⟨nf_nil F,Nat.zero_le _,hs,by simp only [List.length_nil]; omega⟩,?_,?_⟩
   ·intro t a1 hr N' i F' ho
    exact ⟨_,_,_,6,N',.ok t a1 i N' F' hr ho,rfl,rfl,rfl⟩
   ·intro a' e hr p' N' v F' hp hE
    exact ⟨_,_,_,6,N',.err a' e p' v N' F' hr hp hE,rfl,rfl,rfl⟩
  refine (SafeCallX.focus (preV s) (argsL:=[.ptr false 0 0 0,.ptr false 1 0 0,.int .i64 0]) (VwL.cons (Vw.ptrI (by simp) rfl) (VwL.cons (Vw.ptrI (by simp) rfl) (VwL.cons Vw.intI VwL.nil))) (ref_out (n:=0) (a:=0) (N:=[]) h0)).mono ?_ ?_
  ·rintro v h' F' _ ⟨v0,h1,⟨p,bd,er,N',ho,rfl⟩,rfl,rfl⟩
   have e:merged preF 3 3 [some tree0,some (rrow s 0 0 0 0)] (out4 (rrow s p 0 bd er) N'.length 0 N') = five11 s p bd er N':=by kernel_rfl
   show k _ (merged preF 3 3 [some tree0,some (rrow s 0 0 0 0)] (out4 (rrow s p 0 bd er) N'.length 0 N')) F'
   rw [e]
   cases ho with
   | ok t a1 i _ _ hr hh => exact hok t a1 hr N' i F' hh
   | err a' e1 p' w _ _ hr hp hh => exact herr a' e1 hr p' N' w F' hp hh
  ·rintro v h' F' _ ⟨_,_,h,_⟩; exact h.elim
 ·exact hk.elim
noncomputable abbrev env11 (R:RR) (s:List UInt8):EnvX:=(envP R).addCall 23 (spec23t s)
theorem env11_ok (R:RR) (s:List UInt8) (HP:HPt):OKX Try.prog (env11 R s) [] HP:=(envP_ok R HP).addCall (f:=23) (fi:=fi23) (by kernel_rfl) (spec23t_ok R s HP)
theorem vc11 (R:RR) (s:List UInt8) (k:AV -> Rows -> Fz -> Prop) (F:Fz):vcx (env11 R s) 1000 11 fi11 [.str s] [] k F = (bif decide ((↑s.length:Int) > 256) then k (AV.tup [AV.ptr false 0 0 0,iI 0,iI 2]) [some (Row.lst 35 2 [AV.agg [AV.nils,iI 0]])] F else [some (Row.lst 35 2 [AV.agg [AV.nils,iI 0]]),some (Row.lst 57 5 [AV.agg [AV.str s,iI 0,iI 0,iI 0,iI 0]])] = [some (Row.lst 35 2 [AV.agg [AV.nils,iI 0]]),some (Row.lst 57 5 [AV.agg [AV.str s,iI 0,iI 0,iI 0,iI 0]])] /\ s.length.le 256 /\ (∀ (t:Tr) (a1:Nat),pAltD s 17 0 = PR.ok t a1 -> ∀ (N':List NE) (i:Nat) (F':Fz),ROk s 0 [] F t a1 N' i F' -> bif decide ((↑a1:Int) < (↑s.length:Int)) then iI (3:Int) = iI 3 /\ iI (↑a1:Int) = iI (↑a1:Int) /\ iI (3:Int) = iI 3 /\ iI (↑a1:Int) = iI (↑a1:Int) /\ iI (3:Int) = iI 3 /\ k (AV.tup [AV.ptr false 6 0 0,iI (↑a1:Int),iI 3]) [some (Row.lst 35 2 [AV.agg [AV.sl false 5 0 N'.length Cp.no,iI 0]]),some (Row.lst 57 5 [AV.agg [AV.str s,iI (↑a1:Int),iI 0,iI (↑a1:Int),iI 3]]),none,none,none,some (Row.gen 62 3 N'.length fun (i:Nat) => neV (N'.getD i dN)),some (Row.lst 35 2 [AV.agg [AV.nils,iI 0]])] F' else k (AV.tup [AV.ptr false 0 0 0,iI 0,iI 0]) [some (Row.lst 35 2 [AV.agg [AV.sl false 5 0 N'.length Cp.no,iI (↑i:Int)]]),some (Row.lst 57 5 [AV.agg [AV.str s,iI (↑a1:Int),iI 0,iI 0,iI 0]]),none,none,none,some (Row.gen 62 3 N'.length fun (i:Nat) => neV (N'.getD i dN))] F') /\ ∀ (a' e:Nat),pAltD s 17 0 = PR.err a' e -> ∀ (p':Nat) (N':List NE) (v:Int) (F':Fz),p'.le 200000 -> RErr s 0 [] F N' F' -> bif (↑e:Int) == 0 then bif decide ((↑p':Int) < (↑s.length:Int)) then bif (↑e:Int) == 0 then iI (3:Int) = iI 3 /\ iI (↑p':Int) = iI (↑p':Int) /\ iI (3:Int) = iI 3 /\ iI (↑p':Int) = iI (↑p':Int) /\ iI (3:Int) = iI 3 /\ k (AV.tup [AV.ptr false 6 0 0,iI (↑p':Int),iI 3]) [some (Row.lst 35 2 [AV.agg [AV.sl false 5 0 N'.length Cp.no,iI 0]]),some (Row.lst 57 5 [AV.agg [AV.str s,iI (↑p':Int),iI 0,iI (↑p':Int),iI 3]]),none,none,none,some (Row.gen 62 3 N'.length fun (i:Nat) => neV (N'.getD i dN)),some (Row.lst 35 2 [AV.agg [AV.nils,iI 0]])] F' else bif (↑e:Int) != 0 then iI (↑e:Int) = iI (↑e:Int) /\ iI (↑a':Int) = iI (↑a':Int) /\ iI (↑e:Int) = iI (↑e:Int) /\ iI (↑a':Int) = iI (↑a':Int) /\ iI (↑e:Int) = iI (↑e:Int) /\ k (AV.tup [AV.ptr false 6 0 0,iI (↑a':Int),iI (↑e:Int)]) [some (Row.lst 35 2 [AV.agg [AV.sl false 5 0 N'.length Cp.no,iI 0]]),some (Row.lst 57 5 [AV.agg [AV.str s,iI (↑p':Int),iI 0,iI (↑a':Int),iI (↑e:Int)]]),none,none,none,some (Row.gen 62 3 N'.length fun (i:Nat) => neV (N'.getD i dN)),some (Row.lst 35 2 [AV.agg [AV.nils,iI 0]])] F' else k (AV.tup [AV.ptr false 0 0 0,iI 0,iI 0]) [some (Row.lst 35 2 [AV.agg [AV.sl false 5 0 N'.length Cp.no,iI v]]),some (Row.lst 57 5 [AV.agg [AV.str s,iI (↑p':Int),iI 0,iI (↑a':Int),iI (↑e:Int)]]),none,none,none,some (Row.gen 62 3 N'.length fun (i:Nat) => neV (N'.getD i dN))] F' else bif (↑e:Int) != 0 then iI (↑e:Int) = iI (↑e:Int) /\ iI (↑a':Int) = iI (↑a':Int) /\ iI (↑e:Int) = iI (↑e:Int) /\ iI (↑a':Int) = iI (↑a':Int) /\ iI (↑e:Int) = iI (↑e:Int) /\ k (AV.tup [AV.ptr false 6 0 0,iI (↑a':Int),iI (↑e:Int)]) [some (Row.lst 35 2 [AV.agg [AV.sl false 5 0 N'.length Cp.no,iI 0]]),some (Row.lst 57 5 [AV.agg [AV.str s,iI (↑p':Int),iI 0,iI (↑a':Int),iI (↑e:Int)]]),none,none,none,some (Row.gen 62 3 N'.length fun (i:Nat) => neV (N'.getD i dN)),some (Row.lst 35 2 [AV.agg [AV.nils,iI 0]])] F' else k (AV.tup [AV.ptr false 0 0 0,iI 0,iI 0]) [some (Row.lst 35 2 [AV.agg [AV.sl false 5 0 N'.length Cp.no,iI v]]),some (Row.lst 57 5 [AV.agg [AV.str s,iI (↑p':Int),iI 0,iI (↑a':Int),iI (↑e:Int)]]),none,none,none,some (Row.gen 62 3 N'.length fun (i:Nat) => neV (N'.getD i dN))] F' else bif (↑e:Int) != 0 then iI (↑e:Int) = iI (↑e:Int) /\ iI (↑a':Int) = iI (↑a':Int) /\ iI (↑e:Int) = iI (↑e:Int) /\ iI (↑a':Int) = iI (↑a':Int) /\ iI (↑e:Int) = iI (↑e:Int) /\ k (AV.tup [AV.ptr false 6 0 0,iI (↑a':Int),iI (↑e:Int)]) [some (Row.lst 35 2 [AV.agg [AV.sl false 5 0 N'.length Cp.no,iI 0]]),some (Row.lst 57 5 [AV.agg [AV.str s,iI (↑p':Int),iI 0,iI (↑a':Int),iI (↑e:Int)]]),none,none,none,some (Row.gen 62 3 N'.length fun (i:Nat) => neV (N'.getD i dN)),some (Row.lst 35 2 [AV.agg [AV.nils,iI 0]])] F' else k (AV.tup [AV.ptr false 0 0 0,iI 0,iI 0]) [some (Row.lst 35 2 [AV.agg [AV.sl false 5 0 N'.length Cp.no,iI v]]),some (Row.lst 57 5 [AV.agg [AV.str s,iI (↑p':Int),iI 0,iI (↑a':Int),iI (↑e:Int)]]),none,none,none,some (Row.gen 62 3 N'.length fun (i:Nat) => neV (N'.getD i dN))] F'):=by kernel_rfl
inductive Out11 (s:List UInt8) (F:Fz):AV -> Rows -> Fz -> Prop
 | ok (t:Tr) (i:Nat) (N:List NE) (F':Fz) (hr:parse s = .ok t 0) (ht:TrN N t i) (hn:NF F' N) (hu:Up F F') (hl:N.length <= 2000):Out11 s F (.tup [.ptr false 0 0 0,.int .i64 0,.int .i64 0]) [some (trow 1 N.length (i:Nat)),some (arow N)] F'
 | err (a e:Nat) (F':Fz) (hr:parse s = .err a e) (hu:Up F F'):Out11 s F (.tup [.any,.int .i64 (a:Nat),.int .i64 (e:Nat)]) [] F'
theorem out_err {R:RR} {s:List UInt8} {F F':Fz} {p:AV} {h:Rows} {a e:Nat} (hr:parse s = .err a e) (hu:Up F F'):ToV R 0 (.tup [p,.int .i64 (a:Nat),.int .i64 (e:Nat)]) h F' (Out11 s F) :=
 ToV.fitW (vE:=.tup [.any,.int .i64 (a:Nat),.int .i64 (e:Nat)]) (hE:=[]) noView ⟨fun c c' b r r' hc => by simp [Rows.live] at hc,fun c r hc => by simp [Rows.live] at hc⟩ (Vw.tupI (VwL.cons Vw.anyI (VwL.cons Vw.intI (VwL.cons Vw.intI VwL.nil)))) (fun c hc => absurd hc (Nat.not_lt_zero _)) (Nat.le_refl _) (ToV.here (.err a e F' hr hu))
def okF:Nat -> Option Nat:=fun c => bif Nat.beq c 0 then some 0 else some 5
theorem out_ok {R:RR} {s:List UInt8} {F F':Fz} {N:List NE} {t:Tr} {i:Nat} {r1:Row} (hr:parse s = .ok t 0) (ht:TrN N t i) (hn:NF F' N) (hu:Up F F') (hl:N.length <= 2000) :
  ToV R 0 (.tup [.ptr false 0 0 0,.int .i64 0,.int .i64 0]) [some (trow 5 N.length (i:Nat)),some r1,none,none,none,some (arow N)] F' (Out11 s F) :=
 ToV.fitW (vE:=.tup [.ptr false 0 0 0,.int .i64 0,.int .i64 0]) (hE:=[some (trow 1 N.length (i:Nat)),some (arow N)]) okF ⟨fun c c' b q q' hc hc' e e' => by
   match c,c' with
   | 0,0 => rfl
   | 1,1 => rfl
   | 0,1 => cases e; cases e'
   | 1,0 => cases e; cases e'
   | c + 2,_ => simp [Rows.live] at hc
   | 0,c + 2 => simp [Rows.live] at hc'
   | 1,c + 2 => simp [Rows.live] at hc',fun c q hc => by
   match c with
   | 0 => cases hc; exact .inl ⟨0,_,rfl,rfl,trow_v rfl (by simp)⟩
   | 1 => cases hc; exact .inl ⟨5,_,rfl,rfl,(arow_g N).vw _ _⟩
   | c + 2 => simp [Rows.live] at hc⟩ (Vw.tupI (VwL.cons (Vw.ptrI (by simp) rfl) (VwL.cons Vw.intI (VwL.cons Vw.intI VwL.nil)))) (fun c hc => absurd hc (Nat.not_lt_zero _)) (Nat.zero_le _) (ToV.here (.ok t i N F' hr ht hn hu hl))
theorem safe11 (R:RR) (s:List UInt8) (F:Fz):SafeCallX Try.prog R 11 [.str s] [] F (Out11 s F) (fun _ _ _ => False):=by
 refine SafeCallX.post (Q:=fun v h F' => ∃ p a e r1,(parse s = .err a e /\ Up F F' /\ v = .tup [p,.int .i64 (a:Nat),.int .i64 (e:Nat)]) \/ ∃ t i N,parse s = .ok t 0 /\ TrN N t i /\ NF F' N /\ Up F F' /\ N.length <= 2000 /\ v = .tup [.ptr false 0 0 0,.int .i64 0,.int .i64 0] /\ h = [some (trow 5 N.length (i:Nat)),some r1,none,none,none,some (arow N)]) (HP:=fun _ _ _ => False) ?_ ?_ (fun v h' F' _ h => h.elim)
 ·refine SafeCallX.by mixed (env11_ok R s _) (f:=11) (fi:=fi11) (by kernel_rfl) 1000 (vc11 R s _ F) ?_
  refine hcB (fun h1 => ?_) fun h1 => ?_
  ·have h1:s.length > 256:=by have:=of_decide_eq_true h1; omega
   exact ⟨.ptr false 0 0 0,0,2,tree0,.inl ⟨by unfold parse; rw [decide_eq_true h1]; rfl,Up.refl F,rfl⟩⟩
  ·have h1:¬ s.length > 256:=by have:=of_decide_eq_false h1; omega
   have hp:parse s = (pAltD s 17 0).bind fun t a => bif decide (a < s.length) then .err a 3 else .ok t 0:=by unfold parse; rw [decide_eq_false h1]; rfl
   refine ⟨rfl,show s.length <= 256 by omega,?_,?_⟩
   ·intro t a1 hr N' i F' ho
    have hroom:=ho.room
    refine hcB (fun h2 => ?_) fun h2 => ?_
    ·have h2:a1 < s.length:=by have:=of_decide_eq_true h2; omega
     refine ⟨rfl,rfl,rfl,rfl,rfl,.ptr false 6 0 0,a1,3,tree0,.inl ⟨?_,ho.up,rfl⟩⟩
     rw [hp,hr]; show (bif decide (a1 < s.length) then PR.err a1 3 else _) = _; rw [decide_eq_true h2]; rfl
    ·have h2:¬ a1 < s.length:=by have:=of_decide_eq_false h2; omega
     refine ⟨.any,0,0,_,.inr ⟨t,i,N',?_,ho.tr,ho.nf,ho.up,by simp only [List.length_nil] at hroom; omega,rfl,rfl⟩⟩
     rw [hp,hr]; show (bif decide (a1 < s.length) then PR.err a1 3 else _) = _; rw [decide_eq_false h2]; rfl
   ·intro a' e hr p' N' v F' hp' hE
    have hz:=pAltD_nz 17 0 a' e hr
    have e0:((e:Int) == 0) = false:=by rw [beq_eq_false_iff_ne]; omega
    have pe:parse s = .err a' e:=by rw [hp,hr]; rfl
    have e1:((e:Int) != 0) = true:=by rw [bne_iff_ne]; omega
    refine hcF e0 (hcT e1 ⟨rfl,rfl,rfl,rfl,rfl,.ptr false 6 0 0,a',e,tree0,.inl ⟨pe,hE.up,rfl⟩⟩)
 ·rintro v h' F' _ ⟨p,a,e,r1,⟨hr,hu,rfl⟩ | ⟨t,i,N,hr,ht,hn,hu,hl,rfl,rfl⟩⟩
  ·exact out_err hr hu
  ·exact out_ok hr ht hn hu hl
structure TrA (N:List NE) (t:Tr) (i:Nat):Prop where
 is:TrN N t i
def spec11:CallSpecX:=fun args h k => match args with
 | [.str s] => fun F => (∀ t,parse s = .ok t 0 -> ∀ N i F',TrA N t i -> NF F' N -> Up F F' -> N.length <= 2000 -> k (.tup [.ptr false h.length 0 0,.int .i64 0,.int .i64 0]) (h ++ [some (trow (h.length + 1) N.length (i:Nat)),some (arow N)]) F') /\
   (∀ a e,parse s = .err a e -> ∀ F',Up F F' -> k (.tup [.any,.int .i64 (a:Nat),.int .i64 (e:Nat)]) h F')
 | _ => botX
theorem spec11_ok (R:RR) (HP:HPt):∀ args h k F,spec11 args h k F -> SafeCallX Try.prog R 11 args h F k HP:=by
 intro args h k F hk
 unfold spec11 at hk
 split at hk
 ·rename_i s
  obtain ⟨hok,herr⟩:=hk
  have hV:View noView [] h:=⟨fun c b hc => absurd hc (Nat.not_lt_zero _),fun c c' b hc => absurd hc (Nat.not_lt_zero _),fun c r hc => by simp [Rows.live] at hc⟩
  refine (SafeCallX.focus hV (argsL:=[.str s]) (VwL.cons Vw.strI VwL.nil) (safe11 R s F)).mono ?_ ?_
  ·rintro v h' F' _ ⟨v0,h1,ho,rfl,rfl⟩
   show k (ren (ext noView 0 h.length) v0) (merged noView 0 0 h h1) F'
   rw [merged_nil,ext_nil]
   cases ho with
   | ok t i N _ hr ht hn hu hl => exact hok t hr N i F' ⟨ht⟩ hn hu hl
   | err a e _ hr hu =>
    have:=herr a e hr F' hu
    show k _ (h ++ []) F'
    rw [List.append_nil]; exact this
  ·rintro v h' F' _ ⟨_,_,h,_⟩; exact h.elim
 ·exact hk.elim
theorem TrNs.get {N:List NE}:∀ (l:List (Tr × Nat)) (is:List Nat),TrNs N (l.map Prod.fst) is -> ∀ j,j < l.length -> TrN N (l.getD j dT).1 (is.getD j 0)
 | [],_,_,j,hj => by cases hj
 | p :: l,[],h,j,hj => by simp only [List.map_cons,TrNs] at h
 | p :: l,i :: is,h,0,hj => by simp only [List.map_cons,TrNs] at h; exact h.1
 | p :: l,i :: is,h,j + 1,hj => by
  simp only [List.map_cons,TrNs] at h
  exact TrNs.get l is h.2 j (Nat.lt_of_succ_lt_succ hj)
structure Free6 (R:RR):Prop where
 f:Free R
 n:(R 6).n = 0
 q:Quits R 6
noncomputable abbrev R12 (R:RR) (l:List (Tr × Nat)) (is:List Nat):RR:=updR (updR R 5 (kidR l)) 6 (kidN is)
def spec12k (l:List (Tr × Nat)) (is:List Nat) (N:List NE):CallSpecX:=fun args h k => match args with
 | [a,.ptr false 0 0 0,.int .i64 i] => fun F => ∃ (j:Nat) (root:Int),j < l.length /\ a = exprV (l.getD j dT).1 (l.getD j dT).2 /\ i = (is.getD j 0:Nat) /\ TAts F l /\ NF F N /\ h.live 0 = some (trow 1 N.length root) /\ h.live 1 = some (arow N) /\ ∀ F',Up F F' -> k (.bool true) (h ++ [none,none]) F'
 | _ => botX
noncomputable abbrev env12 (R:RR) (l:List (Tr × Nat)) (is:List Nat) (N:List NE):EnvX:=(bx (R12 R l is)).addCall 12 (spec12k l is N)
noncomputable abbrev tm12 (j:Int):List AV:=[.any,.ptr false 0 0 0,.any,.ptr false 2 0 0,.any,.any,.any,.ptr false 3 0 0,.int .i64 j,.any,.any,.any,.any,.any,.any,.any,.any,.any,.any,.any,.any,.any,.any,.any,.any,.any,.any,.any,.any,.any,.any,.any,.any,.any,.any,.any,.any,.any,.any,.any,.any,.any,.any,.any,.any,.any,.any,.any,.any,.any,.any,.any,.any,.any,.any,.any,.any]
noncomputable abbrev tm12s:List AV:=[.any,.ptr false 0 0 0,.any,.ptr false 2 0 0,.any,.any,.any,.ptr false 3 0 0,.any,.any,.any,.any,.any,.any,.any,.any,.any,.any,.any,.any,.any,.any,.any,.any,.any,.any,.any,.any,.any,.any,.any,.any,.any,.any,.any,.any,.any,.any,.any,.any,.any,.any,.any,.any,.any,.any,.any,.any,.any,.any,.any,.any,.any,.any,.any,.any,.any]
noncomputable abbrev st12 (kd:Int) (w:List UInt8) (n:Nat) (root:Int) (N:List NE):St:=⟨tm12s,[some (trow 1 N.length root),some (arow N),some (.lst 25 3 [.agg [.int .i64 kd,.str w,.sl true 5 0 n .no]]),some (.lst 62 3 [.agg [.int .i64 kd,.str w,.sl true 6 0 n .no]])]⟩
noncomputable abbrev fam12 (kd:Int) (w:List UInt8) (n:Nat) (root:Int) (N:List NE) (j:Int):St:=⟨tm12 j,[some (trow 1 N.length root),some (arow N),some (.lst 25 3 [.agg [.int .i64 kd,.str w,.sl true 5 0 n .no]]),some (.lst 62 3 [.agg [.int .i64 kd,.str w,.sl true 6 0 n .no]])]⟩
def lp12 (kd:Int) (w:List UInt8) (l:List (Tr × Nat)) (root:Int) (N:List NE):LoopSpX:=fun st k F => st.tmps.length = 57 /\ nthV st.tmps 1 = .ptr false 0 0 0 /\ nthV st.tmps 3 = .ptr false 2 0 0 /\ nthV st.tmps 7 = .ptr false 3 0 0 /\ nthV st.tmps 8 = .int .i64 0 /\
 st.rows = (st12 kd w l.length root N).rows /\ TAts F l /\ NF F N /\ ∀ F',Up F F' -> k .normal (fam12 kd w l.length root N (l.length:Nat)) F'
end Go.Dc.Ke
end
