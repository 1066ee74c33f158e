/- Expressions: the parser's rows, its leaves. -/
import Derived.Test.YtfajmjhijanggaaEnv
import Derived.Test.YtfajmjhijanggaaDcXe
import Derived.Shelf.Small.Strs
set_option linter.unusedVariables false
set_option linter.unusedSimpArgs false
section
namespace Go.Dc.Ke
open Go.Proofs Go.RowKit
set_option maxRecDepth 100000
abbrev RR := Nat -> RoRow
abbrev iI (x : Int) : AV := AV.int IntKind.i64 x
theorem mixed:Try.prog.follows .mixedOrders = true:=by kernel_rfl
abbrev prow (s:List UInt8) (a n:Int):Row:=.lst 52 3 [.agg [.str s,.int .i64 a,.int .i64 n]]
theorem prow_g (s:List UInt8) (a n:Int):RowG (prow s a n):=.lst1' rfl rfl
def atP {α:Type} (bot:α) (h:Rows) (b:Nat) (φ:List UInt8 -> Int -> Int -> α):α :=
 match h.live b with
 | some (.lst 52 3 [.agg [.str s,.int .i64 i,.int .i64 j]]) => φ s i j
 | _ => bot
theorem atP_or {α:Type} (bot:α) (h:Rows) (b:Nat) (φ:List UInt8 -> Int -> Int -> α):atP bot h b φ = bot \/ ∃ s i j,h.live b = some (prow s i j) /\ atP bot h b φ = φ s i j:=by
 unfold atP
 split
 ·rename_i s i j e; exact .inr ⟨s,i,j,e,rfl⟩
 ·exact .inl rfl
theorem atP_of {h:Rows} {b:Nat} {φ:List UInt8 -> Int -> Int -> Prop} (hh:atP False h b φ):∃ s i j,h.live b = some (prow s i j) /\ φ s i j:=by
 rcases atP_or False h b φ with e | ⟨s,i,j,e1,e2⟩
 ·rw [e] at hh; exact hh.elim
 ·rw [e2] at hh; exact ⟨s,i,j,e1,hh⟩
abbrev botX:Fz -> Prop:=fun _ => False
theorem atP_ofX {h:Rows} {b:Nat} {F:Fz} {φ:List UInt8 -> Int -> Int -> Fz -> Prop} (hh:atP botX h b φ F):∃ s i j,h.live b = some (prow s i j) /\ φ s i j F:=by
 rcases atP_or botX h b φ with e | ⟨s,i,j,e1,e2⟩
 ·rw [e] at hh; exact hh.elim
 ·rw [e2] at hh; exact ⟨s,i,j,e1,hh⟩
theorem vw1 (b:Nat):VwL (oneV b) 1 [.ptr false 0 0 0] [.ptr false b 0 0]:=VwL.cons (Vw.ptrI (by decide) rfl) VwL.nil
def hbI (s:List UInt8) (i:Int):Int:=((s.getD i.toNat 0).toNat:Nat)
theorem hbI_nn (s:List UInt8) (i:Int):0 <= hbI s i /\ hbI s i <= 255:=by
 unfold hbI
 have:=(s.getD i.toNat 0).toNat_lt
 omega
theorem hbI_end {s:List UInt8} {i:Int} (h:(s.length:Int) <= i):hbI s i = 0:=by
 unfold hbI
 rw [List.getD_eq_getElem?_getD,List.getElem?_eq_none (by omega)]
 rfl
theorem vc37 (R:RR) (s:List UInt8) (a n:Int) (Q:AV -> Rows -> Prop):vcd (base R) 1000 37 fi37 [.ptr false 0 0 0] [some (prow s a n)] Q =
  (bif decide (a ≥ (s.length:Int)) then Q (.int .u8 0) [some (prow s a n)] else bif decide (0 <= a) && decide (a < (s.length:Int)) then Q (.int .u8 (hbI s a)) [some (prow s a n)] else False):=by kernel_rfl
theorem safe37 (R:RR) (s:List UInt8) (a n:Int) (ha:0 <= a):SafeCall Try.prog R 37 [.ptr false 0 0 0] [some (prow s a n)] fun v h => v = .int .u8 (hbI s a) /\ h = [some (prow s a n)]:=by
 refine SafeCall.by mixed (base_ok R) (f:=37) (fi:=fi37) (by kernel_rfl) 1000 (vc37 R s a n _) (hcB (fun h => ?_) fun h => hcT (by simp at h ⊢; omega) ⟨rfl,rfl⟩)
 have h:=of_decide_eq_true h
 exact ⟨by rw [hbI_end h],rfl⟩
def spec37:CallSpec:=fun args h k => match args with
 | [.ptr false b 0 0] => atP False h b fun s i j => 0 <= i /\ k (.int .u8 (hbI s i)) h
 | _ => False
theorem spec37_ok (R:RR):∀ args h k,spec37 args h k -> SafeCall Try.prog R 37 args h k:=by
 intro args h k hk
 unfold spec37 at hk
 split at hk
 ·rename_i b
  obtain ⟨s,i,j,hb,h0,hk⟩:=atP_of hk
  refine (SafeCall.at1 (Q:=fun v r' => v = .int .u8 (hbI s i) /\ r' = prow s i j) hb (prow_g s i j) (vw1 b) ((safe37 R s i j h0).mono ?_)).mono ?_
  ·rintro v h' ⟨rfl,rfl⟩
   exact ⟨_,_,rfl,rfl,prow_g s i j,rfl,rfl⟩
  ·rintro v h' ⟨r',rfl,rfl,rfl⟩
   rw [live_set_self hb]; exact hk
 ·exact hk.elim
def wordly (c:Int):Bool:=(decide (97 <= c) && decide (c <= 122)) || (decide (48 <= c) && decide (c <= 57)) || c == 45
def begins (c:Int):Bool:=wordly c || c == 64 || c == 35 || c == 40
def wordlyC (c:Int) (Q:Bool -> Prop):Prop:=bif decide (c ≥ 97) then (bif decide (c <= 122) then Q true else bif decide (c ≥ 48) then (bif decide (c <= 57) then Q true else Q (c == 45)) else Q (c == 45)) else bif decide (c ≥ 48) then (bif decide (c <= 57) then Q true else Q (c == 45)) else Q (c == 45)
theorem wordlyC_of {c:Int} {Q:Bool -> Prop} (h:Q (wordly c)):wordlyC c Q:=by
 unfold wordlyC wordly at *
 simp only [ge_iff_le]
 generalize decide (97 <= c) = b1 at *
 generalize decide (c <= 122) = b2 at *
 generalize decide (48 <= c) = b3 at *
 generalize decide (c <= 57) = b4 at *
 cases b1 <;> cases b2 <;> cases b3 <;> cases b4 <;> simpa using h
theorem vc54 (R:RR) (c:Int) (Q:AV -> Rows -> Prop):vcd (base R) 1000 54 fi54 [.int .u8 c] [] Q = wordlyC c fun b => Q (.bool b) []:=by kernel_rfl
theorem safe54 (R:RR) (c:Int):SafeCall Try.prog R 54 [.int .u8 c] [] fun v _ => v = .bool (wordly c) :=
 SafeCall.by mixed (base_ok R) (f:=54) (fi:=fi54) (by kernel_rfl) 1000 (vc54 R c _) (wordlyC_of rfl)
def spec54:CallSpec:=fun args h k => match args with
 | [.int .u8 c] => k (.bool (wordly c)) h
 | _ => False
theorem spec54_ok (R:RR):∀ args h k,spec54 args h k -> SafeCall Try.prog R 54 args h k:=by
 intro args h k hk
 unfold spec54 at hk
 split at hk
 ·rename_i c
  refine ((safe54 R c).alone rfl (by rintro v rfl; rfl) h).mono ?_
  rintro v h' ⟨rfl,rfl⟩; exact hk
 ·exact hk.elim
noncomputable abbrev env48 (R:RR):Env Prop:=(base R).addCall 54 spec54
theorem env48_ok (R:RR):EnvOK Try.prog (env48 R) id:=(base_ok R).addCall (f:=54) (fi:=fi54) (by kernel_rfl) (spec54_ok R)
theorem vc48 (R:RR) (c:Int) (Q:AV -> Rows -> Prop):vcd (env48 R) 1000 48 fi48 [.int .u8 c] [] Q =
  (bif wordly c then Q (.bool true) [] else bif c == 64 then Q (.bool true) [] else bif c == 35 then Q (.bool true) [] else Q (.bool (c == 40)) []):=by kernel_rfl
theorem safe48 (R:RR) (c:Int):SafeCall Try.prog R 48 [.int .u8 c] [] fun v _ => v = .bool (begins c):=by
 refine SafeCall.by mixed (env48_ok R) (f:=48) (fi:=fi48) (by kernel_rfl) 1000 (vc48 R c _) ?_
 unfold begins
 cases wordly c <;> by_cases h1:c = 64 <;> by_cases h2:c = 35 <;> simp_all
def spec48:CallSpec:=fun args h k => match args with
 | [.int .u8 c] => k (.bool (begins c)) h
 | _ => False
theorem spec48_ok (R:RR):∀ args h k,spec48 args h k -> SafeCall Try.prog R 48 args h k:=by
 intro args h k hk
 unfold spec48 at hk
 split at hk
 ·rename_i c
  refine ((safe48 R c).alone rfl (by rintro v rfl; rfl) h).mono ?_
  rintro v h' ⟨rfl,rfl⟩; exact hk
 ·exact hk.elim
def scan (p:Int -> Bool) (s:List UInt8) (a:Nat):Nat:=a + ((s.drop a).takeWhile fun c => p (c.toNat:Nat)).length
theorem scan_step {p:Int -> Bool} {s:List UInt8} {a:Nat} (ha:a < s.length) (h:p (hbI s a) = true):scan p s (a + 1) = scan p s a:=by
 unfold scan
 have e:s.drop a = s[a] :: s.drop (a + 1):=List.drop_eq_getElem_cons ha
 rw [e]
 have h2:hbI s a = ((s[a].toNat:Nat):Int):=by simp [hbI,List.getD,List.getElem?_eq_getElem ha]
 rw [h2] at h
 rw [List.takeWhile_cons,if_pos h]
 simp; omega
theorem scan_stop {p:Int -> Bool} {s:List UInt8} {a:Nat} (h:p (hbI s a) = false):scan p s a = a:=by
 unfold scan
 by_cases ha:a < s.length
 ·have e:s.drop a = s[a] :: s.drop (a + 1):=List.drop_eq_getElem_cons ha
  rw [e]
  have h2:hbI s a = ((s[a].toNat:Nat):Int):=by simp [hbI,List.getD,List.getElem?_eq_getElem ha]
  rw [h2] at h
  rw [List.takeWhile_cons,if_neg (by rw [h]; simp)]
  rfl
 ·rw [List.drop_eq_nil_of_le (by omega)]; rfl
theorem scan_ge (p:Int -> Bool) (s:List UInt8) (a:Nat):a <= scan p s a:=by unfold scan; omega
theorem scan_le {p:Int -> Bool} {s:List UInt8} {a:Nat} (h:a <= s.length):scan p s a <= s.length:=by
 unfold scan
 have:=(List.takeWhile_sublist (l:=s.drop a) fun c => p (c.toNat:Nat)).length_le
 rw [List.length_drop] at this
 omega
theorem hbI_lt {p:Int -> Bool} (h0:p 0 = false) {s:List UInt8} {a:Nat} (h:p (hbI s a) = true):a < s.length:=by
 rcases Nat.lt_or_ge a s.length with h1 | h1
 ·exact h1
 ·rw [hbI_end (by omega)] at h; rw [h0] at h; cases h
noncomputable abbrev envL (R:RR):Env Prop:=((base R).addCall 37 spec37).addCall 54 spec54 |>.addCall 48 spec48
theorem envL_ok (R:RR):EnvOK Try.prog (envL R) id:=(((base_ok R).addCall (f:=37) (fi:=fi37) (by kernel_rfl) (spec37_ok R)).addCall (f:=54) (fi:=fi54) (by kernel_rfl) (spec54_ok R)).addCall (f:=48) (fi:=fi48) (by kernel_rfl) (spec48_ok R)
noncomputable abbrev fam46 (s:List UInt8) (n:Int) (i:Nat):St:=⟨[.ptr false 0 0 0,.any,.any,.any,.any,.any,.any,.any,.any,.any,.any,.any],[some (prow s i n)]⟩
theorem vr46 (R:RR) (s:List UInt8) (n:Int) (i:Nat) (k:Exit -> St -> Prop):rnd (envL R) 1000 46 (loopOf fi46 0) (fam46 s n i) k = (((↑i:Int) - 0).NonNeg /\ bif hbI s (↑i:Int) == 32 then k Exit.normal (St.mk [AV.ptr false 0 0 0,AV.any,AV.ptr false 0 0 0,AV.int IntKind.u8 (hbI s (↑i:Int)),AV.bool true,AV.ptr false 0 0 0,AV.ptr false 0 0 0,AV.ptr false 0 0 1,iI (↑i:Int),iI (IntKind.i64.wrap ((↑i:Int) + 1)),AV.ptr false 0 0 0,AV.ptr false 0 0 1] [some (Row.lst 52 3 [AV.agg [AV.str s,iI (IntKind.i64.wrap ((↑i:Int) + 1)),iI n]])]) else k (Exit.exit 0) (St.mk [AV.ptr false 0 0 0,AV.any,AV.ptr false 0 0 0,AV.int IntKind.u8 (hbI s (↑i:Int)),AV.bool false,AV.any,AV.any,AV.any,AV.any,AV.any,AV.any,AV.any] [some (Row.lst 52 3 [AV.agg [AV.str s,iI (↑i:Int),iI n]])])):=by kernel_rfl
noncomputable abbrev ini46 (s:List UInt8) (n:Int) (i:Nat):St:=⟨[.ptr false 0 0 0,.undef,.undef,.undef,.undef,.undef,.undef,.undef,.undef,.undef,.undef,.undef],[some (prow s i n)]⟩
def isB (c:Int):Bool:=c == 32
theorem loop46 (R:RR) (s:List UInt8) (n:Int) (a:Nat) (ha:a <= s.length) (hs:s.length <= 100000) :
  Safe Try.prog R (.block 0 (.loop (loopOf fi46 0))) (ini46 s n a) fun e st => e = .normal /\ st = fam46 s n (scan isB s a):=by
 refine (loop_block (I:={i:Nat // i <= s.length /\ scan isB s i = scan isB s a}) (fam:=fun i => fam46 s n i.1) (fun i => s.length - i.1) (X:=fun e st => e = .exit 0 /\ st = fam46 s n (scan isB s a)) (i0:=⟨a,ha,rfl⟩) (f:=some) ?_ ?_ ?_ ?_).mono ?_
 ·exact ⟨View.preX (L:=[some (prow s a n)]) (tl:=[]) (fun c q h => by rw [live1 h]; exact (prow_g _ _ _).vw _ _),by (repeat' (first | with_reducible exact VwL.nil | with_reducible refine VwL.cons ?_ ?_ | with_reducible exact Vw.anyI | with_reducible exact Vw.strI | with_reducible exact Vw.boolI | with_reducible exact Vw.intI | with_reducible exact Vw.nilsI | exact Vw.ptrI (by simp) rfl | exact Vw.slI (by simp) rfl | with_reducible refine Vw.aggI ?_ | exact Vw.gndI rfl))⟩
 ·intro c _; rfl
 ·intro i; exact Nat.le_refl _
 ·rintro ⟨i,hi,he⟩
  refine Safe.by mixed (envL_ok R) (f:=46) (fi:=fi46) (i:=0) (by kernel_rfl) (b:=.loop (loopOf fi46 0)) (by kernel_rfl) (subs_loop _) 1000 (vr46 R s n i _) ?_
  refine ⟨show (0:Int) <= (i:Int) by omega,hcB (fun h => ?_) fun h => ?_⟩
  ·have hlt:i < s.length:=hbI_lt (p:=isB) (by decide) h
   refine ⟨⟨i + 1,hlt,(scan_step hlt h).trans he⟩,by show s.length - (i + 1) < s.length - i; omega,?_⟩
   rw [wrapSucc i (by omega)]
   exact Fit.row1 (prow_g _ _ _) (by (repeat' (first | with_reducible exact VwL.nil | with_reducible refine VwL.cons ?_ ?_ | with_reducible exact Vw.anyI | with_reducible exact Vw.strI | with_reducible exact Vw.boolI | with_reducible exact Vw.intI | with_reducible exact Vw.nilsI | exact Vw.ptrI (by simp) rfl | exact Vw.slI (by simp) rfl | with_reducible refine Vw.aggI ?_ | exact Vw.gndI rfl)))
  ·refine ⟨fam46 s n i,Fit.row1 (prow_g _ _ _) (by (repeat' (first | with_reducible exact VwL.nil | with_reducible refine VwL.cons ?_ ?_ | with_reducible exact Vw.anyI | with_reducible exact Vw.strI | with_reducible exact Vw.boolI | with_reducible exact Vw.intI | with_reducible exact Vw.nilsI | exact Vw.ptrI (by simp) rfl | exact Vw.slI (by simp) rfl | with_reducible refine Vw.aggI ?_ | exact Vw.gndI rfl))),rfl,?_⟩
   rw [<- he,scan_stop h]
 ·rintro e st ⟨e0,rfl,rfl,rfl⟩
  exact ⟨rfl,rfl⟩
def lp46 (s:List UInt8) (n:Int) (a:Nat):LoopSp:=fun st k => st = ini46 s n a /\ k .normal (fam46 s n (scan isB s a))
noncomputable abbrev env46 (R:RR) (s:List UInt8) (n:Int) (a:Nat):Env Prop:=(base R).addLoop 46 0 (lp46 s n a)
theorem env46_ok (R:RR) (s:List UInt8) (n:Int) (a:Nat) (ha:a <= s.length) (hs:s.length <= 100000):EnvOK Try.prog (env46 R s n a) id:=(base_ok R).addLoop (f:=46) (fi:=fi46) (by kernel_rfl) (i:=0) (body:=.loop (loopOf fi46 0)) (by kernel_rfl) (by
 rintro st k ⟨rfl,hk⟩
 refine (loop46 R s n a ha hs).mono ?_
 rintro e st ⟨rfl,rfl⟩; exact hk)
theorem vc46 (R:RR) (s:List UInt8) (n:Int) (i:Nat) (k:AV -> Rows -> Prop):vcd (env46 R s n i) 1000 46 fi46 [.ptr false 0 0 0] [some (prow s i n)] k =
  (ini46 s n i = ini46 s n i /\ k (.tup []) [some (prow s (scan isB s i:Nat) n)]):=by kernel_rfl
def spec46:CallSpec:=fun args h k => match args with
 | [.ptr false b 0 0] => atP False h b fun s i j => ∃ a:Nat,i = a /\ a <= s.length /\ s.length <= 100000 /\ k (.tup []) (h.set b (some (prow s (scan isB s a:Nat) j)))
 | _ => False
theorem spec46_ok (R:RR):∀ args h k,spec46 args h k -> SafeCall Try.prog R 46 args h k:=by
 intro args h k hk
 unfold spec46 at hk
 split at hk
 ·rename_i b
  obtain ⟨s,i,j,hb,a,rfl,ha,hs,hk⟩:=atP_of hk
  refine (SafeCall.at1 (Q:=fun v r' => v = .tup [] /\ r' = prow s (scan isB s a:Nat) j) hb (prow_g s a j) (vw1 b) (SafeCall.by mixed (env46_ok R s j a ha hs) (f:=46) (fi:=fi46) (by kernel_rfl) 1000 (vc46 R s j a _) ⟨rfl,_,_,rfl,rfl,prow_g _ _ _,rfl,rfl⟩)).mono ?_
  rintro v h' ⟨r',rfl,rfl,rfl⟩
  exact hk
 ·exact hk.elim
abbrev fault (a c:Int):AV:=.ifc 48 (.agg [.int .i64 a,.int .i64 c])
abbrev HPt:=AV -> Rows -> Fz -> Prop
noncomputable def ops22:Array Oper:=match fi22.body with | .region _ ops _ => ops | _ => #[]
noncomputable def o22 : Oper := (ops22.toList.drop 7).headD ⟨none, .panic (.tmp 0), 0, "", #[], none⟩
theorem body22:fi22.body = .region 0 ops22 false:=by kernel_rfl
theorem list22:ops22.toList = ops22.toList.take 7 ++ [o22]:=by kernel_rfl
theorem op22:o22.op = .panic (.tmp 10):=by kernel_rfl
theorem guard22:o22.guard = none:=by kernel_rfl
theorem run22 (R:RR) (s:List UInt8) (a n c:Int) (HP:HPt) (F:Fz):runOpsB ansX (bx R) (fun _ _ _ _ _ => False) ops22.toList (ops22.toList.take 7) ⟨enterT [.ptr false 0 0 0,.int .i64 c] fi22.ntmps,[some (prow s a n)]⟩ (fun st' F' => HP (st'.ev (.tmp 10)) st'.rows F' /\ ∃ t y,st'.ev (.tmp 10) = .ifc t y) F =
  (HP (fault a c) [some (prow s a n)] F /\ ∃ t y,fault a c = .ifc t y):=by kernel_rfl
theorem safe22 (R:RR) (s:List UInt8) (a n c:Int) (HP:HPt) (F:Fz) (Q:AV -> Rows -> Fz -> Prop) (h:HP (fault a c) [some (prow s a n)] F):SafeCallX Try.prog R 22 [.ptr false 0 0 0,.int .i64 c] [some (prow s a n)] F Q HP:=by
 refine SafeCallX.of_body tl_ok fi22_ok ?_
 rw [body22]
 exact SafeX.panicEnd (E:=bx R) tl_ok list22 op22 guard22 (run22 R s a n c HP F ▸ ⟨h,_,_,rfl⟩)
theorem vw2 (b:Nat) (x:AV) (h:gnd x = true):VwL (oneV b) 1 [.ptr false 0 0 0,x] [.ptr false b 0 0,x]:=VwL.cons (Vw.ptrI (by decide) rfl) (VwL.cons (Vw.gndI h) VwL.nil)
def spec22 (HP:HPt):CallSpecX:=fun args h k => match args with
 | [.ptr false b 0 0,.int .i64 c] => atP botX h b fun s i j => HP (fault i c) h
 | _ => botX
theorem spec22_ok (R:RR) (HP:HPt):∀ args h k F,spec22 HP args h k F -> SafeCallX Try.prog R 22 args h F k HP:=by
 intro args h k F hk
 unfold spec22 at hk
 split at hk
 ·rename_i b c
  obtain ⟨s,i,j,hb,hk⟩:=atP_ofX hk
  refine (SafeCallX.at1 (Q:=fun _ _ _ => False) (HP:=fun v r' F' => HP v (h.set b (some r')) F') hb (prow_g s i j) (vw2 b _ rfl) (safe22 R s i j c _ F _ ⟨_,_,rfl,rfl,prow_g _ _ _,?_⟩)).mono ?_ ?_
  ·show HP (fault i c) (h.set b (some (prow s i j))) F
   rw [live_set_self hb]; exact hk
  ·rintro v h' F' _ ⟨r',rfl,h⟩; exact h.elim
  ·rintro v h' F' _ ⟨r',rfl,h⟩; exact h
 ·exact hk.elim
noncomputable abbrev envW (R:RR) (HP:HPt):EnvX:=(((((bx R).addCall 37 (liftC spec37)).addCall 54 (liftC spec54)).addCall 48 (liftC spec48)).addCall 46 (liftC spec46)).addCall 22 (spec22 HP)
theorem envW_ok (R:RR) (HP:HPt) (ds:List Deferred):OKX Try.prog (envW R HP) ds HP :=
 (((((bx_ok R ds HP).addCall (f:=37) (fi:=fi37) (by kernel_rfl) (liftC_ok (spec37_ok R))).addCall (f:=54) (fi:=fi54) (by kernel_rfl) (liftC_ok (spec54_ok R))).addCall (f:=48) (fi:=fi48) (by kernel_rfl) (liftC_ok (spec48_ok R))).addCall (f:=46) (fi:=fi46) (by kernel_rfl) (liftC_ok (spec46_ok R))).addCall (f:=22) (fi:=fi22) (by kernel_rfl) (spec22_ok R HP)
noncomputable abbrev fam57 (s:List UInt8) (n:Int) (a i:Nat):St:=⟨[.ptr false 0 0 0,.any,.any,.int .i64 (a:Nat),.any,.any,.any,.any,.any,.any,.any,.any,.any,.any,.any,.any,.any,.any,.any,.any,.any,.any,.any,.any,.any,.any,.any,.any,.any,.any,.any,.any,.any,.any,.any,.any],[some (prow s i n)]⟩
end Go.Dc.Ke
end
section
namespace Go.Dc.Ke
inductive Tr where
 | mk (kind:Nat) (word:List UInt8) (kids:List Tr)
def Tr.kind:Tr -> Nat | .mk k _ _ => k
def Tr.word:Tr -> List UInt8 | .mk _ w _ => w
def Tr.kids:Tr -> List Tr | .mk _ _ l => l
inductive PR where
 | ok (t:Tr) (a:Nat)
 | err (a c:Nat)
def PR.bind (r:PR) (k:Tr -> Nat -> PR):PR:=match r with | .ok t a => k t a | .err a c => .err a c
def sub (s:List UInt8) (a e:Nat):List UInt8:=(s.drop a).take (e - a)
def exN (s:List UInt8):List UInt8 -> Nat -> Bool × Nat
 | [],a => (true,a)
 | c :: w,a => bif hbI s a == (c.toNat:Nat) then exN s w (a + 1) else (false,a)
def rowT (kd:Nat):List Tr -> Tr
 | [t] => t
 | l => .mk kd [] l
def blk (s:List UInt8) (a:Nat):Nat:=scan isB s a
def txtW:List UInt8:=[35,116,101,120,116]
section
variable (s:List UInt8) (n:Nat) (alt:Nat -> PR)
def pWord (kd:Nat) (a:Nat):PR:=bif Nat.beq (scan wordly s a) a then .err a 3 else .ok (.mk kd (sub s a (scan wordly s a)) []) (scan wordly s a)
def pBr (a:Nat):PR:=bif Nat.beq n 16 then .err a 5 else
 bif hbI s (blk s (a + 1)) == 41 then .ok (.mk 0 [] []) (blk s (a + 1) + 1) else (alt (blk s (a + 1))).bind fun t a1 => bif hbI s a1 == 41 then .ok t (a1 + 1) else .err a1 3
def pAtom (a:Nat):PR:=bif hbI s a == 64 then pWord s 2 (a + 1) else bif hbI s a == 35 then (bif (exN s txtW a).1 then .ok (.mk 3 [] []) (exN s txtW a).2 else .err (exN s txtW a).2 3) else bif hbI s a == 40 then pBr s n alt a else pWord s 1 a
def markOf (c:Int):Option Nat:=bif c == 42 then some 0 else bif c == 43 then some 1 else bif c == 63 then some 2 else none
def pMarks:Nat -> Tr -> Nat -> Tr × Nat
 | 0,t,a => (t,a)
 | f + 1,t,a => match markOf (hbI s a) with | some k => pMarks f (.mk (7 + k) [] [t]) (blk s (a + 1)) | none => (t,a)
def pItem (a:Nat):PR:=(pAtom s n alt a).bind fun t a1 => .ok (pMarks s (s.length + 1) t (blk s a1)).1 (pMarks s (s.length + 1) t (blk s a1)).2
def pSeqs:Nat -> List Tr -> Nat -> PR
 | 0,l,a => .ok (rowT 4 l) a
 | f + 1,l,a => bif begins (hbI s a) then (pItem s n alt a).bind fun t a1 => pSeqs f (l ++ [t]) a1 else .ok (rowT 4 l) a
def pSeq (a:Nat):PR:=(pItem s n alt (blk s a)).bind fun t a1 => pSeqs s n alt (s.length + 1) [t] a1
end
section
variable (s:List UInt8) (sg:Int) (kd:Nat) (part:Nat -> PR)
def pJoins:Nat -> List Tr -> Nat -> PR
 | 0,l,a => .ok (rowT kd l) a
 | f + 1,l,a => bif hbI s a == sg then (part (a + 1)).bind fun t a1 => pJoins f (l ++ [t]) a1 else .ok (rowT kd l) a
def pJoin (a:Nat):PR:=(part a).bind fun t a1 => pJoins s sg kd part (s.length + 1) [t] a1
end
def pAll (s:List UInt8) (n:Nat) (alt:Nat -> PR):Nat -> PR:=pJoin s 38 6 (pSeq s n alt)
def pAlt (s:List UInt8) (n:Nat) (alt:Nat -> PR):Nat -> PR:=pJoin s 124 5 (pAll s n alt)
def pAltD (s:List UInt8):Nat -> Nat -> PR
 | 0 => fun a => .err a 5
 | d + 1 => pAlt s (16 - d) (pAltD s d)
def parse (s:List UInt8):PR:=bif decide (s.length > 256) then .err 0 2 else (pAltD s 17 0).bind fun t a => bif decide (a < s.length) then .err a 3 else .ok t 0
def Goes (s:List UInt8) (r:Nat -> PR):Prop:=∀ a,a <= s.length -> ∀ t a1,r a = .ok t a1 -> a <= a1 /\ a1 <= s.length
theorem PR.bind_ok {r:PR} {k:Tr -> Nat -> PR} {t:Tr} {a:Nat} (h:r.bind k = .ok t a):∃ t1 a1,r = .ok t1 a1 /\ k t1 a1 = .ok t a:=by
 cases r with
 | ok t1 a1 => exact ⟨t1,a1,rfl,h⟩
 | err a1 c => cases h
section
variable {s:List UInt8} {n:Nat} {alt:Nat -> PR}
theorem blk_ge (a:Nat):a <= blk s a:=scan_ge _ _ _
theorem blk_le {a:Nat} (h:a <= s.length):blk s a <= s.length:=scan_le h
theorem hb_lt {a:Nat} {c:Int} (h:(hbI s a == c) = true) (hc:c ≠ 0):a < s.length:=by
 rcases Nat.lt_or_ge a s.length with h1 | h1
 ·exact h1
 ·rw [hbI_end (by omega)] at h
  have:=eq_of_beq h
  exact absurd this.symm hc
theorem pWord_goes {kd a:Nat} (ha:a <= s.length) {t:Tr} {a1:Nat} (h:pWord s kd a = .ok t a1):a < a1 /\ a1 <= s.length:=by
 unfold pWord at h
 cases hb:Nat.beq (scan wordly s a) a with
 | true => rw [hb] at h; cases h
 | false =>
  rw [hb] at h
  cases h
  have h1:=scan_ge wordly s a
  have h2:scan wordly s a ≠ a:=fun e => by rw [e,Nat.beq_refl] at hb; cases hb
  have h3:=scan_le (p:=wordly) ha
  exact ⟨by omega,h3⟩
theorem exN_ok:∀ (w:List UInt8) (a:Nat),a <= s.length -> (∀ c ∈ w,(c.toNat:Int) ≠ 0) -> (exN s w a).1 = true -> (exN s w a).2 = a + w.length /\ a + w.length <= s.length
 | [],a,ha,_,_ => ⟨rfl,ha⟩
 | c :: w,a,ha,hw,h => by
  unfold exN at h ⊢
  cases hb:hbI s a == ((c.toNat:Nat):Int) with
  | false => rw [hb] at h; cases h
  | true =>
   rw [hb] at h
   simp only [cond_true] at h ⊢
   have:=exN_ok w (a + 1) (hb_lt hb (hw c (by simp))) (fun d hd => hw d (by simp [hd])) h
   simp only [List.length_cons]
   omega
theorem pBr_goes (hA:Goes s alt) {a:Nat} (ha:a < s.length) {t:Tr} {a1:Nat} (h:pBr s n alt a = .ok t a1):a < a1 /\ a1 <= s.length:=by
 unfold pBr at h
 cases hb:Nat.beq n 16 with
 | true => rw [hb] at h; cases h
 | false =>
  rw [hb] at h
  simp only [cond_false] at h
  have h0:=blk_ge (s:=s) (a + 1)
  have h1:=blk_le (s:=s) (a:=a + 1) ha
  cases hc:hbI s (blk s (a + 1)) == 41 with
  | true =>
   rw [hc] at h
   cases h
   have:=hb_lt hc (by decide)
   omega
  | false =>
   rw [hc] at h
   simp only [cond_false] at h
   obtain ⟨t1,a2,h2,h3⟩:=PR.bind_ok h
   obtain ⟨h4,h5⟩:=hA _ h1 _ _ h2
   cases hd:hbI s a2 == 41 with
   | true =>
    rw [hd] at h3
    cases h3
    have:=hb_lt hd (by decide)
    omega
   | false => rw [hd] at h3; cases h3
theorem pAtom_goes (hA:Goes s alt) {a:Nat} (ha:a <= s.length) {t:Tr} {a1:Nat} (h:pAtom s n alt a = .ok t a1):a < a1 /\ a1 <= s.length:=by
 unfold pAtom at h
 cases h1:hbI s a == 64 with
 | true =>
  rw [h1] at h
  have:=pWord_goes (hb_lt h1 (by decide)) h
  omega
 | false =>
  rw [h1] at h
  simp only [cond_false] at h
  cases h2:hbI s a == 35 with
  | true =>
   rw [h2] at h
   simp only [cond_true] at h
   cases h3:(exN s txtW a).1 with
   | true =>
    rw [h3] at h
    cases h
    have:=exN_ok txtW a ha (by decide) h3
    have e:txtW.length = 5:=rfl
    rw [e] at this
    omega
   | false => rw [h3] at h; cases h
  | false =>
   rw [h2] at h
   simp only [cond_false] at h
   cases h3:hbI s a == 40 with
   | true =>
    rw [h3] at h
    exact pBr_goes hA (hb_lt h3 (by decide)) h
   | false =>
    rw [h3] at h
    exact pWord_goes ha h
theorem markOf_lt {a k:Nat} (h:markOf (hbI s a) = some k):a < s.length /\ k <= 2:=by
 unfold markOf at h
 cases h1:hbI s a == 42 with
 | true => rw [h1] at h; cases h; exact ⟨hb_lt h1 (by decide),by omega⟩
 | false =>
  rw [h1] at h
  simp only [cond_false] at h
  cases h2:hbI s a == 43 with
  | true => rw [h2] at h; cases h; exact ⟨hb_lt h2 (by decide),by omega⟩
  | false =>
   rw [h2] at h
   simp only [cond_false] at h
   cases h3:hbI s a == 63 with
   | true => rw [h3] at h; cases h; exact ⟨hb_lt h3 (by decide),by omega⟩
   | false => rw [h3] at h; cases h
theorem pMarks_goes:∀ (f:Nat) (t:Tr) (a:Nat),a <= s.length -> a <= (pMarks s f t a).2 /\ (pMarks s f t a).2 <= s.length
 | 0,t,a,ha => ⟨Nat.le_refl _,ha⟩
 | f + 1,t,a,ha => by
  unfold pMarks
  cases h:markOf (hbI s a) with
  | none => exact ⟨Nat.le_refl _,ha⟩
  | some k =>
   have h1:=markOf_lt h
   have h2:=blk_ge (s:=s) (a + 1)
   have:=pMarks_goes f (.mk (7 + k) [] [t]) (blk s (a + 1)) (blk_le h1.1)
   simp only []
   omega
theorem pItem_goes (hA:Goes s alt) {a:Nat} (ha:a <= s.length) {t:Tr} {a1:Nat} (h:pItem s n alt a = .ok t a1):a < a1 /\ a1 <= s.length:=by
 obtain ⟨t1,a2,h1,h2⟩:=PR.bind_ok h
 have h3:=pAtom_goes hA ha h1
 cases h2
 have h4:=blk_ge (s:=s) a2
 have:=pMarks_goes (s.length + 1) t1 (blk s a2) (blk_le h3.2)
 omega
theorem pSeqs_goes (hA:Goes s alt):∀ (f:Nat) (l:List Tr) (a:Nat),a <= s.length -> ∀ t a1,pSeqs s n alt f l a = .ok t a1 -> a <= a1 /\ a1 <= s.length
 | 0,l,a,ha,t,a1,h => by cases h; exact ⟨Nat.le_refl _,ha⟩
 | f + 1,l,a,ha,t,a1,h => by
  unfold pSeqs at h
  cases hb:begins (hbI s a) with
  | false => rw [hb] at h; cases h; exact ⟨Nat.le_refl _,ha⟩
  | true =>
   rw [hb] at h
   obtain ⟨t1,a2,h1,h2⟩:=PR.bind_ok h
   have h3:=pItem_goes hA ha h1
   have:=pSeqs_goes hA f _ a2 h3.2 _ _ h2
   omega
theorem pSeq_goes (hA:Goes s alt):Goes s (pSeq s n alt):=by
 intro a ha t a1 h
 obtain ⟨t1,a2,h1,h2⟩:=PR.bind_ok h
 have h0:=blk_ge (s:=s) a
 have h3:=pItem_goes hA (blk_le ha) h1
 have:=pSeqs_goes hA _ _ a2 h3.2 _ _ h2
 omega
theorem pJoins_goes {sg:Int} (hs:sg ≠ 0) {kd:Nat} {part:Nat -> PR} (hP:Goes s part):∀ (f:Nat) (l:List Tr) (a:Nat),a <= s.length -> ∀ t a1,pJoins s sg kd part f l a = .ok t a1 -> a <= a1 /\ a1 <= s.length
 | 0,l,a,ha,t,a1,h => by cases h; exact ⟨Nat.le_refl _,ha⟩
 | f + 1,l,a,ha,t,a1,h => by
  unfold pJoins at h
  cases hb:hbI s a == sg with
  | false => rw [hb] at h; cases h; exact ⟨Nat.le_refl _,ha⟩
  | true =>
   rw [hb] at h
   obtain ⟨t1,a2,h1,h2⟩:=PR.bind_ok h
   have h3:=hP (a + 1) (hb_lt hb hs) _ _ h1
   have:=pJoins_goes hs hP f _ a2 h3.2 _ _ h2
   omega
theorem pJoin_goes {sg:Int} (hs:sg ≠ 0) {kd:Nat} {part:Nat -> PR} (hP:Goes s part):Goes s (pJoin s sg kd part):=by
 intro a ha t a1 h
 obtain ⟨t1,a2,h1,h2⟩:=PR.bind_ok h
 have h3:=hP a ha _ _ h1
 have:=pJoins_goes hs hP _ _ a2 h3.2 _ _ h2
 omega
theorem pAll_goes (hA:Goes s alt):Goes s (pAll s n alt):=pJoin_goes (by decide) (pSeq_goes hA)
theorem pAlt_goes (hA:Goes s alt):Goes s (pAlt s n alt):=pJoin_goes (by decide) (pAll_goes hA)
theorem pAltD_goes:∀ d,Goes s (pAltD s d)
 | 0 => fun a ha t a1 h => by cases h
 | d + 1 => pAlt_goes (pAltD_goes d)
end
end Go.Dc.Ke
end
section
namespace Go.Dc.Ke
open Go.Proofs Go.RowKit
set_option maxRecDepth 100000
theorem vr57 (R:RR) (s:List UInt8) (n:Int) (a i:Nat) (k:Exit -> St -> Prop):rnd (envL R) 1000 57 (loopOf fi57 0) (fam57 s n a i) k = (((↑i:Int) - 0).NonNeg /\ bif wordly (hbI s (↑i:Int)) then k Exit.normal (St.mk [AV.ptr false 0 0 0,AV.any,AV.any,iI (↑a:Int),AV.any,AV.any,AV.any,AV.any,AV.ptr false 0 0 0,AV.int IntKind.u8 (hbI s (↑i:Int)),AV.bool true,AV.ptr false 0 0 0,AV.ptr false 0 0 0,AV.ptr false 0 0 1,iI (↑i:Int),iI (IntKind.i64.wrap ((↑i:Int) + 1)),AV.ptr false 0 0 0,AV.ptr false 0 0 1,AV.any,AV.any,AV.any,AV.any,AV.any,AV.any,AV.any,AV.any,AV.any,AV.any,AV.any,AV.any,AV.any,AV.any,AV.any,AV.any,AV.any,AV.any] [some (Row.lst 52 3 [AV.agg [AV.str s,iI (IntKind.i64.wrap ((↑i:Int) + 1)),iI n]])]) else k (Exit.exit 0) (St.mk [AV.ptr false 0 0 0,AV.any,AV.any,iI (↑a:Int),AV.any,AV.any,AV.any,AV.any,AV.ptr false 0 0 0,AV.int IntKind.u8 (hbI s (↑i:Int)),AV.bool false,AV.any,AV.any,AV.any,AV.any,AV.any,AV.any,AV.any,AV.any,AV.any,AV.any,AV.any,AV.any,AV.any,AV.any,AV.any,AV.any,AV.any,AV.any,AV.any,AV.any,AV.any,AV.any,AV.any,AV.any,AV.any] [some (Row.lst 52 3 [AV.agg [AV.str s,iI (↑i:Int),iI n]])])):=by kernel_rfl
def lp57 (s:List UInt8) (n:Int) (a:Nat):LoopSpX:=fun st k F => st.tmps.length = 36 /\ nthV st.tmps 0 = .ptr false 0 0 0 /\ nthV st.tmps 3 = .int .i64 (a:Nat) /\ st.rows = [some (prow s a n)] /\ k .normal (fam57 s n a (scan wordly s a)) F
theorem fam57_spr (s:List UInt8) (n:Int) (a i:Nat):(fam57 s n a i).tmps = spr [(0,.ptr false 0 0 0),(3,.int .i64 (a:Nat))] 0 36:=by kernel_rfl
theorem loop57 (R:RR) (s:List UInt8) (n:Int) (a:Nat) (ha:a <= s.length) (hs:s.length <= 100000) (st:St) (h0:st.tmps.length = 36) (h1:nthV st.tmps 0 = .ptr false 0 0 0) (h2:nthV st.tmps 3 = .int .i64 (a:Nat)) (h3:st.rows = [some (prow s a n)]) :
  Safe Try.prog R (.block 0 (.loop (loopOf fi57 0))) st fun e st' => e = .normal /\ st' = fam57 s n a (scan wordly s a):=by
 obtain ⟨T,rows⟩:=st
 simp only at h0 h1 h2 h3
 subst h3
 refine (loop_block (I:={i:Nat // i <= s.length /\ scan wordly s i = scan wordly s a}) (fam:=fun i => fam57 s n a i.1) (fun i => s.length - i.1) (X:=fun e st => e = .exit 0 /\ st = fam57 s n a (scan wordly s a)) (i0:=⟨a,ha,rfl⟩) (f:=some) ?_ ?_ ?_ ?_).mono ?_
 ·refine ⟨View.preX (L:=[some (prow s a n)]) (tl:=[]) (fun c q h => by rw [live1 h]; exact (prow_g _ _ _).vw _ _),?_⟩
  show VwL some 1 (fam57 s n a a).tmps T
  rw [fam57_spr]
  exact VwL.ofKnown h0 ⟨by rw [h1]; exact Vw.ptrI (by decide) rfl,by rw [h2]; exact Vw.intI,trivial⟩
 ·intro c _; rfl
 ·intro i; exact Nat.le_refl _
 ·rintro ⟨i,hi,he⟩
  refine Safe.by mixed (envL_ok R) (f:=57) (fi:=fi57) (i:=0) (by kernel_rfl) (b:=.loop (loopOf fi57 0)) (by kernel_rfl) (subs_loop _) 1000 (vr57 R s n a i _) ?_
  refine ⟨show (0:Int) <= (i:Int) by omega,hcB (fun h => ?_) fun h => ?_⟩
  ·have hlt:i < s.length:=hbI_lt (p:=wordly) (by decide) h
   refine ⟨⟨i + 1,hlt,(scan_step hlt h).trans he⟩,by show s.length - (i + 1) < s.length - i; omega,?_⟩
   rw [wrapSucc i (by omega)]
   exact Fit.row1 (prow_g _ _ _) (by (repeat' (first | with_reducible exact VwL.nil | with_reducible refine VwL.cons ?_ ?_ | with_reducible exact Vw.anyI | with_reducible exact Vw.strI | with_reducible exact Vw.boolI | with_reducible exact Vw.intI | with_reducible exact Vw.nilsI | exact Vw.ptrI (by simp) rfl | exact Vw.slI (by simp) rfl | with_reducible refine Vw.aggI ?_ | exact Vw.gndI rfl)))
  ·refine ⟨fam57 s n a i,Fit.row1 (prow_g _ _ _) (by (repeat' (first | with_reducible exact VwL.nil | with_reducible refine VwL.cons ?_ ?_ | with_reducible exact Vw.anyI | with_reducible exact Vw.strI | with_reducible exact Vw.boolI | with_reducible exact Vw.intI | with_reducible exact Vw.nilsI | exact Vw.ptrI (by simp) rfl | exact Vw.slI (by simp) rfl | with_reducible refine Vw.aggI ?_ | exact Vw.gndI rfl))),rfl,?_⟩
   rw [<- he,scan_stop h]
 ·rintro e st ⟨e0,rfl,rfl,rfl⟩
  exact ⟨rfl,rfl⟩
noncomputable abbrev env57 (R:RR) (HP:HPt) (s:List UInt8) (n:Int) (a:Nat):EnvX:=(envW R HP).addLoop 57 0 (lp57 s n a)
theorem env57_ok (R:RR) (HP:HPt) (s:List UInt8) (n:Int) (a:Nat) (ha:a <= s.length) (hs:s.length <= 100000):OKX Try.prog (env57 R HP s n a) [] HP:=(envW_ok R HP []).addLoop (f:=57) (fi:=fi57) (by kernel_rfl) (i:=0) (body:=.loop (loopOf fi57 0)) (by kernel_rfl) (by
 rintro st k F ⟨h0,h1,h2,h3,hk⟩
 refine (loop57 R s n a ha hs st h0 h1 h2 h3).toX ?_
 rintro e st ⟨rfl,rfl⟩; exact hk)
theorem vc57 (R:RR) (HP:HPt) (s:List UInt8) (n:Int) (a:Nat) (k:AV -> Rows -> Fz -> Prop) (F:Fz):vcx (env57 R HP s n a) 1000 57 fi57 [.ptr false 0 0 0] [some (prow s a n)] k F =
  (36 = 36 /\ AV.ptr false 0 0 0 = AV.ptr false 0 0 0 /\ iI (a:Int) = iI (a:Int) /\ [some (prow s a n)] = [some (prow s a n)] /\
   bif ((scan wordly s a:Nat):Int) == (a:Int) then HP (fault (scan wordly s a:Nat) 3) [some (prow s (scan wordly s a:Nat) n)] F
   else bif slCond (some (a:Int)) (some ((scan wordly s a:Nat):Int)) s.length then
     k (.str (List.take (slHi s.length (some ((scan wordly s a:Nat):Int)) - slLo (some (a:Int))) (List.drop (slLo (some (a:Int))) s))) [some (prow s (scan wordly s a:Nat) n)] F
    else False):=by kernel_rfl
def spec57 (HP:HPt):CallSpecX:=fun args h k => match args with
 | [.ptr false b 0 0] => atP botX h b fun s i j F => ∃ a:Nat,i = a /\ a <= s.length /\ s.length <= 100000 /\ bif Nat.beq (scan wordly s a) a then HP (fault a 3) h F else k (.str (sub s a (scan wordly s a))) (h.set b (some (prow s (scan wordly s a:Nat) j))) F
 | _ => botX
theorem beqI (a b:Nat):(((a:Nat):Int) == (b:Int)) = Nat.beq a b:=by
 cases h:Nat.beq a b with
 | true => have:=Nat.eq_of_beq_eq_true h; subst this; simp
 | false =>
  rw [beq_eq_false_iff_ne]
  intro e
  have:a = b:=by omega
  subst this; rw [Nat.beq_refl] at h; cases h
theorem spec57_ok (R:RR) (HP:HPt):∀ args h k F,spec57 HP args h k F -> SafeCallX Try.prog R 57 args h F k HP:=by
 intro args h k F hk
 unfold spec57 at hk
 split at hk
 ·rename_i b
  obtain ⟨s,i,j,hb,a,rfl,ha,hs,hk⟩:=atP_ofX hk
  refine (SafeCallX.at1 (Q:=fun v r' F' => k v (h.set b (some r')) F') (HP:=fun v r' F' => HP v (h.set b (some r')) F') hb (prow_g s a j) (vw1 b) ?_).mono ?_ ?_
  ·refine SafeCallX.by mixed (env57_ok R _ s j a ha hs) (f:=57) (fi:=fi57) (by kernel_rfl) 1000 (vc57 R _ s j a _ F) ⟨rfl,rfl,rfl,rfl,?_⟩
   rw [beqI]
   cases hc:Nat.beq (scan wordly s a) a with
   | true =>
    have e:=Nat.eq_of_beq_eq_true hc
    rw [hc] at hk
    refine ⟨_,_,rfl,rfl,prow_g _ _ _,?_⟩
    rw [e,live_set_self hb]; exact hk
   | false =>
    rw [hc] at hk
    have h1:=scan_ge wordly s a
    have h2:=scan_le (p:=wordly) ha
    refine hcF rfl (hcT (by simp [slCond,slHi,slLo]; omega) ⟨_,_,rfl,rfl,prow_g _ _ _,?_⟩)
    simpa [slHi,slLo,sub] using hk
  ·rintro v h' F' _ ⟨r',rfl,h⟩; exact h
  ·rintro v h' F' _ ⟨r',rfl,h⟩; exact h
 ·exact hk.elim
theorem vc58a (R:RR) (HP:HPt) (s:List UInt8) (n:Int) (a:Nat) (k:AV -> Rows -> Fz -> Prop) (F:Fz):vcx (envW R HP) 1000 58 fi58 [.ptr false 0 0 0,.str [41]] [some (prow s a n)] k F = (((↑a:Int) - 0).NonNeg /\ bif hbI s (↑a:Int) != 41 then HP (AV.ifc 48 (AV.agg [iI (↑a:Int),iI 3])) [some (Row.lst 52 3 [AV.agg [AV.str s,iI (↑a:Int),iI n]])] F else k (AV.tup []) [some (Row.lst 52 3 [AV.agg [AV.str s,iI (IntKind.i64.wrap ((↑a:Int) + 1)),iI n]])] F):=by kernel_rfl
theorem vc58b (R:RR) (HP:HPt) (s:List UInt8) (n:Int) (a:Nat) (k:AV -> Rows -> Fz -> Prop) (F:Fz):vcx (envW R HP) 1000 58 fi58 [.ptr false 0 0 0,.str [35,116,101,120,116]] [some (prow s a n)] k F = (((↑a:Int) - 0).NonNeg /\ bif hbI s (↑a:Int) != 35 then HP (AV.ifc 48 (AV.agg [iI (↑a:Int),iI 3])) [some (Row.lst 52 3 [AV.agg [AV.str s,iI (↑a:Int),iI n]])] F else (IntKind.i64.wrap ((↑a:Int) + 1) - 0).NonNeg /\ bif hbI s (IntKind.i64.wrap ((↑a:Int) + 1)) != 116 then HP (AV.ifc 48 (AV.agg [iI (IntKind.i64.wrap ((↑a:Int) + 1)),iI 3])) [some (Row.lst 52 3 [AV.agg [AV.str s,iI (IntKind.i64.wrap ((↑a:Int) + 1)),iI n]])] F else (IntKind.i64.wrap (IntKind.i64.wrap ((↑a:Int) + 1) + 1) - 0).NonNeg /\ bif hbI s (IntKind.i64.wrap (IntKind.i64.wrap ((↑a:Int) + 1) + 1)) != 101 then HP (AV.ifc 48 (AV.agg [iI (IntKind.i64.wrap (IntKind.i64.wrap ((↑a:Int) + 1) + 1)),iI 3])) [some (Row.lst 52 3 [AV.agg [AV.str s,iI (IntKind.i64.wrap (IntKind.i64.wrap ((↑a:Int) + 1) + 1)),iI n]])] F else (IntKind.i64.wrap (IntKind.i64.wrap (IntKind.i64.wrap ((↑a:Int) + 1) + 1) + 1) - 0).NonNeg /\ bif hbI s (IntKind.i64.wrap (IntKind.i64.wrap (IntKind.i64.wrap ((↑a:Int) + 1) + 1) + 1)) != 120 then HP (AV.ifc 48 (AV.agg [iI (IntKind.i64.wrap (IntKind.i64.wrap (IntKind.i64.wrap ((↑a:Int) + 1) + 1) + 1)),iI 3])) [some (Row.lst 52 3 [AV.agg [AV.str s,iI (IntKind.i64.wrap (IntKind.i64.wrap (IntKind.i64.wrap ((↑a:Int) + 1) + 1) + 1)),iI n]])] F else (IntKind.i64.wrap (IntKind.i64.wrap (IntKind.i64.wrap (IntKind.i64.wrap ((↑a:Int) + 1) + 1) + 1) + 1) - 0).NonNeg /\ bif hbI s (IntKind.i64.wrap (IntKind.i64.wrap (IntKind.i64.wrap (IntKind.i64.wrap ((↑a:Int) + 1) + 1) + 1) + 1)) != 116 then HP (AV.ifc 48 (AV.agg [iI (IntKind.i64.wrap (IntKind.i64.wrap (IntKind.i64.wrap (IntKind.i64.wrap ((↑a:Int) + 1) + 1) + 1) + 1)),iI 3])) [some (Row.lst 52 3 [AV.agg [AV.str s,iI (IntKind.i64.wrap (IntKind.i64.wrap (IntKind.i64.wrap (IntKind.i64.wrap ((↑a:Int) + 1) + 1) + 1) + 1)),iI n]])] F else k (AV.tup []) [some (Row.lst 52 3 [AV.agg [AV.str s,iI (IntKind.i64.wrap (IntKind.i64.wrap (IntKind.i64.wrap (IntKind.i64.wrap (IntKind.i64.wrap ((↑a:Int) + 1) + 1) + 1) + 1) + 1)),iI n]])] F):=by kernel_rfl
theorem bneB (x y:Int):(x != y) = !(x == y):=rfl
theorem u41:((UInt8.toNat 41:Nat):Int) = 41:=rfl
theorem u35:((UInt8.toNat 35:Nat):Int) = 35:=rfl
theorem u116:((UInt8.toNat 116:Nat):Int) = 116:=rfl
theorem u101:((UInt8.toNat 101:Nat):Int) = 101:=rfl
theorem u120:((UInt8.toNat 120:Nat):Int) = 120:=rfl
theorem safe58 (R:RR) (HP:HPt) (w:List UInt8) (hw:w = [41] \/ w = txtW) (s:List UInt8) (n:Int) (a:Nat) (ha:a <= s.length) (hs:s.length <= 100000) (k:AV -> Rows -> Fz -> Prop) (F:Fz)
  (hk:bif (exN s w a).1 then k (.tup []) [some (prow s ((exN s w a).2:Nat) n)] F else HP (fault ((exN s w a).2:Nat) 3) [some (prow s ((exN s w a).2:Nat) n)] F):SafeCallX Try.prog R 58 [.ptr false 0 0 0,.str w] [some (prow s a n)] F k HP:=by
 rcases hw with rfl | rfl
 ·refine SafeCallX.by mixed (envW_ok R HP []) (f:=58) (fi:=fi58) (by kernel_rfl) 1000 (vc58a R HP s n a k F) ?_
  rw [wrapSucc a (by omega),bneB]
  refine ⟨show (0:Int) <= (a:Int) by omega,?_⟩
  simp only [exN,u41] at hk
  cases h1:hbI s a == 41 <;> simp only [h1,cond_true,cond_false,Bool.not_true,Bool.not_false] at hk ⊢ <;> exact hk
 ·refine SafeCallX.by mixed (envW_ok R HP []) (f:=58) (fi:=fi58) (by kernel_rfl) 1000 (vc58b R HP s n a k F) ?_
  rw [wrapSucc a (by omega),wrapSucc (a + 1) (by omega),wrapSucc (a + 1 + 1) (by omega),wrapSucc (a + 1 + 1 + 1) (by omega),wrapSucc (a + 1 + 1 + 1 + 1) (by omega)]
  simp only [bneB]
  simp only [exN,txtW,u35,u116,u101,u120] at hk
  have e:∀ m:Nat,(((m:Nat):Int) - 0).NonNeg:=fun m => show (0:Int) <= (m:Int) by omega
  refine ⟨e _,?_⟩
  cases h1:hbI s a == 35 with
  | false => simp only [h1,cond_true,cond_false,Bool.not_true,Bool.not_false] at hk ⊢; exact hk
  | true =>
  simp only [h1,Bool.not_true,cond_false]
  refine ⟨e _,?_⟩
  cases h2:hbI s ((a + 1:Nat):Int) == 116 with
  | false => simp only [h1,h2,cond_true,cond_false,Bool.not_true,Bool.not_false] at hk ⊢; exact hk
  | true =>
  simp only [h2,Bool.not_true,cond_false]
  refine ⟨e _,?_⟩
  cases h3:hbI s ((a + 1 + 1:Nat):Int) == 101 with
  | false => simp only [h1,h2,h3,cond_true,cond_false,Bool.not_true,Bool.not_false] at hk ⊢; exact hk
  | true =>
  simp only [h3,Bool.not_true,cond_false]
  refine ⟨e _,?_⟩
  cases h4:hbI s ((a + 1 + 1 + 1:Nat):Int) == 120 with
  | false => simp only [h1,h2,h3,h4,cond_true,cond_false,Bool.not_true,Bool.not_false] at hk ⊢; exact hk
  | true =>
  simp only [h4,Bool.not_true,cond_false]
  refine ⟨e _,?_⟩
  cases h5:hbI s ((a + 1 + 1 + 1 + 1:Nat):Int) == 116 with
  | false => simp only [h1,h2,h3,h4,h5,cond_true,cond_false,Bool.not_true,Bool.not_false] at hk ⊢; exact hk
  | true => simp only [h1,h2,h3,h4,h5,cond_true,cond_false,Bool.not_true,Bool.not_false] at hk ⊢; exact hk
end Go.Dc.Ke
end
section
namespace Go.Dc.Ke
open Go.Proofs Go.RowKit Go.Shelf
set_option maxRecDepth 100000
def fI (n:Nat):Nat:=if n = 137 then 53 else if n = 217 then 60 else if n = 266 then 61 else 0
def rI:Ren:={ f:=fI,g:=fun _ => 0,t:=fun n => n }
theorem laysI:Lays.n137 Try.prog rI:=by constructor <;> first | kernel_rfl | (intro w; kernel_rfl)
def markI (c:Int):Int:=bif c == 42 then 0 else bif c == 43 then 1 else bif c == 63 then 2 else -1
theorem idx_mark (c:Int) (h0:0 <= c) (h1:c <= 255):Lib.indexByte [42,43,63] c.toNat.toUInt8 = markI c:=by
 have key:∀ m:Fin 256,Lib.indexByte [42,43,63] ((m.1:Nat):Int).toNat.toUInt8 = markI ((m.1:Nat):Int):=by decide +kernel
 have:=key ⟨c.toNat,by omega⟩
 simpa [Int.toNat_of_nonneg h0] using this
structure MarksW (w:List UInt8):Prop where
 is:w = [42,43,63]
def spec53:CallSpec:=fun args h k => match args with
 | [.str w,.int .u8 c] => MarksW w /\ 0 <= c /\ c <= 255 /\ k (.int .i64 (markI c)) h
 | _ => False
theorem spec53_ok (R:RR):∀ args h k,spec53 args h k -> SafeCall Try.prog R 53 args h k:=by
 intro args h k hk
 unfold spec53 at hk
 split at hk
 ·rename_i w c
  obtain ⟨⟨rfl⟩,h0,h1,hk⟩:=hk
  refine (SafeCall.known (v:=.int .i64 (markI c)) fun m n va has => ?_).mono ?_
  ·simp only [DenL,Den] at has
   obtain ⟨_,_,h2,rfl,_,_,rfl,rfl,rfl⟩:=has
   refine ⟨.int .i64 (markI c),by simp [Den],fun w => ?_⟩
   have:=Any.strings_IndexByte laysI ⟨⟨[42,43,63]⟩⟩ c w
   rw [idx_mark c h0 h1] at this
   have e:va = #[.string ⟨⟨[42,43,63]⟩⟩,.int .u8 c]:=by
    cases va; simpa using h2
   rw [e]
   exact this
  ·rintro v h' ⟨rfl,rfl⟩; exact hk
 ·exact hk.elim
abbrev exprV (t:Tr) (x:Nat):AV:=.agg [.int .i64 (t.kind:Nat),.str t.word,tok x t.kids.length]
def dT:Tr × Nat:=(.mk 0 [] [],0)
abbrev kidR (l:List (Tr × Nat)):RoRow:=⟨25,3,l.length,fun i => exprV (l.getD i dT).1 (l.getD i dT).2⟩
mutual
/-- The kids of an expression lie frozen under a name. -/
def IsT (F:Fz):Tr -> Nat -> Prop
 | .mk _ _ kids,x => ∃ xs:List Nat,xs.length = kids.length /\ Frz F x (kidR (kids.zip xs)) /\ IsTs F kids xs
def IsTs (F:Fz):List Tr -> List Nat -> Prop
 | [],_ => True
 | t :: ts,xs => IsT F t (xs.headD 0) /\ IsTs F ts xs.tail
end
mutual
theorem IsT.le {F F':Fz} (h:F.le F'):∀ (t:Tr) (x:Nat),IsT F t x -> IsT F' t x
 | .mk k w kids,x,ht => by
  simp only [IsT] at ht ⊢
  obtain ⟨xs,h1,h2,h3⟩:=ht
  exact ⟨xs,h1,h2.le h,IsTs.le h kids xs h3⟩
theorem IsTs.le {F F':Fz} (h:F.le F'):∀ (ts:List Tr) (xs:List Nat),IsTs F ts xs -> IsTs F' ts xs
 | [],_,_ => by simp only [IsTs]
 | t :: ts,xs,ht => by
  simp only [IsTs] at ht ⊢
  exact ⟨IsT.le h t _ ht.1,IsTs.le h ts _ ht.2⟩
end
theorem IsTs.of {F:Fz}:∀ (l:List (Tr × Nat)),(∀ p ∈ l,IsT F p.1 p.2) -> IsTs F (l.map Prod.fst) (l.map Prod.snd)
 | [],_ => by simp only [List.map_nil,IsTs]
 | p :: l,h => by
  simp only [List.map_cons,IsTs,List.headD_cons,List.tail_cons]
  exact ⟨h p (by simp),IsTs.of l fun q hq => h q (by simp [hq])⟩
theorem zip_ms (l:List (Tr × Nat)):(l.map Prod.fst).zip (l.map Prod.snd) = l:=by
 induction l with
 | nil => rfl
 | cons p l ih => simp [ih]
theorem IsT.of {F:Fz} {k:Nat} {w:List UInt8} {x:Nat} (l:List (Tr × Nat)) (hf:Frz F x (kidR l)) (hl:∀ p ∈ l,IsT F p.1 p.2):IsT F (.mk k w (l.map Prod.fst)) x:=by
 simp only [IsT]
 exact ⟨l.map Prod.snd,by simp,by rw [zip_ms]; exact hf,IsTs.of l hl⟩
theorem IsT.leaf {F:Fz} {k:Nat} {w:List UInt8}:IsT F (.mk k w []) 0:=IsT.of (l:=[]) (.inl ⟨rfl,rfl⟩) (by simp)
structure TAt (F:Fz) (t:Tr) (x:Nat):Prop where
 is:IsT F t x
structure Up (F F':Fz):Prop where
 le:F.le F'
def specP (r:List UInt8 -> Nat -> Nat -> PR) (N:Nat) (HP:HPt):CallSpecX:=fun args h k => match args with
 | [.ptr false b 0 0] => atP botX h b fun s i j F => ∃ a n:Nat,i = a /\ j = n /\ a <= s.length /\ s.length <= 256 /\ n = N /\
   (∀ t a',r s n a = .ok t a' -> ∀ x F',Up F F' -> TAt F' t x -> k (exprV t x) (h.set b (some (prow s (a':Nat) (n:Nat)))) F') /\
   (∀ e c,r s n a = .err e c -> ∀ (a' n':Int) F',Up F F' -> HP (fault (e:Nat) (c:Nat)) (h.set b (some (prow s a' n'))) F')
 | _ => botX
def SafeP (R:RR) (f:FuncId) (r:List UInt8 -> Nat -> Nat -> PR) (N:Nat):Prop:=∀ (s:List UInt8) (a:Nat) (F:Fz),a <= s.length -> s.length <= 256 -> ∀ (HP:HPt) (k:AV -> Rows -> Fz -> Prop),
 (∀ t a',r s N a = .ok t a' -> ∀ x F',Up F F' -> TAt F' t x -> k (exprV t x) [some (prow s (a':Nat) (N:Nat))] F') ->
 (∀ e c,r s N a = .err e c -> ∀ (a' n':Int) F',Up F F' -> HP (fault (e:Nat) (c:Nat)) [some (prow s a' n')] F') ->
 SafeCallX Try.prog R f [.ptr false 0 0 0] [some (prow s (a:Nat) (N:Nat))] F k HP
theorem specP_ok {R:RR} {f:FuncId} {r:List UInt8 -> Nat -> Nat -> PR} {N:Nat} (hs:SafeP R f r N) (HP:HPt):∀ args h k F,specP r N HP args h k F -> SafeCallX Try.prog R f args h F k HP:=by
 intro args h k F hk
 unfold specP at hk
 split at hk
 ·rename_i b
  obtain ⟨s,i,j,hb,a,n,rfl,rfl,ha,hl,rfl,hok,herr⟩:=atP_ofX hk
  refine (SafeCallX.at1 (Q:=fun v r' F' => k v (h.set b (some r')) F') (HP:=fun v r' F' => HP v (h.set b (some r')) F') hb (prow_g s a n) (vw1 b) (hs s a F ha hl _ _ ?_ ?_)).mono ?_ ?_
  ·intro t a' ht x F' hu hx
   exact ⟨_,[],rfl,rfl,prow_g _ _ _,hok t a' ht x F' hu hx⟩
  ·intro e c he a' n' F' hu
   exact ⟨_,[],rfl,rfl,prow_g _ _ _,herr e c he a' n' F' hu⟩
  ·rintro v h' F' _ ⟨r',rfl,h⟩; exact h
  ·rintro v h' F' _ ⟨r',rfl,h⟩; exact h
 ·exact hk.elim
theorem ToV.nils {R:RR} {nk:Nat} {a b:AV} {h:Rows} {F:Fz} {S:AV -> Rows -> Fz -> Prop} (hs:S (.agg [a,b,tok 0 0]) h F):ToV R nk (.agg [a,b,.nils]) h F S:=by
 intro m c w m0 h0 w0 F0 hn hd hW hf hst hl
 refine ⟨m,_,h,F,hs,?_,hW,hf,hst,hl⟩
 simp only [Den,DenL] at hd
 obtain ⟨vs,rfl,v1,_,e1,h1,v2,_,rfl,h2,v3,_,rfl,h3,rfl⟩:=hd
 show ∃ vs':Array Value,_ /\ DenL m h.length [a,b,tok 0 0] vs'.toList
 refine ⟨vs,rfl,?_⟩
 rw [e1]
 have:=nils_tok hf.ro (n:=h.length) (v:=v3) (by simp only [Den]; exact h3)
 refine ⟨v1,_,rfl,h1,v2,_,rfl,h2,v3,_,rfl,this,rfl⟩
abbrev PQ (k:AV -> Rows -> Fz -> Prop):AV -> Rows -> Fz -> Prop:=fun v h F => ∃ r' tl,h = some r' :: tl /\ RowG r' /\ ((gnd v = true /\ k v [some r'] F) \/ ∃ a b,v = .agg [a,b,.nils] /\ gnd a = true /\ gnd b = true /\ k (.agg [a,b,tok 0 0]) [some r'] F)
abbrev PH (HP:HPt):HPt:=fun v h F => ∃ r' tl,h = some r' :: tl /\ RowG r' /\ gnd v = true /\ HP v [some r'] F
theorem SafeCallX.row1 {R:RR} {f:FuncId} {args:List AV} {r:Row} {F:Fz} {k:AV -> Rows -> Fz -> Prop} {HP:HPt} (hs:SafeCallX Try.prog R f args [some r] F (PQ k) (PH HP)):SafeCallX Try.prog R f args [some r] F k HP:=by
 refine SafeCallX.post hs ?_ ?_
 ·rintro v h' F' _ ⟨r',tl,rfl,hg,⟨hv,hk⟩ | ⟨a,b,rfl,ha,hb,hk⟩⟩
  ·exact ToV.fit (FitV.row1 hg hv) (ToV.here hk)
  ·exact ToV.fit (FitV.row1 hg (by simp [gnd,gndL,ha,hb])) (ToV.nils hk)
 ·rintro v h' F' _ ⟨r',tl,rfl,hg,hv,hk⟩
  exact ToV.fit (FitV.row1 hg hv) (ToV.here hk)
theorem PQ.i {k:AV -> Rows -> Fz -> Prop} {v:AV} {s:List UInt8} {i j:Int} {tl:Rows} {F:Fz} (hv:gnd v = true) (hk:k v [some (prow s i j)] F):PQ k v (some (prow s i j) :: tl) F:=⟨_,tl,rfl,prow_g _ _ _,.inl ⟨hv,hk⟩⟩
theorem PQ.n {k:AV -> Rows -> Fz -> Prop} {kd:Int} {w s:List UInt8} {i j:Int} {tl:Rows} {F:Fz} (hk:k (.agg [.int .i64 kd,.str w,tok 0 0]) [some (prow s i j)] F):PQ k (.agg [.int .i64 kd,.str w,.nils]) (some (prow s i j) :: tl) F:=⟨_,tl,rfl,prow_g _ _ _,.inr ⟨_,_,rfl,rfl,rfl,hk⟩⟩
theorem PH.i {HP:HPt} {a c:Int} {s:List UInt8} {i j:Int} {tl:Rows} {F:Fz} (hk:HP (fault a c) [some (prow s i j)] F):PH HP (fault a c) (some (prow s i j) :: tl) F:=⟨_,tl,rfl,prow_g _ _ _,rfl,hk⟩
theorem Up.refl (F:Fz):Up F F:=⟨F.le_refl⟩
theorem Up.trans {F G H:Fz} (a:Up F G) (b:Up G H):Up F H:=⟨Fz.le_trans a.le b.le⟩
noncomputable abbrev envV (R:RR) (HP:HPt):EnvX:=((envW R HP).addCall 57 (spec57 HP)).addCall 53 (liftC spec53)
theorem envV_ok (R:RR) (HP:HPt) (ds:List Deferred):OKX Try.prog (envV R HP) ds HP :=
 ((envW_ok R HP ds).addCall (f:=57) (fi:=fi57) (by kernel_rfl) (spec57_ok R HP)).addCall (f:=53) (fi:=fi53) (by kernel_rfl) (liftC_ok (spec53_ok R))
def spec58g (HP:HPt):CallSpecX:=fun args h k => match args with
 | [.ptr false b 0 0,.str w] => atP botX h b fun s i j F => (w = [41] \/ w = txtW) /\ ∃ a:Nat,i = a /\ a <= s.length /\ s.length <= 100000 /\ bif (exN s w a).1 then k (.tup []) (h.set b (some (prow s ((exN s w a).2:Nat) j))) F else HP (fault ((exN s w a).2:Nat) 3) (h.set b (some (prow s ((exN s w a).2:Nat) j))) F
 | _ => botX
theorem spec58g_ok (R:RR) (HP:HPt):∀ args h k F,spec58g HP args h k F -> SafeCallX Try.prog R 58 args h F k HP:=by
 intro args h k F hk
 unfold spec58g at hk
 split at hk
 ·rename_i b w
  obtain ⟨s,i,j,hb,hw,a,rfl,ha,hs,hk⟩:=atP_ofX hk
  refine (SafeCallX.at1 (Q:=fun v r' F' => k v (h.set b (some r')) F') (HP:=fun v r' F' => HP v (h.set b (some r')) F') hb (prow_g s a j) (vw2 b _ rfl) (safe58 R _ w hw s j a ha hs _ F ?_)).mono ?_ ?_
  ·cases hc:(exN s w a).1 <;> rw [hc] at hk
   ·exact ⟨_,_,rfl,rfl,prow_g _ _ _,hk⟩
   ·exact ⟨_,_,rfl,rfl,prow_g _ _ _,hk⟩
  ·rintro v h' F' _ ⟨r',rfl,h⟩; exact h
  ·rintro v h' F' _ ⟨r',rfl,h⟩; exact h
 ·exact hk.elim
noncomputable abbrev env59 (R:RR) (HP:HPt) (r:List UInt8 -> Nat -> Nat -> PR) (N:Nat):EnvX:=((envV R HP).addCall 58 (spec58g HP)).addCall 21 (specP r N HP)
theorem env59_ok {R:RR} (HP:HPt) {r:List UInt8 -> Nat -> Nat -> PR} {N:Nat} (hs:SafeP R 21 r N):OKX Try.prog (env59 R HP r N) [] HP :=
 ((envV_ok R HP []).addCall (f:=58) (fi:=fi58) (by kernel_rfl) (spec58g_ok R HP)).addCall (f:=21) (fi:=fi21) (by kernel_rfl) (specP_ok hs HP)
noncomputable abbrev env59z (R:RR) (HP:HPt):EnvX:=(envV R HP).addCall 58 (spec58g HP)
theorem env59z_ok {R:RR} (HP:HPt):OKX Try.prog (env59z R HP) [] HP :=
 (envV_ok R HP []).addCall (f:=58) (fi:=fi58) (by kernel_rfl) (spec58g_ok R HP)
theorem vc52 (R:RR) (HP:HPt) (r:List UInt8 -> Nat -> Nat -> PR) (N:Nat) (s:List UInt8) (n a:Nat) (k:AV -> Rows -> Fz -> Prop) (F:Fz):vcx (env59 R HP r N) 1000 52 fi52 [.ptr false 0 0 0] [some (prow s a n)] k F = (((↑a:Int) - 0).NonNeg /\ bif hbI s (↑a:Int) == 64 then ∃ (a_1:Nat),IntKind.i64.wrap ((↑a:Int) + 1) = (↑a_1:Int) /\ a_1.le s.length /\ s.length.le 100000 /\ bif (scan wordly s a_1).beq a_1 then HP (AV.ifc 48 (AV.agg [iI (↑a_1:Int),iI 3])) [some (Row.lst 52 3 [AV.agg [AV.str s,iI (IntKind.i64.wrap ((↑a:Int) + 1)),iI (↑n:Int)]]),some (Row.lst 25 3 [AV.agg [iI 0,AV.str [],AV.nils]])] F else k (AV.agg [iI 2,AV.str (sub s a_1 (scan wordly s a_1)),AV.nils]) [some (Row.lst 52 3 [AV.agg [AV.str s,iI (↑(scan wordly s a_1):Int),iI (↑n:Int)]]),some (Row.lst 25 3 [AV.agg [iI 2,AV.str (sub s a_1 (scan wordly s a_1)),AV.nils]])] F else bif hbI s (↑a:Int) == 35 then ((ByteArray.mk #[35,116,101,120,116]).data.toList = [41] \/ (ByteArray.mk #[35,116,101,120,116]).data.toList = txtW) /\ ∃ (a_1:Nat),(↑a:Int) = (↑a_1:Int) /\ a_1.le s.length /\ s.length.le 100000 /\ bif (exN s (ByteArray.mk #[35,116,101,120,116]).data.toList a_1).fst then k (AV.agg [iI 3,AV.str [],AV.nils]) [some (Row.lst 52 3 [AV.agg [AV.str s,iI (↑(exN s (ByteArray.mk #[35,116,101,120,116]).data.toList a_1).snd:Int),iI (↑n:Int)]]),some (Row.lst 25 3 [AV.agg [iI 3,AV.str [],AV.nils]])] F else HP (AV.ifc 48 (AV.agg [iI (↑(exN s (ByteArray.mk #[35,116,101,120,116]).data.toList a_1).snd:Int),iI 3])) [some (Row.lst 52 3 [AV.agg [AV.str s,iI (↑(exN s (ByteArray.mk #[35,116,101,120,116]).data.toList a_1).snd:Int),iI (↑n:Int)]]),some (Row.lst 25 3 [AV.agg [iI 0,AV.str [],AV.nils]])] F else bif hbI s (↑a:Int) == 40 then bif (↑n:Int) == 16 then HP (AV.ifc 48 (AV.agg [iI (↑a:Int),iI 5])) [some (Row.lst 52 3 [AV.agg [AV.str s,iI (↑a:Int),iI (↑n:Int)]]),some (Row.lst 25 3 [AV.agg [iI 0,AV.str [],AV.nils]]),some (Row.lst 25 3 [AV.agg [iI 0,AV.str [],AV.nils]])] F else ∃ (a_1:Nat),IntKind.i64.wrap ((↑a:Int) + 1) = (↑a_1:Int) /\ a_1.le s.length /\ s.length.le 100000 /\ ((↑(scan isB s a_1):Int) - 0).NonNeg /\ bif hbI s (↑(scan isB s a_1):Int) == 41 then k (AV.agg [iI 0,AV.str [],AV.nils]) [some (Row.lst 52 3 [AV.agg [AV.str s,iI (IntKind.i64.wrap ((↑(scan isB s a_1):Int) + 1)),iI (↑n:Int)]]),some (Row.lst 25 3 [AV.agg [iI 0,AV.str [],AV.nils]]),some (Row.lst 25 3 [AV.agg [iI 0,AV.str [],AV.nils]])] F else ∃ (a n_1:Nat),(↑(scan isB s a_1):Int) = (↑a:Int) /\ IntKind.i64.wrap ((↑n:Int) + 1) = (↑n_1:Int) /\ a.le s.length /\ s.length.le 256 /\ n_1 = N /\ (∀ (t:Tr) (a':Nat),r s n_1 a = PR.ok t a' -> ∀ (x:Nat) (F':Fz),Up F F' -> TAt F' t x -> ((ByteArray.mk #[41]).data.toList = [41] \/ (ByteArray.mk #[41]).data.toList = txtW) /\ ∃ (a:Nat),(↑a':Int) = (↑a:Int) /\ a.le s.length /\ s.length.le 100000 /\ bif (exN s (ByteArray.mk #[41]).data.toList a).fst then k (AV.agg [iI (↑t.kind:Int),AV.str t.word,AV.sl true (x + 15) 0 t.kids.length Cp.no]) [some (Row.lst 52 3 [AV.agg [AV.str s,iI (↑(exN s (ByteArray.mk #[41]).data.toList a).snd:Int),iI (IntKind.i64.wrap ((↑n_1:Int) - 1))]]),some (Row.lst 25 3 [AV.agg [iI (↑t.kind:Int),AV.str t.word,AV.sl true (x + 15) 0 t.kids.length Cp.no]]),some (Row.lst 25 3 [AV.agg [iI (↑t.kind:Int),AV.str t.word,AV.sl true (x + 15) 0 t.kids.length Cp.no]]),some (Row.lst 25 3 [AV.agg [iI (↑t.kind:Int),AV.str t.word,AV.sl true (x + 15) 0 t.kids.length Cp.no]])] F' else HP (AV.ifc 48 (AV.agg [iI (↑(exN s (ByteArray.mk #[41]).data.toList a).snd:Int),iI 3])) [some (Row.lst 52 3 [AV.agg [AV.str s,iI (↑(exN s (ByteArray.mk #[41]).data.toList a).snd:Int),iI (IntKind.i64.wrap ((↑n_1:Int) - 1))]]),some (Row.lst 25 3 [AV.agg [iI 0,AV.str [],AV.nils]]),some (Row.lst 25 3 [AV.agg [iI 0,AV.str [],AV.nils]]),some (Row.lst 25 3 [AV.agg [iI (↑t.kind:Int),AV.str t.word,AV.sl true (x + 15) 0 t.kids.length Cp.no]])] F') /\ ∀ (e c:Nat),r s n_1 a = PR.err e c -> ∀ (a' n':Int) (F':Fz),Up F F' -> HP (AV.ifc 48 (AV.agg [iI (↑e:Int),iI (↑c:Int)])) [some (Row.lst 52 3 [AV.agg [AV.str s,iI a',iI n']]),some (Row.lst 25 3 [AV.agg [iI 0,AV.str [],AV.nils]]),some (Row.lst 25 3 [AV.agg [iI 0,AV.str [],AV.nils]])] F' else ∃ (a_1:Nat),(↑a:Int) = (↑a_1:Int) /\ a_1.le s.length /\ s.length.le 100000 /\ bif (scan wordly s a_1).beq a_1 then HP (AV.ifc 48 (AV.agg [iI (↑a_1:Int),iI 3])) [some (Row.lst 52 3 [AV.agg [AV.str s,iI (↑a:Int),iI (↑n:Int)]]),some (Row.lst 25 3 [AV.agg [iI 0,AV.str [],AV.nils]])] F else k (AV.agg [iI 1,AV.str (sub s a_1 (scan wordly s a_1)),AV.nils]) [some (Row.lst 52 3 [AV.agg [AV.str s,iI (↑(scan wordly s a_1):Int),iI (↑n:Int)]]),some (Row.lst 25 3 [AV.agg [iI 1,AV.str (sub s a_1 (scan wordly s a_1)),AV.nils]])] F):=by kernel_rfl
theorem vc52z (R:RR) (HP:HPt) (s:List UInt8) (a:Nat) (k:AV -> Rows -> Fz -> Prop) (F:Fz):vcx (env59z R HP) 1000 52 fi52 [.ptr false 0 0 0] [some (prow s a 16)] k F = (((↑a:Int) - 0).NonNeg /\ bif hbI s (↑a:Int) == 64 then ∃ (a_1:Nat),IntKind.i64.wrap ((↑a:Int) + 1) = (↑a_1:Int) /\ a_1.le s.length /\ s.length.le 100000 /\ bif (scan wordly s a_1).beq a_1 then HP (AV.ifc 48 (AV.agg [iI (↑a_1:Int),iI 3])) [some (Row.lst 52 3 [AV.agg [AV.str s,iI (IntKind.i64.wrap ((↑a:Int) + 1)),iI 16]]),some (Row.lst 25 3 [AV.agg [iI 0,AV.str [],AV.nils]])] F else k (AV.agg [iI 2,AV.str (sub s a_1 (scan wordly s a_1)),AV.nils]) [some (Row.lst 52 3 [AV.agg [AV.str s,iI (↑(scan wordly s a_1):Int),iI 16]]),some (Row.lst 25 3 [AV.agg [iI 2,AV.str (sub s a_1 (scan wordly s a_1)),AV.nils]])] F else bif hbI s (↑a:Int) == 35 then ((ByteArray.mk #[35,116,101,120,116]).data.toList = [41] \/ (ByteArray.mk #[35,116,101,120,116]).data.toList = txtW) /\ ∃ (a_1:Nat),(↑a:Int) = (↑a_1:Int) /\ a_1.le s.length /\ s.length.le 100000 /\ bif (exN s (ByteArray.mk #[35,116,101,120,116]).data.toList a_1).fst then k (AV.agg [iI 3,AV.str [],AV.nils]) [some (Row.lst 52 3 [AV.agg [AV.str s,iI (↑(exN s (ByteArray.mk #[35,116,101,120,116]).data.toList a_1).snd:Int),iI 16]]),some (Row.lst 25 3 [AV.agg [iI 3,AV.str [],AV.nils]])] F else HP (AV.ifc 48 (AV.agg [iI (↑(exN s (ByteArray.mk #[35,116,101,120,116]).data.toList a_1).snd:Int),iI 3])) [some (Row.lst 52 3 [AV.agg [AV.str s,iI (↑(exN s (ByteArray.mk #[35,116,101,120,116]).data.toList a_1).snd:Int),iI 16]]),some (Row.lst 25 3 [AV.agg [iI 0,AV.str [],AV.nils]])] F else bif hbI s (↑a:Int) == 40 then HP (AV.ifc 48 (AV.agg [iI (↑a:Int),iI 5])) [some (Row.lst 52 3 [AV.agg [AV.str s,iI (↑a:Int),iI 16]]),some (Row.lst 25 3 [AV.agg [iI 0,AV.str [],AV.nils]]),some (Row.lst 25 3 [AV.agg [iI 0,AV.str [],AV.nils]])] F else ∃ (a_1:Nat),(↑a:Int) = (↑a_1:Int) /\ a_1.le s.length /\ s.length.le 100000 /\ bif (scan wordly s a_1).beq a_1 then HP (AV.ifc 48 (AV.agg [iI (↑a_1:Int),iI 3])) [some (Row.lst 52 3 [AV.agg [AV.str s,iI (↑a:Int),iI 16]]),some (Row.lst 25 3 [AV.agg [iI 0,AV.str [],AV.nils]])] F else k (AV.agg [iI 1,AV.str (sub s a_1 (scan wordly s a_1)),AV.nils]) [some (Row.lst 52 3 [AV.agg [AV.str s,iI (↑(scan wordly s a_1):Int),iI 16]]),some (Row.lst 25 3 [AV.agg [iI 1,AV.str (sub s a_1 (scan wordly s a_1)),AV.nils]])] F):=by kernel_rfl
def rAlt (s:List UInt8) (n a:Nat):PR:=pAltD s (17 - n) a
def rAtom (s:List UInt8) (n a:Nat):PR:=pAtom s n (pAltD s (16 - n)) a
theorem nn (a:Nat):(((a:Nat):Int) - 0).NonNeg:=show (0:Int) <= (a:Int) by omega
theorem ex41 (s:List UInt8) (a:Nat):exN s [41] a = bif hbI s a == 41 then (true,a + 1) else (false,a):=by simp only [exN,u41]
theorem safe52 (R:RR) (N:Nat) (hN:N <= 16) (hs:N < 16 -> SafeP R 21 rAlt (N + 1)):SafeP R 52 rAtom N:=by
 intro s a F ha hl HP k hok herr
 refine SafeCallX.row1 ?_
 have w1:=wrapSucc a (by omega)
 have hl5:s.length <= 100000:=by omega
 have word:∀ (kd:Nat) (b:Nat),b <= s.length -> rAtom s N a = pWord s kd b -> ∀ tl tl',bif Nat.beq (scan wordly s b) b then PH HP (fault (b:Nat) 3) (some (prow s (b:Nat) (N:Nat)) :: tl) F
   else PQ k (.agg [.int .i64 (kd:Nat),.str (sub s b (scan wordly s b)),.nils]) (some (prow s (scan wordly s b:Nat) (N:Nat)) :: tl') F:=by
  intro kd b hb hr tl tl'
  unfold pWord at hr
  cases hc:Nat.beq (scan wordly s b) b with
  | true => rw [hc] at hr; exact PH.i (herr b 3 hr _ _ F (Up.refl F))
  | false => rw [hc] at hr; exact PQ.n (hok _ _ hr 0 F (Up.refl F) ⟨IsT.leaf⟩)
 have text:(hbI s a == 64) = false -> (hbI s a == 35) = true -> ∀ tl tl',bif (exN s txtW a).1 then PQ k (.agg [.int .i64 3,.str [],.nils]) (some (prow s ((exN s txtW a).2:Nat) (N:Nat)) :: tl) F else PH HP (fault ((exN s txtW a).2:Nat) 3) (some (prow s ((exN s txtW a).2:Nat) (N:Nat)) :: tl') F:=by
  intro h1 h2 tl tl'
  have hr:rAtom s N a = bif (exN s txtW a).1 then .ok (.mk 3 [] []) (exN s txtW a).2 else .err (exN s txtW a).2 3:=by simp only [rAtom,pAtom,h1,h2,cond_true,cond_false]
  cases hc:(exN s txtW a).1 with
  | true => rw [hc] at hr; exact PQ.n (hok _ _ hr 0 F (Up.refl F) ⟨IsT.leaf⟩)
  | false => rw [hc] at hr; exact PH.i (herr _ 3 hr _ _ F (Up.refl F))
 rcases Nat.lt_or_ge N 16 with h16 | h16
 ·refine SafeCallX.by mixed (env59_ok _ (hs h16)) (f:=52) (fi:=fi52) (by kernel_rfl) 1000 (vc52 R _ rAlt (N + 1) s N a _ F) ⟨nn a,hcB (fun h1 => ?_) fun h1 => hcB (fun h2 => ?_) fun h2 => hcB (fun h3 => ?_) fun h3 => ?_⟩
  ·refine ⟨a + 1,w1,hb_lt h1 (by decide),hl5,?_⟩
   rw [w1]
   exact word 2 (a + 1) (hb_lt h1 (by decide)) (by simp only [rAtom,pAtom,h1,cond_true]) _ _
  ·exact ⟨.inr rfl,a,rfl,ha,hl5,text h1 h2 _ _⟩
  ·have hlt:=hb_lt h3 (by decide)
   have hb1:=blk_le (s:=s) (a:=a + 1) hlt
   have hr:rAtom s N a = pBr s N (pAltD s (16 - N)) a:=by simp only [rAtom,pAtom,h1,h2,h3,cond_true,cond_false]
   have hn16:Nat.beq N 16 = false:=by rw [Bool.eq_false_iff]; intro e; have:=Nat.eq_of_beq_eq_true e; omega
   unfold pBr at hr
   rw [hn16] at hr
   simp only [cond_false] at hr
   refine hcF (by rw [beq_eq_false_iff_ne]; omega) ⟨a + 1,w1,hlt,hl5,nn _,hcB (fun h4 => ?_) fun h4 => ?_⟩
   ·have h4':(hbI s (blk s (a + 1)) == 41) = true:=h4
    rw [h4'] at hr
    rw [wrapSucc _ (by show scan isB s (a + 1) <= _; have:scan isB s (a + 1) <= s.length:=hb1; omega)]
    exact PQ.n (hok _ _ hr 0 F (Up.refl F) ⟨IsT.leaf⟩)
   ·have h4':(hbI s (blk s (a + 1)) == 41) = false:=h4
    rw [h4'] at hr
    simp only [cond_false] at hr
    have eA:rAlt s (N + 1) (blk s (a + 1)) = pAltD s (16 - N) (blk s (a + 1)):=by unfold rAlt; rw [show 17 - (N + 1) = 16 - N by omega]
    refine ⟨blk s (a + 1),N + 1,rfl,wrapSucc N (by omega),hb1,hl,rfl,?_,?_⟩
    ·intro t a' ht x F' hu hx
     rw [eA] at ht
     rw [ht] at hr
     simp only [PR.bind] at hr
     have hg:=pAltD_goes (16 - N) _ hb1 _ _ ht
     refine ⟨.inl rfl,a',rfl,hg.2,hl5,?_⟩
     rw [ex41]
     have e9:IntKind.i64.wrap (((N + 1:Nat):Int) - 1) = ((N:Nat):Int):=by rw [wrapI64 _ (by omega) (by omega)]; omega
     rw [e9]
     cases hc:hbI s a' == 41 with
     | true =>
      rw [hc] at hr
      exact PQ.i rfl (hok _ _ hr x F' hu hx)
     | false =>
      rw [hc] at hr
      exact PH.i (herr _ _ hr _ _ F' hu)
    ·intro e c he a' n' F' hu
     rw [eA] at he
     rw [he] at hr
     exact PH.i (herr e c hr _ _ F' hu)
  ·refine ⟨a,rfl,ha,hl5,?_⟩
   exact word 1 a ha (by simp only [rAtom,pAtom,h1,h2,h3,cond_false]) _ _
 ·have e16:N = 16:=by omega
  subst e16
  refine SafeCallX.by mixed (env59z_ok _) (f:=52) (fi:=fi52) (by kernel_rfl) 1000 (vc52z R _ s a _ F) ⟨nn a,hcB (fun h1 => ?_) fun h1 => hcB (fun h2 => ?_) fun h2 => hcB (fun h3 => ?_) fun h3 => ?_⟩
  ·refine ⟨a + 1,w1,hb_lt h1 (by decide),hl5,?_⟩
   rw [w1]
   exact word 2 (a + 1) (hb_lt h1 (by decide)) (by simp only [rAtom,pAtom,h1,cond_true]) _ _
  ·exact ⟨.inr rfl,a,rfl,ha,hl5,text h1 h2 _ _⟩
  ·have hr:rAtom s 16 a = .err a 5:=by simp only [rAtom,pAtom,h1,h2,h3,cond_true,cond_false]; rfl
   exact PH.i (herr a 5 hr _ _ F (Up.refl F))
  ·refine ⟨a,rfl,ha,hl5,?_⟩
   exact word 1 a ha (by simp only [rAtom,pAtom,h1,h2,h3,cond_false]) _ _
abbrev zrow:Row:=.lst 25 3 [.agg [.int .i64 0,.str [],.nils]]
abbrev erow (t:Tr) (x:Nat):Row:=.lst 25 3 [exprV t x]
noncomputable abbrev tm47 (i:Int):List AV:=[.ptr false 0 0 0,.any,.ptr false 1 0 0,.ptr false 2 0 0,.int .i64 i,.any,.any,.any,.any,.any,.any,.any,.any,.any,.any,.any,.any,.any,.any,.any,.any,.any,.any,.any,.any,.any,.any,.any,.any,.any,.any,.any,.any,.any,.any,.any,.any]
noncomputable abbrev fam47 (s:List UInt8) (N a:Nat) (t:Tr) (x:Nat):St:=⟨tm47 (markI (hbI s a)),[some (prow s a N),some zrow,some (erow t x)]⟩
noncomputable abbrev env47 (R:RR) (HP:HPt) (N:Nat):EnvX:=(envV R HP).addCall 52 (specP rAtom N HP)
theorem env47_ok {R:RR} (HP:HPt) {N:Nat} (hs:SafeP R 52 rAtom N):OKX Try.prog (env47 R HP N) [] HP :=
 (envV_ok R HP []).addCall (f:=52) (fi:=fi52) (by kernel_rfl) (specP_ok hs HP)
def lp47 (s:List UInt8) (N:Nat) (t:Tr) (x a:Nat) (st:St) (k:Exit -> St -> Fz -> Prop) (F:Fz):Prop :=
 st.tmps.length = 37 /\ nthV st.tmps 0 = .ptr false 0 0 0 /\ nthV st.tmps 2 = .ptr false 1 0 0 /\ nthV st.tmps 3 = .ptr false 2 0 0 /\ nthV st.tmps 4 = .int .i64 (markI (hbI s a)) /\ st.rows = [some (prow s a N),some zrow,some (erow t x)] /\ TAt F t x /\ a <= s.length /\
  ∀ X F',Up F F' -> TAt F' (pMarks s (s.length + 1) t a).1 X -> k .normal (fam47 s N (pMarks s (s.length + 1) t a).2 (pMarks s (s.length + 1) t a).1 X) F'
def lq47 (s:List UInt8) (N:Nat):LoopSpX:=fun st k F => ∃ (t:Tr) (x a:Nat),lp47 s N t x a st k F
noncomputable abbrev env47l (R:RR) (HP:HPt) (s:List UInt8) (N:Nat):EnvX:=(env47 R HP N).addLoop 47 0 (lq47 s N)
theorem vr47 (R:RR) (HP:HPt) (N:Nat) (s:List UInt8) (a:Nat) (t:Tr) (x:Nat) (k:Exit -> St -> Fz -> Prop) (F:Fz):rnx (env47 R HP N) 1000 47 (loopOf fi47 0) (fam47 s N a t x) k F = (bif decide (markI (hbI s (↑a:Int)) ≥ 0) then ((↑a:Int) - 0).NonNeg /\ bif hbI s (↑a:Int) != 0 then ∃ (a_1:Nat),IntKind.i64.wrap ((↑a:Int) + 1) = (↑a_1:Int) /\ a_1.le s.length /\ s.length.le 100000 /\ ((↑(scan isB s a_1):Int) - 0).NonNeg /\ MarksW [42,43,63] /\ (hbI s (↑(scan isB s a_1):Int) - 0).NonNeg /\ (255 - hbI s (↑(scan isB s a_1):Int)).NonNeg /\ k Exit.normal (St.mk [AV.ptr false 0 0 0,AV.any,AV.ptr false 1 0 0,AV.ptr false 2 0 0,iI (markI (hbI s (↑(scan isB s a_1):Int))),AV.any,AV.any,AV.any,AV.any,AV.any,AV.any,AV.any,iI (markI (hbI s (↑a:Int))),AV.bool (decide (markI (hbI s (↑a:Int)) ≥ 0)),AV.bool true,AV.ptr false 0 0 0,AV.int IntKind.u8 (hbI s (↑a:Int)),AV.bool (hbI s (↑a:Int) != 0),AV.bool true,AV.ptr false 0 0 0,AV.int IntKind.u8 (hbI s (↑(scan isB s a_1):Int)),iI (markI (hbI s (↑(scan isB s a_1):Int))),iI (markI (hbI s (↑a:Int))),iI (IntKind.i64.wrap (7 + markI (hbI s (↑a:Int)))),AV.agg [iI (↑t.kind:Int),AV.str t.word,AV.sl true (x + 15) 0 t.kids.length Cp.no],AV.sl false 3 0 1 Cp.tight,AV.agg [iI (IntKind.i64.wrap (7 + markI (hbI s (↑a:Int)))),AV.str [],AV.sl false 3 0 1 Cp.tight],AV.ptr false 0 0 0,AV.ptr false 0 0 0,AV.ptr false 0 0 1,iI (↑a:Int),iI (IntKind.i64.wrap ((↑a:Int) + 1)),AV.ptr false 0 0 0,AV.ptr false 0 0 1,AV.ptr false 0 0 0,AV.tup [],AV.any] [some (Row.lst 52 3 [AV.agg [AV.str s,iI (↑(scan isB s a_1):Int),iI (↑N:Int)]]),some (Row.lst 25 3 [AV.agg [iI 0,AV.str [],AV.nils]]),some (Row.lst 25 3 [AV.agg [iI (IntKind.i64.wrap (7 + markI (hbI s (↑a:Int)))),AV.str [],AV.sl false 3 0 1 Cp.tight]]),some (Row.lst 25 3 [AV.agg [iI (↑t.kind:Int),AV.str t.word,AV.sl true (x + 15) 0 t.kids.length Cp.no]])]) F else k (Exit.exit 0) (St.mk [AV.ptr false 0 0 0,AV.any,AV.ptr false 1 0 0,AV.ptr false 2 0 0,iI (markI (hbI s (↑a:Int))),AV.any,AV.any,AV.any,AV.any,AV.any,AV.any,AV.any,iI (markI (hbI s (↑a:Int))),AV.bool (decide (markI (hbI s (↑a:Int)) ≥ 0)),AV.bool true,AV.ptr false 0 0 0,AV.int IntKind.u8 (hbI s (↑a:Int)),AV.bool (hbI s (↑a:Int) != 0),AV.bool false,AV.any,AV.any,AV.any,AV.any,AV.any,AV.any,AV.any,AV.any,AV.any,AV.any,AV.any,AV.any,AV.any,AV.any,AV.any,AV.any,AV.any,AV.any] [some (Row.lst 52 3 [AV.agg [AV.str s,iI (↑a:Int),iI (↑N:Int)]]),some (Row.lst 25 3 [AV.agg [iI 0,AV.str [],AV.nils]]),some (Row.lst 25 3 [AV.agg [iI (↑t.kind:Int),AV.str t.word,AV.sl true (x + 15) 0 t.kids.length Cp.no]])]) F else k (Exit.exit 0) (St.mk [AV.ptr false 0 0 0,AV.any,AV.ptr false 1 0 0,AV.ptr false 2 0 0,iI (markI (hbI s (↑a:Int))),AV.any,AV.any,AV.any,AV.any,AV.any,AV.any,AV.any,iI (markI (hbI s (↑a:Int))),AV.bool (decide (markI (hbI s (↑a:Int)) ≥ 0)),AV.bool false,AV.tup [],AV.tup [],AV.tup [],AV.bool false,AV.any,AV.any,AV.any,AV.any,AV.any,AV.any,AV.any,AV.any,AV.any,AV.any,AV.any,AV.any,AV.any,AV.any,AV.any,AV.any,AV.any,AV.any] [some (Row.lst 52 3 [AV.agg [AV.str s,iI (↑a:Int),iI (↑N:Int)]]),some (Row.lst 25 3 [AV.agg [iI 0,AV.str [],AV.nils]]),some (Row.lst 25 3 [AV.agg [iI (↑t.kind:Int),AV.str t.word,AV.sl true (x + 15) 0 t.kids.length Cp.no]])]) F):=by kernel_rfl
theorem vc47 (R:RR) (HP:HPt) (N:Nat) (s:List UInt8) (a:Nat) (k:AV -> Rows -> Fz -> Prop) (F:Fz):vcx (env47l R HP s N) 1000 47 fi47 [.ptr false 0 0 0] [some (prow s a N)] k F = (∃ (a_1:Nat),∃ (n:Nat),(↑a:Int) = (↑a_1:Int) /\ (↑N:Int) = (↑n:Int) /\ a_1.le s.length /\ s.length.le 256 /\ n = N /\ (∀ (t:Tr) (a':Nat),rAtom s n a_1 = PR.ok t a' -> ∀ (x:Nat) (F':Fz),Up F F' -> TAt F' t x -> ∃ (a:Nat),(↑a':Int) = (↑a:Int) /\ a.le s.length /\ s.length.le 100000 /\ ((↑(scan isB s a):Int) - 0).NonNeg /\ MarksW [42,43,63] /\ (hbI s (↑(scan isB s a):Int) - 0).NonNeg /\ (255 - hbI s (↑(scan isB s a):Int)).NonNeg /\ ∃ (t_1:Tr),∃ (x_1:Nat),∃ (a_2:Nat),37 = 37 /\ AV.ptr false 0 0 0 = AV.ptr false 0 0 0 /\ AV.ptr false 1 0 0 = AV.ptr false 1 0 0 /\ AV.ptr false 2 0 0 = AV.ptr false 2 0 0 /\ iI (markI (hbI s (↑(scan isB s a):Int))) = iI (markI (hbI s (↑a_2:Int))) /\ [some (Row.lst 52 3 [AV.agg [AV.str s,iI (↑(scan isB s a):Int),iI (↑n:Int)]]),some (Row.lst 25 3 [AV.agg [iI 0,AV.str [],AV.nils]]),some (Row.lst 25 3 [AV.agg [iI (↑t.kind:Int),AV.str t.word,AV.sl true (x + 15) 0 t.kids.length Cp.no]])] = [some (Row.lst 52 3 [AV.agg [AV.str s,iI (↑a_2:Int),iI (↑N:Int)]]),some (Row.lst 25 3 [AV.agg [iI 0,AV.str [],AV.nils]]),some (Row.lst 25 3 [AV.agg [iI (↑t_1.kind:Int),AV.str t_1.word,AV.sl true (x_1 + 15) 0 t_1.kids.length Cp.no]])] /\ TAt F' t_1 x_1 /\ a_2.le s.length /\ ∀ (X:Nat) (F'_1:Fz),Up F' F'_1 -> TAt F'_1 (pMarks s (s.length + 1) t_1 a_2).fst X -> k (AV.agg [iI (↑(pMarks s (s.length + 1) t_1 a_2).fst.kind:Int),AV.str (pMarks s (s.length + 1) t_1 a_2).fst.word,AV.sl true (X + 15) 0 (pMarks s (s.length + 1) t_1 a_2).fst.kids.length Cp.no]) [some (Row.lst 52 3 [AV.agg [AV.str s,iI (↑(pMarks s (s.length + 1) t_1 a_2).snd:Int),iI (↑N:Int)]]),some (Row.lst 25 3 [AV.agg [iI (↑(pMarks s (s.length + 1) t_1 a_2).fst.kind:Int),AV.str (pMarks s (s.length + 1) t_1 a_2).fst.word,AV.sl true (X + 15) 0 (pMarks s (s.length + 1) t_1 a_2).fst.kids.length Cp.no]]),some (Row.lst 25 3 [AV.agg [iI (↑(pMarks s (s.length + 1) t_1 a_2).fst.kind:Int),AV.str (pMarks s (s.length + 1) t_1 a_2).fst.word,AV.sl true (X + 15) 0 (pMarks s (s.length + 1) t_1 a_2).fst.kids.length Cp.no]])] F'_1) /\ ∀ (e c:Nat),rAtom s n a_1 = PR.err e c -> ∀ (a' n':Int) (F':Fz),Up F F' -> HP (AV.ifc 48 (AV.agg [iI (↑e:Int),iI (↑c:Int)])) [some (Row.lst 52 3 [AV.agg [AV.str s,iI a',iI n']]),some (Row.lst 25 3 [AV.agg [iI 0,AV.str [],AV.nils]])] F'):=by kernel_rfl
theorem markI_of {c:Int}:(markI c = -1 /\ markOf c = none) \/ ∃ k:Nat,k <= 2 /\ markI c = k /\ markOf c = some k /\ c ≠ 0:=by
 unfold markI markOf
 by_cases h1:c = 42
 ·subst h1; exact .inr ⟨0,by omega,rfl,rfl,by decide⟩
 ·by_cases h2:c = 43
  ·subst h2; exact .inr ⟨1,by omega,rfl,rfl,by decide⟩
  ·by_cases h3:c = 63
   ·subst h3; exact .inr ⟨2,by omega,rfl,rfl,by decide⟩
   ·have e1:(c == 42) = false:=by simpa using h1
    have e2:(c == 43) = false:=by simpa using h2
    have e3:(c == 63) = false:=by simpa using h3
    rw [e1,e2,e3]
    exact .inl ⟨rfl,rfl⟩
theorem tm47_spr (i:Int):tm47 i = spr [(0,.ptr false 0 0 0),(2,.ptr false 1 0 0),(3,.ptr false 2 0 0),(4,.int .i64 i)] 0 37:=by kernel_rfl
theorem erow_g (t:Tr) (x:Nat):RowG (erow t x):=.lst1' rfl rfl
theorem zrow_g:RowG zrow:=.lst1' rfl rfl
theorem rowG3 {r1 r2 r3:Row} (h1:RowG r1) (h2:RowG r2) (h3:RowG r3):∀ c r,Rows.live [some r1,some r2,some r3] c = some r -> RowV some 3 r r:=by
 intro c r h
 match c with
 | 0 => simp [Rows.live] at h; subst h; exact h1.vw _ _
 | 1 => simp [Rows.live] at h; subst h; exact h2.vw _ _
 | 2 => simp [Rows.live] at h; subst h; exact h3.vw _ _
 | c + 3 => simp [Rows.live] at h
theorem Fit.row3 {r1 r2 r3:Row} {T T':List AV} {tl:Rows} (h1:RowG r1) (h2:RowG r2) (h3:RowG r3) (hT:VwL some 3 T T'):Fit 3 ⟨T,[some r1,some r2,some r3]⟩ ⟨T',some r1 :: some r2 :: some r3 :: tl⟩ :=
 Fit.pre (L:=[some r1,some r2,some r3]) (rowG3 h1 h2 h3) hT
theorem RoOf.kid1 (t:Tr) (x:Nat):RoOf (.lst 25 3 [exprV t x]) (kidR [(t,x)]) where
 ty:=rfl
 esz:=rfl
 len:=Nat.le_refl _
 get:=fun i hi => by
  have:i = 0:=by have:i < 1:=hi; omega
  subst this; rfl
 gtk:=fun i hi a ha => by
  have:i = 0:=by have:i < 1:=hi; omega
  subst this
  simp only [List.getD_cons_zero,exprV,AV.cells,List.mem_cons,List.not_mem_nil,or_false] at ha
  rcases ha with rfl | rfl | rfl
  ·trivial
  ·trivial
  ·exact ⟨x,rfl⟩
theorem RoOf.kids (l:List (Tr × Nat)):RoOf (.gen 25 3 l.length fun i => exprV (l.getD i dT).1 (l.getD i dT).2) (kidR l):=RoOf.gen fun i hi a ha => by
 simp only [exprV,AV.cells,List.mem_cons,List.not_mem_nil,or_false] at ha
 rcases ha with rfl | rfl | rfl
 ·trivial
 ·trivial
 ·exact ⟨_,rfl⟩
def Inv47 (s:List UInt8) (N:Nat) (T:Tr × Nat) (f:Nat) (st:St) (F:Fz):Prop:=∃ (t:Tr) (x a:Nat),st = fam47 s N a t x /\ TAt F t x /\ a <= s.length /\ s.length < f + a /\ pMarks s f t a = T
theorem loop47 (R:RR) (HP:HPt) (N:Nat) (hs:SafeP R 52 rAtom N) (s:List UInt8) (hl:s.length <= 256):∀ st k F,lq47 s N st k F -> SafeX Try.prog R [] (.block 0 (.loop (loopOf fi47 0))) st F k HP:=by
 rintro ⟨TM,rows⟩ k F ⟨t,x,a,h0,h1,h2,h3,h4,h5,hx,ha,hk⟩
 simp only at h0 h1 h2 h3 h4 h5
 subst h5
 refine SafeX.loop_block (Inv:=fun f st F' => Up F F' /\ Inv47 s N (pMarks s (s.length + 1) t a) f st F') ?_ ?_
 ·refine ToX.fit (stE:=fam47 s N a t x) (Fit.row3 (tl:=[]) (prow_g _ _ _) zrow_g (erow_g t x) ?_) (ToX.here ⟨s.length + 1,Up.refl F,t,x,a,rfl,hx,ha,by omega,rfl⟩)
  rw [tm47_spr]
  exact VwL.ofKnown h0 ⟨by rw [h1]; exact Vw.ptrI (by decide) rfl,by rw [h2]; exact Vw.ptrI (by decide) rfl,by rw [h3]; exact Vw.ptrI (by decide) rfl,by rw [h4]; exact Vw.intI,trivial⟩
 ·rintro f st' F' ⟨hu,t',x',a',rfl,hx',ha',hf,hT⟩
  obtain ⟨f,rfl⟩:∃ g,f = g + 1:=⟨f - 1,by omega⟩
  refine SafeX.by mixed (env47_ok HP hs) (f:=47) (fi:=fi47) (i:=0) (by kernel_rfl) (b:=.loop (loopOf fi47 0)) (by kernel_rfl) (subs_loop _) 1000 (vr47 R HP N s a' t' x' _ F') ?_
  have hst:∀ TM',VwL some 3 (tm47 (markI (hbI s a'))) TM' -> markOf (hbI s a') = none -> ToX R [] 3 ⟨TM',[some (prow s a' N),some zrow,some (erow t' x')]⟩ F' fun st3 F3 => k .normal st3 F3:=by
   intro TM' hv hm
   refine ToX.fit (stE:=fam47 s N a' t' x') (Fit.row3 (tl:=[]) (prow_g _ _ _) zrow_g (erow_g t' x') hv) (ToX.here ?_)
   have e:pMarks s (f + 1) t' a' = (t',a'):=by simp only [pMarks,hm]
   rw [e] at hT
   have:=hk x' F' hu
   rw [<- hT] at this
   exact this hx'
  rcases markI_of (c:=hbI s a') with ⟨hm,hn⟩ | ⟨kk,hk2,hm,hn,hc0⟩
  ·refine hcF (by rw [hm]; decide) ?_
   exact hst _ (by (repeat' (first | with_reducible exact VwL.nil | with_reducible refine VwL.cons ?_ ?_ | with_reducible exact Vw.anyI | with_reducible exact Vw.strI | with_reducible exact Vw.boolI | with_reducible exact Vw.intI | with_reducible exact Vw.nilsI | exact Vw.ptrI (by simp) rfl | exact Vw.slI (by simp) rfl | with_reducible refine Vw.aggI ?_ | exact Vw.gndI rfl))) hn
  ·have hlt:=markOf_lt hn
   refine hcT (by rw [hm]; simp) ⟨nn _,hcT (by rw [bneB]; simpa using hc0) ⟨a' + 1,wrapSucc _ (by omega),hlt.1,show s.length <= 100000 by omega,nn _,⟨rfl⟩,(hbI_nn _ _).1,?_,?_⟩⟩
   ·have:=(hbI_nn s (scan isB s (a' + 1):Nat)).2
    show (hbI s (scan isB s (a' + 1):Nat)) <= 255
    exact this
   ·rw [hm]
    have e7:IntKind.i64.wrap (7 + (kk:Int)) = ((7 + kk:Nat):Int):=by rw [wrapI64 _ (by omega) (by omega)]; omega
    rw [e7]
    show ToX R [] 3 _ F' _
    have hb:=blk_le (s:=s) (a:=a' + 1) hlt.1
    have hge:=blk_ge (s:=s) (a' + 1)
    refine ToX.fit (stE:=⟨tm47 (markI (hbI s (blk s (a' + 1):Nat))),[some (prow s (blk s (a' + 1):Nat) N),some zrow,some (.lst 25 3 [.agg [.int .i64 ((7 + kk:Nat):Int),.str [],.sl false 3 0 1 .tight]]),some (.lst 25 3 [exprV t' x'])]⟩) ⟨some,⟨View.of ?_ (fun c c' b _ _ h1 h2 => by cases h1; cases h2; rfl),by (repeat' (first | with_reducible exact VwL.nil | with_reducible refine VwL.cons ?_ ?_ | with_reducible exact Vw.anyI | with_reducible exact Vw.strI | with_reducible exact Vw.boolI | with_reducible exact Vw.intI | with_reducible exact Vw.nilsI | exact Vw.ptrI (by simp) rfl | exact Vw.slI (by simp) rfl | with_reducible refine Vw.aggI ?_ | exact Vw.gndI rfl))⟩,fun _ _ => rfl,by simp⟩ ?_
    ·intro c o ho
     match c with
     | 0 => cases ho; exact ViewL.at_ (b:=0) rfl rfl ((prow_g _ _ _).vw _ _)
     | 1 => cases ho; exact ViewL.at_ (b:=1) rfl rfl (zrow_g.vw _ _)
     | 2 => cases ho; exact ViewL.at_ (b:=2) rfl rfl (.lst1 rfl (Vw.aggI (by (repeat' (first | with_reducible exact VwL.nil | with_reducible refine VwL.cons ?_ ?_ | with_reducible exact Vw.anyI | with_reducible exact Vw.strI | with_reducible exact Vw.boolI | with_reducible exact Vw.intI | with_reducible exact Vw.nilsI | exact Vw.ptrI (by simp) rfl | exact Vw.slI (by simp) rfl | with_reducible refine Vw.aggI ?_ | exact Vw.gndI rfl)))))
     | 3 => cases ho; exact ViewL.at_ (b:=3) rfl rfl ((erow_g t' x').vw _ _)
     | c + 4 => cases ho
    ·refine ToX.freeze 3 rfl (RoOf.kid1 t' x') fun F2 y hle hfz => ?_
     refine ToX.fit (stE:=fam47 s N (blk s (a' + 1)) (.mk (7 + kk) [] [t']) y) (Fit.row3 (tl:=[none]) (prow_g _ _ _) zrow_g (erow_g _ _) ?_) (ToX.here ⟨f,Nat.lt_succ_self f,hu.trans ⟨hle⟩,_,y,_,rfl,⟨?_⟩,hb,by omega,?_⟩)
     ·show VwL some 3 _ ((tm47 _).map (tk2 3 y))
      simp only [tm47,List.map_cons,List.map_nil,tk2,tkE,tk1]
      (repeat' (first | with_reducible exact VwL.nil | with_reducible refine VwL.cons ?_ ?_ | with_reducible exact Vw.anyI | with_reducible exact Vw.strI | with_reducible exact Vw.boolI | with_reducible exact Vw.intI | with_reducible exact Vw.nilsI | exact Vw.ptrI (by simp) rfl | exact Vw.slI (by simp) rfl | with_reducible refine Vw.aggI ?_ | exact Vw.gndI rfl))
     ·exact IsT.of (l:=[(t',x')]) hfz (by simpa using IsT.le hle _ _ hx'.is)
     ·have e:pMarks s (f + 1) t' a' = pMarks s f (.mk (7 + kk) [] [t']) (blk s (a' + 1)):=by simp only [pMarks,hn]
      rw [<- hT,e]
theorem env47l_ok {R:RR} (HP:HPt) {N:Nat} (hs:SafeP R 52 rAtom N) (s:List UInt8) (hl:s.length <= 256):OKX Try.prog (env47l R HP s N) [] HP :=
 (env47_ok HP hs).addLoop (f:=47) (fi:=fi47) (by kernel_rfl) (i:=0) (body:=.loop (loopOf fi47 0)) (by kernel_rfl) (loop47 R HP N hs s hl)
def rItem (s:List UInt8) (n a:Nat):PR:=pItem s n (pAltD s (16 - n)) a
theorem safe47 (R:RR) (N:Nat) (hs:SafeP R 52 rAtom N):SafeP R 47 rItem N:=by
 intro s a F ha hl HP k hok herr
 refine SafeCallX.row1 ?_
 refine SafeCallX.by mixed (env47l_ok _ hs s hl) (f:=47) (fi:=fi47) (by kernel_rfl) 1000 (vc47 R _ N s a _ F) ⟨a,N,rfl,rfl,ha,hl,rfl,?_,?_⟩
 ·intro t a' ht x F' hu hx
  have hr:rItem s N a = .ok (pMarks s (s.length + 1) t (blk s a')).1 (pMarks s (s.length + 1) t (blk s a')).2:=by
   have ht':pAtom s N (pAltD s (16 - N)) a = .ok t a':=ht
   simp only [rItem,pItem,ht',PR.bind]
  have hg:=pAtom_goes (pAltD_goes (16 - N)) ha ht
  refine ⟨a',rfl,hg.2,show s.length <= 100000 by omega,nn _,⟨rfl⟩,(hbI_nn _ _).1,(hbI_nn s (scan isB s a':Nat)).2,t,x,blk s a',rfl,rfl,rfl,rfl,rfl,rfl,hx,blk_le hg.2,?_⟩
  intro X F2 hu2 hX
  exact PQ.i rfl (hok _ _ hr X F2 (hu.trans hu2) hX)
 ·intro e c he a' n' F' hu
  have he':pAtom s N (pAltD s (16 - N)) a = .err e c:=he
  have hr:rItem s N a = .err e c:=by simp only [rItem,pItem,he',PR.bind]
  exact PH.i (herr e c hr _ _ F' hu)
abbrev krow (l:List (Tr × Nat)):Row:=.gen 25 3 l.length fun i => exprV (l.getD i dT).1 (l.getD i dT).2
noncomputable abbrev tm39 (n:Nat):List AV:=[.ptr false 0 0 0,.any,.ptr false 1 0 0,.sl false 3 0 n .no,.any,.any,.any,.any,.any,.any,.any,.any,.any,.any,.any,.any,.any,.any,.any]
noncomputable abbrev fam39 (s:List UInt8) (N a:Nat) (l:List (Tr × Nat)):St:=⟨tm39 l.length,[some (prow s a N),some zrow,none,some (krow l)]⟩
noncomputable abbrev env39 (R:RR) (HP:HPt) (N:Nat):EnvX:=(envV R HP).addCall 47 (specP rItem N HP)
theorem env39_ok {R:RR} (HP:HPt) {N:Nat} (hs:SafeP R 47 rItem N):OKX Try.prog (env39 R HP N) [] HP :=
 (envV_ok R HP []).addCall (f:=47) (fi:=fi47) (by kernel_rfl) (specP_ok hs HP)
structure TAts (F:Fz) (l:List (Tr × Nat)):Prop where
 is:∀ p ∈ l,IsT F p.1 p.2
theorem TAts.le {F F':Fz} {l:List (Tr × Nat)} (h:TAts F l) (hu:Up F F'):TAts F' l:=⟨fun p hp => IsT.le hu.le _ _ (h.is p hp)⟩
theorem TAts.snoc {F:Fz} {l:List (Tr × Nat)} {t:Tr} {x:Nat} (h:TAts F l) (ht:TAt F t x):TAts F (l ++ [(t,x)]):=⟨fun p hp => by
 rcases List.mem_append.1 hp with hp | hp
 ·exact h.is p hp
 ·simp only [List.mem_singleton] at hp; subst hp; exact ht.is⟩
theorem krow_g (l:List (Tr × Nat)):RowG (krow l):=⟨fun f n => .gen rfl fun i _ => ⟨rfl,gnd_vw _ _ _ rfl⟩,fun g => rfl⟩
theorem krow_app {f:Nat -> Option Nat} {n:Nat} (l:List (Tr × Nat)) (t:Tr) (x:Nat):RowV f n (krow (l ++ [(t,x)])) (.gen 25 3 (l.length + 1) fun j => bif j.blt l.length then exprV (l.getD (0 + j) dT).1 (l.getD (0 + j) dT).2 else (Src.lst [exprV t x]).at_ (j - l.length)):=by
 refine .gen (by simp) fun i hi => ⟨rfl,?_⟩
 have hi:i < l.length + 1:=by simpa using hi
 have:=app_gen (F:=fun j => exprV (l.getD j dT).1 (l.getD j dT).2) (G:=fun i => exprV ((l ++ [(t,x)]).getD i dT).1 ((l ++ [(t,x)]).getD i dT).2) (n:=l.length) (e:=exprV t x) (fun j hj => by
  simp only [Nat.zero_add]
  rw [List.getD_eq_getElem?_getD,List.getD_eq_getElem?_getD,List.getElem?_append_left hj]) (by simp) i hi
 rw [this]
 exact gnd_vw _ _ _ rfl
def lpK (tmsz kt:Nat) (others:List AV -> Prop) (s:List UInt8) (N:Nat) (out:Nat -> List (Tr × Nat) -> St) (rest:List Tr -> Nat -> PR) (HP:HPt) (kd:Nat):LoopSpX:=fun st k F => ∃ (t:Tr) (x a:Nat),
 st.tmps.length = tmsz /\ nthV st.tmps kt = .sl false 2 0 1 .tight /\ others st.tmps /\ st.rows = [some (prow s a N),some zrow,some (erow t x)] /\ TAt F t x /\ a <= s.length /\
  (∀ L A F',Up F F' -> rest [t] a = .ok (rowT kd (L.map Prod.fst)) A -> TAts F' L -> k .normal (out A L) F') /\
  (∀ e c,rest [t] a = .err e c -> ∀ (a' n':Int) (tl:Rows) F',Up F F' -> HP (fault (e:Nat) (c:Nat)) (some (prow s a' n') :: tl) F')
def rSeqs (s:List UInt8) (N:Nat) (l:List Tr) (a:Nat):PR:=pSeqs s N (pAltD s (16 - N)) (s.length + 1) l a
noncomputable abbrev env39l (R:RR) (HP:HPt) (s:List UInt8) (N:Nat):EnvX:=(env39 R HP N).addLoop 39 0 (lpK 19 3 (fun T => nthV T 0 = .ptr false 0 0 0 /\ nthV T 2 = .ptr false 1 0 0) s N (fam39 s N) (rSeqs s N) HP 4)
theorem vr39 (R:RR) (HP:HPt) (N:Nat) (s:List UInt8) (a:Nat) (l:List (Tr × Nat)) (k:Exit -> St -> Fz -> Prop) (F:Fz):rnx (env39 R HP N) 1000 39 (loopOf fi39 0) (fam39 s N a l) k F = (((↑a:Int) - 0).NonNeg /\ bif begins (hbI s (↑a:Int)) then ∃ (a_1:Nat),∃ (n:Nat),(↑a:Int) = (↑a_1:Int) /\ (↑N:Int) = (↑n:Int) /\ a_1.le s.length /\ s.length.le 256 /\ n = N /\ (∀ (t:Tr) (a':Nat),rItem s n a_1 = PR.ok t a' -> ∀ (x:Nat) (F':Fz),Up F F' -> TAt F' t x -> bif decide (0 + l.length <= l.length) && (true && (true && decide (((Src.gen l.length fun (j:Nat) => exprV (l.getD (0 + j) dT).fst (l.getD (0 + j) dT).snd).len + 1) * 48 <= 140737488355328))) then k Exit.normal (St.mk [AV.ptr false 0 0 0,AV.any,AV.ptr false 1 0 0,AV.sl false 5 0 ((Src.gen l.length fun (j:Nat) => exprV (l.getD (0 + j) dT).fst (l.getD (0 + j) dT).snd).len + 1) Cp.no,AV.any,AV.any,AV.any,AV.any,AV.any,AV.ptr false 0 0 0,AV.int IntKind.u8 (hbI s (↑a:Int)),AV.bool true,AV.sl false 3 0 l.length Cp.no,AV.ptr false 0 0 0,AV.agg [iI (↑t.kind:Int),AV.str t.word,AV.sl true (x + 15) 0 t.kids.length Cp.no],AV.sl false 4 0 1 Cp.tight,AV.sl false 5 0 ((Src.gen l.length fun (j:Nat) => exprV (l.getD (0 + j) dT).fst (l.getD (0 + j) dT).snd).len + 1) Cp.no,AV.any,AV.any] [some (Row.lst 52 3 [AV.agg [AV.str s,iI (↑a':Int),iI (↑n:Int)]]),some (Row.lst 25 3 [AV.agg [iI 0,AV.str [],AV.nils]]),none,none,some (Row.lst 25 3 [AV.agg [iI (↑t.kind:Int),AV.str t.word,AV.sl true (x + 15) 0 t.kids.length Cp.no]]),some (Row.gen 25 3 ((Src.gen l.length fun (j:Nat) => exprV (l.getD (0 + j) dT).fst (l.getD (0 + j) dT).snd).len + 1) fun (j:Nat) => bif j.blt (Src.gen l.length fun (j:Nat) => exprV (l.getD (0 + j) dT).fst (l.getD (0 + j) dT).snd).len then AV.agg [iI (↑(l.getD (0 + j) dT).fst.kind:Int),AV.str (l.getD (0 + j) dT).fst.word,AV.sl true ((l.getD (0 + j) dT).snd + 15) 0 (l.getD (0 + j) dT).fst.kids.length Cp.no] else (Src.lst [AV.agg [iI (↑t.kind:Int),AV.str t.word,AV.sl true (x + 15) 0 t.kids.length Cp.no]]).at_ (j - (Src.gen l.length fun (j:Nat) => exprV (l.getD (0 + j) dT).fst (l.getD (0 + j) dT).snd).len))]) F' else False) /\ ∀ (e c:Nat),rItem s n a_1 = PR.err e c -> ∀ (a' n':Int) (F':Fz),Up F F' -> HP (AV.ifc 48 (AV.agg [iI (↑e:Int),iI (↑c:Int)])) [some (Row.lst 52 3 [AV.agg [AV.str s,iI a',iI n']]),some (Row.lst 25 3 [AV.agg [iI 0,AV.str [],AV.nils]]),none,some (Row.gen 25 3 l.length fun (i:Nat) => exprV (l.getD i dT).fst (l.getD i dT).snd)] F' else k (Exit.exit 0) (St.mk [AV.ptr false 0 0 0,AV.any,AV.ptr false 1 0 0,AV.sl false 3 0 l.length Cp.no,AV.any,AV.any,AV.any,AV.any,AV.any,AV.ptr false 0 0 0,AV.int IntKind.u8 (hbI s (↑a:Int)),AV.bool false,AV.any,AV.any,AV.any,AV.any,AV.any,AV.any,AV.any] [some (Row.lst 52 3 [AV.agg [AV.str s,iI (↑a:Int),iI (↑N:Int)]]),some (Row.lst 25 3 [AV.agg [iI 0,AV.str [],AV.nils]]),none,some (Row.gen 25 3 l.length fun (i:Nat) => exprV (l.getD i dT).fst (l.getD i dT).snd)]) F):=by kernel_rfl
theorem vc39 (R:RR) (HP:HPt) (N:Nat) (s:List UInt8) (a:Nat) (k:AV -> Rows -> Fz -> Prop) (F:Fz):vcx (env39l R HP s N) 1000 39 fi39 [.ptr false 0 0 0] [some (prow s a N)] k F = (∃ (a_1:Nat),(↑a:Int) = (↑a_1:Int) /\ a_1.le s.length /\ s.length.le 100000 /\ ∃ (a:Nat),∃ (n:Nat),(↑(scan isB s a_1):Int) = (↑a:Int) /\ (↑N:Int) = (↑n:Int) /\ a.le s.length /\ s.length.le 256 /\ n = N /\ (∀ (t:Tr) (a':Nat),rItem s n a = PR.ok t a' -> ∀ (x:Nat) (F':Fz),Up F F' -> TAt F' t x -> ∃ (t_1:Tr),∃ (x_1:Nat),∃ (a:Nat),19 = 19 /\ AV.sl false 2 0 1 Cp.tight = AV.sl false 2 0 1 Cp.tight /\ (AV.ptr false 0 0 0 = AV.ptr false 0 0 0 /\ AV.ptr false 1 0 0 = AV.ptr false 1 0 0) /\ [some (Row.lst 52 3 [AV.agg [AV.str s,iI (↑a':Int),iI (↑n:Int)]]),some (Row.lst 25 3 [AV.agg [iI 0,AV.str [],AV.nils]]),some (Row.lst 25 3 [AV.agg [iI (↑t.kind:Int),AV.str t.word,AV.sl true (x + 15) 0 t.kids.length Cp.no]])] = [some (Row.lst 52 3 [AV.agg [AV.str s,iI (↑a:Int),iI (↑N:Int)]]),some (Row.lst 25 3 [AV.agg [iI 0,AV.str [],AV.nils]]),some (Row.lst 25 3 [AV.agg [iI (↑t_1.kind:Int),AV.str t_1.word,AV.sl true (x_1 + 15) 0 t_1.kids.length Cp.no]])] /\ TAt F' t_1 x_1 /\ a.le s.length /\ (∀ (L:List (Tr × Nat)) (A:Nat) (F'_1:Fz),Up F' F'_1 -> rSeqs s N [t_1] a = PR.ok (rowT 4 (List.map Prod.fst L)) A -> TAts F'_1 L -> bif (↑L.length:Int) == 1 then bif true && decide (0 < (↑L.length:Int)) then bif decide (0 < L.length) then k (AV.agg [iI (↑(L.getD (0 + Int.toNat 0) dT).fst.kind:Int),AV.str (L.getD (0 + Int.toNat 0) dT).fst.word,AV.sl true ((L.getD (0 + Int.toNat 0) dT).snd + 15) 0 (L.getD (0 + Int.toNat 0) dT).fst.kids.length Cp.no]) [some (Row.lst 52 3 [AV.agg [AV.str s,iI (↑A:Int),iI (↑N:Int)]]),some (Row.lst 25 3 [AV.agg [iI (↑(L.getD (0 + Int.toNat 0) dT).fst.kind:Int),AV.str (L.getD (0 + Int.toNat 0) dT).fst.word,AV.sl true ((L.getD (0 + Int.toNat 0) dT).snd + 15) 0 (L.getD (0 + Int.toNat 0) dT).fst.kids.length Cp.no]]),none,some (Row.gen 25 3 L.length fun (i:Nat) => exprV (L.getD i dT).fst (L.getD i dT).snd),some (Row.lst 25 3 [AV.agg [iI (↑(L.getD (0 + Int.toNat 0) dT).fst.kind:Int),AV.str (L.getD (0 + Int.toNat 0) dT).fst.word,AV.sl true ((L.getD (0 + Int.toNat 0) dT).snd + 15) 0 (L.getD (0 + Int.toNat 0) dT).fst.kids.length Cp.no]])] F'_1 else False else False else k (AV.agg [iI 4,AV.str [],AV.sl false 3 0 L.length Cp.no]) [some (Row.lst 52 3 [AV.agg [AV.str s,iI (↑A:Int),iI (↑N:Int)]]),some (Row.lst 25 3 [AV.agg [iI 4,AV.str [],AV.sl false 3 0 L.length Cp.no]]),none,some (Row.gen 25 3 L.length fun (i:Nat) => exprV (L.getD i dT).fst (L.getD i dT).snd),some (Row.lst 25 3 [AV.agg [iI 4,AV.str [],AV.sl false 3 0 L.length Cp.no]])] F'_1) /\ ∀ (e c:Nat),rSeqs s N [t_1] a = PR.err e c -> ∀ (a' n':Int) (tl:Rows) (F'_1:Fz),Up F' F'_1 -> HP (AV.ifc 48 (AV.agg [iI (↑e:Int),iI (↑c:Int)])) (some (Row.lst 52 3 [AV.agg [AV.str s,iI a',iI n']]) :: tl) F'_1) /\ ∀ (e c:Nat),rItem s n a = PR.err e c -> ∀ (a' n':Int) (F':Fz),Up F F' -> HP (AV.ifc 48 (AV.agg [iI (↑e:Int),iI (↑c:Int)])) [some (Row.lst 52 3 [AV.agg [AV.str s,iI a',iI n']]),some (Row.lst 25 3 [AV.agg [iI 0,AV.str [],AV.nils]])] F'):=by kernel_rfl
theorem tm39_spr (n:Nat):tm39 n = spr [(0,.ptr false 0 0 0),(2,.ptr false 1 0 0),(3,.sl false 3 0 n .no)] 0 19:=by kernel_rfl
abbrev PQ3 (k:AV -> Rows -> Fz -> Prop):AV -> Rows -> Fz -> Prop:=fun v h F => ∃ (b:Nat) (s:List UInt8) (i j kd:Int) (w:List UInt8) (l:List (Tr × Nat)) (tl:Rows),h = some (prow s i j) :: tl /\ Rows.live tl b = some (krow l) /\ v = .agg [.int .i64 kd,.str w,.sl false (b + 1) 0 l.length .no] /\
 ∀ F' x,Up F F' -> Frz F' x (kidR l) -> k (.agg [.int .i64 kd,.str w,tok x l.length]) [some (prow s i j)] F'
theorem PQ3.to {R:RR} {k:AV -> Rows -> Fz -> Prop} {v:AV} {h:Rows} {F:Fz} (hq:PQ3 k v h F):ToV R 1 v h F k:=by
 obtain ⟨b,s,i,j,kd,w,l,tl,rfl,hb,rfl,hk⟩:=hq
 refine ToV.freeze (b + 1) (r:=krow l) hb (RoOf.kids l) fun F' x hle hfz => ?_
 have e:tk2 (b + 1) x (.agg [.int .i64 kd,.str w,.sl false (b + 1) 0 l.length .no]) = .agg [.int .i64 kd,.str w,tok x l.length]:=by
  simp only [tk2,tkE,tk1,List.map_cons,List.map_nil,Nat.beq_refl,cond_true]
 rw [e]
 exact ToV.fit (vE:=.agg [.int .i64 kd,.str w,tok x l.length]) (hE:=[some (prow s i j)]) (FitV.row1 (prow_g s i j) rfl) (ToV.here (hk F' x ⟨hle⟩ hfz))
theorem SafeCallX.row3 {R:RR} {f:FuncId} {args:List AV} {r:Row} {F:Fz} {k:AV -> Rows -> Fz -> Prop} {HP:HPt} (hs:SafeCallX Try.prog R f args [some r] F (fun v h F => PQ k v h F \/ PQ3 k v h F) (PH HP)):SafeCallX Try.prog R f args [some r] F k HP:=by
 refine SafeCallX.post hs ?_ ?_
 ·rintro v h' F' _ (⟨r',tl,rfl,hg,⟨hv,hk⟩ | ⟨a,b,rfl,ha,hb,hk⟩⟩ | h3)
  ·exact ToV.fit (FitV.row1 hg hv) (ToV.here hk)
  ·exact ToV.fit (FitV.row1 hg (by simp [gnd,gndL,ha,hb])) (ToV.nils hk)
  ·exact h3.to
 ·rintro v h' F' _ ⟨r',tl,rfl,hg,hv,hk⟩
  exact ToV.fit (FitV.row1 hg hv) (ToV.here hk)
theorem rowT_many {kd:Nat} {l:List Tr} (h:l.length ≠ 1):rowT kd l = .mk kd [] l:=by
 match l with
 | [] => rfl
 | [t] => exact absurd rfl h
 | t :: u :: l => rfl
def InvK (s:List UInt8) (N:Nat) (out:Nat -> List (Tr × Nat) -> St) (rest:Nat -> List Tr -> Nat -> PR) (RES:PR) (f:Nat) (st:St) (F:Fz):Prop:=∃ (l:List (Tr × Nat)) (a:Nat),st = out a l /\ TAts F l /\ l.length <= a + 1 /\ a <= s.length /\ s.length < f + a /\ rest f (l.map Prod.fst) a = RES
theorem rows4_view {f:Nat -> Option Nat} {s:List UInt8} {i j:Int} {r1 rk rk':Row} {o2:Option Row} {b:Nat} {tl:Rows} (f0:f 0 = some 0) (f1:f 1 = some 1) (f3:f 3 = some b) (h1:RowG r1) (hb:2 <= b) (hr:Rows.live (some (prow s i j) :: some r1 :: o2 :: tl) b = some rk') (hk:RowV f 4 rk rk') :
  ViewW f [some (prow s i j),some r1,none,some rk] (some (prow s i j) :: some r1 :: o2 :: tl) where
 inj:=fun c c' d r r' hc hc' hd hd' => by
  have key:∀ c r,Rows.live [some (prow s i j),some r1,none,some rk] c = some r -> c = 0 \/ c = 1 \/ c = 3:=by
   intro c r h
   match c with
   | 0 => exact .inl rfl
   | 1 => exact .inr (.inl rfl)
   | 2 => simp [Rows.live] at h
   | 3 => exact .inr (.inr rfl)
   | c + 4 => simp [Rows.live] at h
  rcases key c r hc with rfl | rfl | rfl <;> rcases key c' r' hc' with rfl | rfl | rfl <;> simp_all <;> omega
 row:=fun c r h => by
  match c with
  | 0 => simp [Rows.live] at h; subst h; exact .inl ⟨0,_,f0,rfl,(prow_g _ _ _).vw _ _⟩
  | 1 => simp [Rows.live] at h; subst h; exact .inl ⟨1,_,f1,rfl,h1.vw _ _⟩
  | 2 => simp [Rows.live] at h
  | 3 => simp [Rows.live] at h; subst h; exact .inl ⟨b,_,f3,hr,hk⟩
  | c + 4 => simp [Rows.live] at h
theorem kid1_row (f:Nat -> Option Nat) (n:Nat) (t:Tr) (x:Nat):RowV f n (krow [(t,x)]) (erow t x):=⟨rfl,rfl,rfl,fun i e he => by
 simp only [Row.get?] at he
 cases hb:Nat.blt i [(t,x)].length with
 | false => rw [hb] at he; cases he
 | true =>
  rw [hb] at he; cases he
  have:i = 0:=by have:=blt_of hb; simp at this; exact this
  subst this
  exact ⟨fun a ha => ones_mem (e:=exprV t x) rfl a ha,exprV t x,rfl,Vw.gndI rfl⟩⟩
theorem krow_view {f:Nat -> Option Nat} {s:List UInt8} {i j:Int} {l:List (Tr × Nat)}:∀ c r,Rows.live [some (prow s i j),some zrow,none,some (krow l)] c = some r -> RowV f 4 r r:=by
 intro c r h
 match c with
 | 0 => simp [Rows.live] at h; subst h; exact (prow_g _ _ _).vw _ _
 | 1 => simp [Rows.live] at h; subst h; exact zrow_g.vw _ _
 | 2 => simp [Rows.live] at h
 | 3 => simp [Rows.live] at h; subst h; exact (krow_g l).vw _ _
 | c + 4 => simp [Rows.live] at h
theorem loop39 (R:RR) (HP:HPt) (N:Nat) (hs:SafeP R 47 rItem N) (s:List UInt8) (hl:s.length <= 256):∀ st k F,lpK 19 3 (fun T => nthV T 0 = .ptr false 0 0 0 /\ nthV T 2 = .ptr false 1 0 0) s N (fam39 s N) (rSeqs s N) HP 4 st k F -> SafeX Try.prog R [] (.block 0 (.loop (loopOf fi39 0))) st F k HP:=by
 rintro ⟨TM,rows⟩ k F ⟨t,x,a,h0,h3,⟨h1,h2⟩,h5,hx,ha,hk,herr⟩
 simp only at h0 h1 h2 h3 h5
 subst h5
 refine SafeX.loop_block (Inv:=fun f st F' => Up F F' /\ InvK s N (fam39 s N) (pSeqs s N (pAltD s (16 - N))) (rSeqs s N [t] a) f st F') ?_ ?_
 ·refine ToX.fitW (stE:=fam39 s N a [(t,x)]) (dupR 2 3) (rows4_view (b:=2) rfl rfl rfl zrow_g (by decide) rfl (kid1_row _ _ t x)) ?_ (fun c hc => ?_) (by simp) (ToX.here ⟨s.length + 1,Up.refl F,[(t,x)],a,rfl,⟨by simpa using hx.is⟩,by simp,ha,by omega,rfl⟩)
  ·show VwL _ 4 (tm39 1) TM
   rw [tm39_spr]
   exact VwL.ofKnown h0 ⟨by rw [h1]; exact Vw.ptrI (by decide) rfl,by rw [h2]; exact Vw.ptrI (by decide) rfl,by rw [h3]; exact Vw.slE (by decide) rfl,trivial⟩
  ·match c with
   | 0 => rfl
   | 1 => rfl
   | 2 => rfl
   | c + 3 => simp at hc; omega
 ·rintro f st' F' ⟨hu,l,a',rfl,hls,hla,ha',hf,hT⟩
  obtain ⟨f,rfl⟩:∃ g,f = g + 1:=⟨f - 1,by omega⟩
  have hT0:pSeqs s N (pAltD s (16 - N)) (f + 1) (l.map Prod.fst) a' = bif begins (hbI s a') then (pItem s N (pAltD s (16 - N)) a').bind fun t a1 => pSeqs s N (pAltD s (16 - N)) f (l.map Prod.fst ++ [t]) a1 else .ok (rowT 4 (l.map Prod.fst)) a':=rfl
  rw [hT0] at hT
  refine SafeX.by mixed (env39_ok HP hs) (f:=39) (fi:=fi39) (i:=0) (by kernel_rfl) (b:=.loop (loopOf fi39 0)) (by kernel_rfl) (subs_loop _) 1000 (vr39 R HP N s a' l _ F') ⟨nn _,hcB (fun hb => ?_) fun hb => ?_⟩
  ·rw [hb] at hT
   simp only [cond_true] at hT
   refine ⟨a',N,rfl,rfl,ha',hl,rfl,?_,?_⟩
   ·intro t2 a2 ht2 x2 F2 hu2 hx2
    have ht2':pItem s N (pAltD s (16 - N)) a' = .ok t2 a2:=ht2
    rw [ht2'] at hT
    simp only [PR.bind] at hT
    have hg:=pItem_goes (pAltD_goes (16 - N)) ha' ht2'
    refine hcT (capOK (by omega)) ?_
    refine ToX.fitW (stE:=fam39 s N a2 (l ++ [(t2,x2)])) (mvR 3 5) (rows4_view (b:=5) rfl rfl rfl zrow_g (by decide) rfl (krow_app l t2 x2)) ?_ (mvR_lt (n:=3) (by decide)) (by simp) (ToX.here ⟨f,Nat.lt_succ_self f,hu.trans hu2,l ++ [(t2,x2)],a2,rfl,(hls.le hu2).snoc hx2,by simp; omega,hg.2,by omega,by rw [List.map_append]; exact hT⟩)
    have e:(l ++ [(t2,x2)]).length = l.length + 1:=by simp
    show VwL (mvR 3 5) 4 (tm39 (l ++ [(t2,x2)]).length) _
    rw [e]
    (repeat' (first | with_reducible exact VwL.nil | with_reducible refine VwL.cons ?_ ?_ | with_reducible exact Vw.anyI | with_reducible exact Vw.strI | with_reducible exact Vw.boolI | with_reducible exact Vw.intI | with_reducible exact Vw.nilsI | exact Vw.ptrI (by simp) rfl | exact Vw.slI (by simp) rfl | with_reducible refine Vw.aggI ?_ | exact Vw.gndI rfl))
   ·intro e c he a2 n2 F2 hu2
    have he':pItem s N (pAltD s (16 - N)) a' = .err e c:=he
    rw [he'] at hT
    exact herr e c hT.symm _ _ _ F2 (hu.trans hu2)
  ·rw [hb] at hT
   simp only [cond_false] at hT
   refine ToX.fit (stE:=fam39 s N a' l) ⟨some,⟨View.preX (L:=[some (prow s a' N),some zrow,none,some (krow l)]) (tl:=[]) krow_view,by (repeat' (first | with_reducible exact VwL.nil | with_reducible refine VwL.cons ?_ ?_ | with_reducible exact Vw.anyI | with_reducible exact Vw.strI | with_reducible exact Vw.boolI | with_reducible exact Vw.intI | with_reducible exact Vw.nilsI | exact Vw.ptrI (by simp) rfl | exact Vw.slI (by simp) rfl | with_reducible refine Vw.aggI ?_ | exact Vw.gndI rfl))⟩,fun _ _ => rfl,by simp⟩ (ToX.here ?_)
   exact hk l a' F' hu hT.symm hls
theorem env39l_ok {R:RR} (HP:HPt) {N:Nat} (hs:SafeP R 47 rItem N) (s:List UInt8) (hl:s.length <= 256):OKX Try.prog (env39l R HP s N) [] HP :=
 (env39_ok HP hs).addLoop (f:=39) (fi:=fi39) (by kernel_rfl) (i:=0) (body:=.loop (loopOf fi39 0)) (by kernel_rfl) (loop39 R HP N hs s hl)
def rSeq (s:List UInt8) (n a:Nat):PR:=pSeq s n (pAltD s (16 - n)) a
theorem one_of {L:List (Tr × Nat)} (h:((L.length:Int) == 1) = true):∃ p,L = [p]:=by
 have h:(L.length:Int) = 1:=by simpa using h
 match L with
 | [] => simp at h
 | [p] => exact ⟨p,rfl⟩
 | p :: q :: L => simp at h; omega
theorem safe39 (R:RR) (N:Nat) (hs:SafeP R 47 rItem N):SafeP R 39 rSeq N:=by
 intro s a F ha hl HP k hok herr
 refine SafeCallX.row3 ?_
 have hb1:=blk_le (s:=s) ha
 refine SafeCallX.by mixed (env39l_ok _ hs s hl) (f:=39) (fi:=fi39) (by kernel_rfl) 1000 (vc39 R _ N s a _ F) ⟨a,rfl,ha,show s.length <= 100000 by omega,blk s a,N,rfl,rfl,hb1,hl,rfl,?_,?_⟩
 ·intro t a' ht x F' hu hx
  have ht':pItem s N (pAltD s (16 - N)) (blk s a) = .ok t a':=ht
  have hr:rSeq s N a = rSeqs s N [t] a':=by simp only [rSeq,pSeq,ht',PR.bind,rSeqs]
  have hg:=pItem_goes (pAltD_goes (16 - N)) hb1 ht'
  refine ⟨t,x,a',rfl,rfl,⟨rfl,rfl⟩,rfl,hx,hg.2,?_,?_⟩
  ·intro L A F2 hu2 hA hL
   rw [<- hr] at hA
   refine hcB (fun h1 => ?_) fun h1 => ?_
   ·obtain ⟨p,rfl⟩:=one_of h1
    refine hcT rfl (hcT rfl (.inl (PQ.i rfl ?_)))
    exact hok _ _ hA p.2 F2 (hu.trans hu2) ⟨hL.is p (by simp)⟩
   ·have hne:(L.map Prod.fst).length ≠ 1:=by
     intro e
     rw [List.length_map] at e
     rw [e] at h1
     exact absurd h1 (by decide)
    rw [rowT_many hne] at hA
    refine .inr ⟨2,s,(A:Nat),(N:Nat),4,[],L,_,rfl,rfl,rfl,fun F3 y hu3 hfz => ?_⟩
    have:=hok _ _ hA y F3 ((hu.trans hu2).trans hu3) ⟨IsT.of L hfz (hL.le hu3).is⟩
    simp only [exprV,Tr.kind,Tr.word,Tr.kids,List.length_map] at this
    exact this
  ·intro e c he a2 n2 tl F2 hu2
   rw [<- hr] at he
   exact PH.i (herr e c he _ _ F2 (hu.trans hu2))
 ·intro e c he a' n' F' hu
  have he':pItem s N (pAltD s (16 - N)) (blk s a) = .err e c:=he
  have hr:rSeq s N a = .err e c:=by simp only [rSeq,pSeq,he',PR.bind]
  exact PH.i (herr e c hr _ _ F' hu)
noncomputable abbrev tm29 (g:Nat) (kd sg:Int) (n:Nat):List AV:=[.ptr false 0 0 0,.int .i64 kd,.int .u8 sg,.fn g [.ptr false 0 0 0] [],.any,.any,.any,.any,.ptr false 2 0 0,.sl false 4 0 n .no,.any,.any,.any,.any,.any,.any,.any,.any,.any,.any,.any,.any,.any,.any,.any,.any,.any,.any,.any,.any,.any,.any]
noncomputable abbrev fam29 (g:Nat) (kd sg:Int) (s:List UInt8) (N a:Nat) (l:List (Tr × Nat)):St:=⟨tm29 g kd sg l.length,[some (prow s a N),some zrow,some zrow,none,some (krow l)]⟩
def lpJ (g:Nat) (kd:Nat) (sg:Int) (s:List UInt8) (N:Nat) (rest:List Tr -> Nat -> PR) (HP:HPt):LoopSpX:=fun st k F => ∃ (t:Tr) (x a:Nat),
 st.tmps.length = 32 /\ nthV st.tmps 0 = .ptr false 0 0 0 /\ nthV st.tmps 1 = .int .i64 (kd:Nat) /\ nthV st.tmps 2 = .int .u8 sg /\ nthV st.tmps 3 = .fn g [.ptr false 0 0 0] [] /\ nthV st.tmps 8 = .ptr false 2 0 0 /\ nthV st.tmps 9 = .sl false 3 0 1 .tight /\
 st.rows = [some (prow s a N),some zrow,some zrow,some (erow t x)] /\ TAt F t x /\ a <= s.length /\
  (∀ L A F',Up F F' -> rest [t] a = .ok (rowT kd (L.map Prod.fst)) A -> TAts F' L -> k .normal (fam29 g kd sg s N A L) F') /\
  (∀ e c,rest [t] a = .err e c -> ∀ (a' n':Int) (tl:Rows) F',Up F F' -> HP (fault (e:Nat) (c:Nat)) (some (prow s a' n') :: tl) F')
theorem rows5_view {f:Nat -> Option Nat} {s:List UInt8} {i j:Int} {rk rk':Row} {b:Nat} {tl:Rows} (f0:f 0 = some 0) (f1:f 1 = some 1) (f2:f 2 = some 2) (f4:f 4 = some b) (hb:3 <= b) (hr:Rows.live (some (prow s i j) :: some zrow :: some zrow :: tl) b = some rk') (hk:RowV f 5 rk rk') :
  ViewW f [some (prow s i j),some zrow,some zrow,none,some rk] (some (prow s i j) :: some zrow :: some zrow :: tl) where
 inj:=fun c c' d r r' hc hc' hd hd' => by
  have key:∀ c r,Rows.live [some (prow s i j),some zrow,some zrow,none,some rk] c = some r -> c = 0 \/ c = 1 \/ c = 2 \/ c = 4:=by
   intro c r h
   match c with
   | 0 => exact .inl rfl
   | 1 => exact .inr (.inl rfl)
   | 2 => exact .inr (.inr (.inl rfl))
   | 3 => simp [Rows.live] at h
   | 4 => exact .inr (.inr (.inr rfl))
   | c + 5 => simp [Rows.live] at h
  rcases key c r hc with rfl | rfl | rfl | rfl <;> rcases key c' r' hc' with rfl | rfl | rfl | rfl <;> simp_all <;> omega
 row:=fun c r h => by
  match c with
  | 0 => simp [Rows.live] at h; subst h; exact .inl ⟨0,_,f0,rfl,(prow_g _ _ _).vw _ _⟩
  | 1 => simp [Rows.live] at h; subst h; exact .inl ⟨1,_,f1,rfl,zrow_g.vw _ _⟩
  | 2 => simp [Rows.live] at h; subst h; exact .inl ⟨2,_,f2,rfl,zrow_g.vw _ _⟩
  | 3 => simp [Rows.live] at h
  | 4 => simp [Rows.live] at h; subst h; exact .inl ⟨b,_,f4,hr,hk⟩
  | c + 5 => simp [Rows.live] at h
theorem krow_view5 {f:Nat -> Option Nat} {s:List UInt8} {i j:Int} {l:List (Tr × Nat)}:∀ c r,Rows.live [some (prow s i j),some zrow,some zrow,none,some (krow l)] c = some r -> RowV f 5 r r:=by
 intro c r h
 match c with
 | 0 => simp [Rows.live] at h; subst h; exact (prow_g _ _ _).vw _ _
 | 1 => simp [Rows.live] at h; subst h; exact zrow_g.vw _ _
 | 2 => simp [Rows.live] at h; subst h; exact zrow_g.vw _ _
 | 3 => simp [Rows.live] at h
 | 4 => simp [Rows.live] at h; subst h; exact (krow_g l).vw _ _
 | c + 5 => simp [Rows.live] at h
def rAll (s:List UInt8) (n a:Nat):PR:=pAll s n (pAltD s (16 - n)) a
noncomputable abbrev env21 (R:RR) (HP:HPt) (N:Nat):EnvX:=(envV R HP).addCall 30 (specP rAll N HP)
theorem env21_ok {R:RR} (HP:HPt) {N:Nat} (hs:SafeP R 30 rAll N):OKX Try.prog (env21 R HP N) [] HP :=
 (envV_ok R HP []).addCall (f:=30) (fi:=fi30) (by kernel_rfl) (specP_ok hs HP)
noncomputable abbrev env30 (R:RR) (HP:HPt) (N:Nat):EnvX:=(envV R HP).addCall 39 (specP rSeq N HP)
theorem env30_ok {R:RR} (HP:HPt) {N:Nat} (hs:SafeP R 39 rSeq N):OKX Try.prog (env30 R HP N) [] HP :=
 (envV_ok R HP []).addCall (f:=39) (fi:=fi39) (by kernel_rfl) (specP_ok hs HP)
noncomputable abbrev env21l (R:RR) (HP:HPt) (s:List UInt8) (N:Nat):EnvX:=(env21 R HP N).addLoop 29 0 (lpJ 30 5 124 s N (pJoins s 124 5 (rAll s N) (s.length + 1)) HP)
noncomputable abbrev env30l (R:RR) (HP:HPt) (s:List UInt8) (N:Nat):EnvX:=(env30 R HP N).addLoop 29 0 (lpJ 39 6 38 s N (pJoins s 38 6 (rSeq s N) (s.length + 1)) HP)
theorem vr30 (R:RR) (HP:HPt) (N:Nat) (s:List UInt8) (a:Nat) (l:List (Tr × Nat)) (k:Exit -> St -> Fz -> Prop) (F:Fz):rnx (env30 R HP N) 1000 29 (loopOf fi29 0) (fam29 39 6 38 s N a l) k F = (((↑a:Int) - 0).NonNeg /\ bif hbI s (↑a:Int) == 38 then ∃ (a_1:Nat),∃ (n:Nat),IntKind.i64.wrap ((↑a:Int) + 1) = (↑a_1:Int) /\ (↑N:Int) = (↑n:Int) /\ a_1.le s.length /\ s.length.le 256 /\ n = N /\ (∀ (t:Tr) (a':Nat),rSeq s n a_1 = PR.ok t a' -> ∀ (x:Nat) (F':Fz),Up F F' -> TAt F' t x -> bif decide (0 + l.length <= l.length) && (true && (true && decide (((Src.gen l.length fun (j:Nat) => exprV (l.getD (0 + j) dT).fst (l.getD (0 + j) dT).snd).len + 1) * 48 <= 140737488355328))) then k Exit.normal (St.mk [AV.ptr false 0 0 0,iI 6,AV.int IntKind.u8 38,AV.fn 39 [AV.ptr false 0 0 0] [],AV.any,AV.any,AV.any,AV.any,AV.ptr false 2 0 0,AV.sl false 6 0 ((Src.gen l.length fun (j:Nat) => exprV (l.getD (0 + j) dT).fst (l.getD (0 + j) dT).snd).len + 1) Cp.no,AV.any,AV.any,AV.any,AV.ptr false 0 0 0,AV.int IntKind.u8 (hbI s (↑a:Int)),AV.int IntKind.u8 38,AV.bool true,AV.ptr false 0 0 0,AV.ptr false 0 0 0,AV.ptr false 0 0 1,iI (↑a:Int),iI (IntKind.i64.wrap ((↑a:Int) + 1)),AV.ptr false 0 0 0,AV.ptr false 0 0 1,AV.sl false 4 0 l.length Cp.no,AV.fn 39 [AV.ptr false 0 0 0] [],AV.agg [iI (↑t.kind:Int),AV.str t.word,AV.sl true (x + 15) 0 t.kids.length Cp.no],AV.sl false 5 0 1 Cp.tight,AV.sl false 6 0 ((Src.gen l.length fun (j:Nat) => exprV (l.getD (0 + j) dT).fst (l.getD (0 + j) dT).snd).len + 1) Cp.no,AV.any,AV.any,AV.any] [some (Row.lst 52 3 [AV.agg [AV.str s,iI (↑a':Int),iI (↑n:Int)]]),some (Row.lst 25 3 [AV.agg [iI 0,AV.str [],AV.nils]]),some (Row.lst 25 3 [AV.agg [iI 0,AV.str [],AV.nils]]),none,none,some (Row.lst 25 3 [AV.agg [iI (↑t.kind:Int),AV.str t.word,AV.sl true (x + 15) 0 t.kids.length Cp.no]]),some (Row.gen 25 3 ((Src.gen l.length fun (j:Nat) => exprV (l.getD (0 + j) dT).fst (l.getD (0 + j) dT).snd).len + 1) fun (j:Nat) => bif j.blt (Src.gen l.length fun (j:Nat) => exprV (l.getD (0 + j) dT).fst (l.getD (0 + j) dT).snd).len then AV.agg [iI (↑(l.getD (0 + j) dT).fst.kind:Int),AV.str (l.getD (0 + j) dT).fst.word,AV.sl true ((l.getD (0 + j) dT).snd + 15) 0 (l.getD (0 + j) dT).fst.kids.length Cp.no] else (Src.lst [AV.agg [iI (↑t.kind:Int),AV.str t.word,AV.sl true (x + 15) 0 t.kids.length Cp.no]]).at_ (j - (Src.gen l.length fun (j:Nat) => exprV (l.getD (0 + j) dT).fst (l.getD (0 + j) dT).snd).len))]) F' else False) /\ ∀ (e c:Nat),rSeq s n a_1 = PR.err e c -> ∀ (a' n':Int) (F':Fz),Up F F' -> HP (AV.ifc 48 (AV.agg [iI (↑e:Int),iI (↑c:Int)])) [some (Row.lst 52 3 [AV.agg [AV.str s,iI a',iI n']]),some (Row.lst 25 3 [AV.agg [iI 0,AV.str [],AV.nils]]),some (Row.lst 25 3 [AV.agg [iI 0,AV.str [],AV.nils]]),none,some (Row.gen 25 3 l.length fun (i:Nat) => exprV (l.getD i dT).fst (l.getD i dT).snd)] F' else k (Exit.exit 0) (St.mk [AV.ptr false 0 0 0,iI 6,AV.int IntKind.u8 38,AV.fn 39 [AV.ptr false 0 0 0] [],AV.any,AV.any,AV.any,AV.any,AV.ptr false 2 0 0,AV.sl false 4 0 l.length Cp.no,AV.any,AV.any,AV.any,AV.ptr false 0 0 0,AV.int IntKind.u8 (hbI s (↑a:Int)),AV.int IntKind.u8 38,AV.bool false,AV.any,AV.any,AV.any,AV.any,AV.any,AV.any,AV.any,AV.any,AV.any,AV.any,AV.any,AV.any,AV.any,AV.any,AV.any] [some (Row.lst 52 3 [AV.agg [AV.str s,iI (↑a:Int),iI (↑N:Int)]]),some (Row.lst 25 3 [AV.agg [iI 0,AV.str [],AV.nils]]),some (Row.lst 25 3 [AV.agg [iI 0,AV.str [],AV.nils]]),none,some (Row.gen 25 3 l.length fun (i:Nat) => exprV (l.getD i dT).fst (l.getD i dT).snd)]) F):=by kernel_rfl
theorem vc30 (R:RR) (HP:HPt) (N:Nat) (s:List UInt8) (a:Nat) (k:AV -> Rows -> Fz -> Prop) (F:Fz):vcx (env30l R HP s N) 1000 30 fi30 [.ptr false 0 0 0] [some (prow s a N)] k F = (∃ (a_1:Nat),∃ (n:Nat),(↑a:Int) = (↑a_1:Int) /\ (↑N:Int) = (↑n:Int) /\ a_1.le s.length /\ s.length.le 256 /\ n = N /\ (∀ (t:Tr) (a':Nat),rSeq s n a_1 = PR.ok t a' -> ∀ (x:Nat) (F':Fz),Up F F' -> TAt F' t x -> ∃ (t_1:Tr),∃ (x_1:Nat),∃ (a:Nat),32 = 32 /\ AV.ptr false 0 0 0 = AV.ptr false 0 0 0 /\ iI 6 = iI 6 /\ AV.int IntKind.u8 38 = AV.int IntKind.u8 38 /\ AV.fn 39 [AV.ptr false 0 0 0] [] = AV.fn 39 [AV.ptr false 0 0 0] [] /\ AV.ptr false 2 0 0 = AV.ptr false 2 0 0 /\ AV.sl false 3 0 1 Cp.tight = AV.sl false 3 0 1 Cp.tight /\ [some (Row.lst 52 3 [AV.agg [AV.str s,iI (↑a':Int),iI (↑n:Int)]]),some (Row.lst 25 3 [AV.agg [iI 0,AV.str [],AV.nils]]),some (Row.lst 25 3 [AV.agg [iI 0,AV.str [],AV.nils]]),some (Row.lst 25 3 [AV.agg [iI (↑t.kind:Int),AV.str t.word,AV.sl true (x + 15) 0 t.kids.length Cp.no]])] = [some (Row.lst 52 3 [AV.agg [AV.str s,iI (↑a:Int),iI (↑N:Int)]]),some (Row.lst 25 3 [AV.agg [iI 0,AV.str [],AV.nils]]),some (Row.lst 25 3 [AV.agg [iI 0,AV.str [],AV.nils]]),some (Row.lst 25 3 [AV.agg [iI (↑t_1.kind:Int),AV.str t_1.word,AV.sl true (x_1 + 15) 0 t_1.kids.length Cp.no]])] /\ TAt F' t_1 x_1 /\ a.le s.length /\ (∀ (L:List (Tr × Nat)) (A:Nat) (F'_1:Fz),Up F' F'_1 -> pJoins s 38 6 (rSeq s N) (s.length + 1) [t_1] a = PR.ok (rowT 6 (List.map Prod.fst L)) A -> TAts F'_1 L -> bif (↑L.length:Int) == 1 then bif true && decide (0 < (↑L.length:Int)) then bif decide (0 < L.length) then k (AV.agg [iI (↑(L.getD (0 + Int.toNat 0) dT).fst.kind:Int),AV.str (L.getD (0 + Int.toNat 0) dT).fst.word,AV.sl true ((L.getD (0 + Int.toNat 0) dT).snd + 15) 0 (L.getD (0 + Int.toNat 0) dT).fst.kids.length Cp.no]) [some (Row.lst 52 3 [AV.agg [AV.str s,iI (↑A:Int),iI (↑N:Int)]]),some (Row.lst 25 3 [AV.agg [iI (↑(L.getD (0 + Int.toNat 0) dT).fst.kind:Int),AV.str (L.getD (0 + Int.toNat 0) dT).fst.word,AV.sl true ((L.getD (0 + Int.toNat 0) dT).snd + 15) 0 (L.getD (0 + Int.toNat 0) dT).fst.kids.length Cp.no]]),some (Row.lst 25 3 [AV.agg [iI (↑(L.getD (0 + Int.toNat 0) dT).fst.kind:Int),AV.str (L.getD (0 + Int.toNat 0) dT).fst.word,AV.sl true ((L.getD (0 + Int.toNat 0) dT).snd + 15) 0 (L.getD (0 + Int.toNat 0) dT).fst.kids.length Cp.no]]),none,some (Row.gen 25 3 L.length fun (i:Nat) => exprV (L.getD i dT).fst (L.getD i dT).snd),some (Row.lst 25 3 [AV.agg [iI (↑(L.getD (0 + Int.toNat 0) dT).fst.kind:Int),AV.str (L.getD (0 + Int.toNat 0) dT).fst.word,AV.sl true ((L.getD (0 + Int.toNat 0) dT).snd + 15) 0 (L.getD (0 + Int.toNat 0) dT).fst.kids.length Cp.no]])] F'_1 else False else False else k (AV.agg [iI 6,AV.str [],AV.sl false 4 0 L.length Cp.no]) [some (Row.lst 52 3 [AV.agg [AV.str s,iI (↑A:Int),iI (↑N:Int)]]),some (Row.lst 25 3 [AV.agg [iI 6,AV.str [],AV.sl false 4 0 L.length Cp.no]]),some (Row.lst 25 3 [AV.agg [iI 6,AV.str [],AV.sl false 4 0 L.length Cp.no]]),none,some (Row.gen 25 3 L.length fun (i:Nat) => exprV (L.getD i dT).fst (L.getD i dT).snd),some (Row.lst 25 3 [AV.agg [iI 6,AV.str [],AV.sl false 4 0 L.length Cp.no]])] F'_1) /\ ∀ (e c:Nat),pJoins s 38 6 (rSeq s N) (s.length + 1) [t_1] a = PR.err e c -> ∀ (a' n':Int) (tl:Rows) (F'_1:Fz),Up F' F'_1 -> HP (AV.ifc 48 (AV.agg [iI (↑e:Int),iI (↑c:Int)])) (some (Row.lst 52 3 [AV.agg [AV.str s,iI a',iI n']]) :: tl) F'_1) /\ ∀ (e c:Nat),rSeq s n a_1 = PR.err e c -> ∀ (a' n':Int) (F':Fz),Up F F' -> HP (AV.ifc 48 (AV.agg [iI (↑e:Int),iI (↑c:Int)])) [some (Row.lst 52 3 [AV.agg [AV.str s,iI a',iI n']]),some (Row.lst 25 3 [AV.agg [iI 0,AV.str [],AV.nils]]),some (Row.lst 25 3 [AV.agg [iI 0,AV.str [],AV.nils]])] F'):=by kernel_rfl
theorem tm30_spr (n:Nat):tm29 39 6 38 n = spr [(0,.ptr false 0 0 0),(1,.int .i64 6),(2,.int .u8 38),(3,.fn 39 [.ptr false 0 0 0] []),(8,.ptr false 2 0 0),(9,.sl false 4 0 n .no)] 0 32:=by kernel_rfl
theorem vfn30 {f:Nat -> Option Nat} {n:Nat} (hn:0 < n) (hf:f 0 = some 0):Vw f n (.fn 39 [.ptr false 0 0 0] []) (.fn 39 [.ptr false 0 0 0] []):=by
 simp only [Vw]
 exact ⟨_,_,rfl,VwL.cons (Vw.ptrI hn hf) VwL.nil,VwL.nil⟩
theorem loop30 (R:RR) (HP:HPt) (N:Nat) (hs:SafeP R 39 rSeq N) (s:List UInt8) (hl:s.length <= 256):∀ st k F,lpJ 39 6 38 s N (pJoins s 38 6 (rSeq s N) (s.length + 1)) HP st k F -> SafeX Try.prog R [] (.block 0 (.loop (loopOf fi29 0))) st F k HP:=by
 rintro ⟨TM,rows⟩ k F ⟨t,x,a,h0,h1,h2,h3,h4,h5,h6,h7,hx,ha,hk,herr⟩
 simp only at h0 h1 h2 h3 h4 h5 h6 h7
 subst h7
 have hP:Goes s (rSeq s N):=(pSeq_goes (pAltD_goes (16 - N)))
 refine SafeX.loop_block (Inv:=fun f st F' => Up F F' /\ InvK s N (fam29 39 6 38 s N) (fun f l a => pJoins s 38 6 (rSeq s N) f l a) (pJoins s 38 6 (rSeq s N) (s.length + 1) [t] a) f st F') ?_ ?_
 ·refine ToX.fitW (stE:=fam29 39 6 38 s N a [(t,x)]) (dupR 3 4) (rows5_view (b:=3) rfl rfl rfl rfl (by decide) rfl (kid1_row _ _ t x)) ?_ (fun c hc => ?_) (by simp) (ToX.here ⟨s.length + 1,Up.refl F,[(t,x)],a,rfl,⟨by simpa using hx.is⟩,by simp,ha,by omega,rfl⟩)
  ·show VwL _ 5 (tm29 39 6 38 1) TM
   rw [tm30_spr]
   exact VwL.ofKnown h0 ⟨by rw [h1]; exact Vw.ptrI (by decide) rfl,by rw [h2]; exact Vw.intI,by rw [h3]; exact Vw.intI,by rw [h4]; exact vfn30 (by decide) rfl,by rw [h5]; exact Vw.ptrI (by decide) rfl,by rw [h6]; exact Vw.slE (by decide) rfl,trivial⟩
  ·match c with
   | 0 => rfl
   | 1 => rfl
   | 2 => rfl
   | 3 => rfl
   | c + 4 => simp at hc; omega
 ·rintro f st' F' ⟨hu,l,a',rfl,hls,hla,ha',hf,hT⟩
  obtain ⟨f,rfl⟩:∃ g,f = g + 1:=⟨f - 1,by omega⟩
  have hT0:pJoins s 38 6 (rSeq s N) (f + 1) (l.map Prod.fst) a' = bif hbI s a' == 38 then (rSeq s N (a' + 1)).bind fun t a1 => pJoins s 38 6 (rSeq s N) f (l.map Prod.fst ++ [t]) a1 else .ok (rowT 6 (l.map Prod.fst)) a':=rfl
  simp only [] at hT
  rw [hT0] at hT
  refine SafeX.by mixed (env30_ok HP hs) (f:=29) (fi:=fi29) (i:=0) (by kernel_rfl) (b:=.loop (loopOf fi29 0)) (by kernel_rfl) (subs_loop _) 1000 (vr30 R HP N s a' l _ F') ⟨nn _,hcB (fun hb => ?_) fun hb => ?_⟩
  ·rw [hb] at hT
   simp only [cond_true] at hT
   have hlt:=hb_lt hb (by decide)
   refine ⟨a' + 1,N,wrapSucc _ (by omega),rfl,hlt,hl,rfl,?_,?_⟩
   ·intro t2 a2 ht2 x2 F2 hu2 hx2
    rw [ht2] at hT
    simp only [PR.bind] at hT
    have hg:=hP _ hlt _ _ ht2
    refine hcT (capOK (by omega)) ?_
    refine ToX.fitW (stE:=fam29 39 6 38 s N a2 (l ++ [(t2,x2)])) (mvR 4 6) (rows5_view (b:=6) rfl rfl rfl rfl (by decide) rfl (krow_app l t2 x2)) ?_ (mvR_lt (n:=4) (by decide)) (by simp) (ToX.here ⟨f,Nat.lt_succ_self f,hu.trans hu2,l ++ [(t2,x2)],a2,rfl,(hls.le hu2).snoc hx2,by simp; omega,hg.2,by omega,by rw [List.map_append]; exact hT⟩)
    have e:(l ++ [(t2,x2)]).length = l.length + 1:=by simp
    show VwL (mvR 4 6) 5 (tm29 39 6 38 (l ++ [(t2,x2)]).length) _
    rw [e]
    repeat' (first | with_reducible exact VwL.nil | with_reducible refine VwL.cons ?_ ?_ | with_reducible exact Vw.anyI | with_reducible exact Vw.intI | exact vfn30 (by simp) rfl | exact Vw.ptrI (by simp) rfl | exact Vw.slI (by simp) rfl)
   ·intro e c he a2 n2 F2 hu2
    rw [he] at hT
    exact herr e c hT.symm _ _ _ F2 (hu.trans hu2)
  ·rw [hb] at hT
   simp only [cond_false] at hT
   refine ToX.fit (stE:=fam29 39 6 38 s N a' l) ⟨some,⟨View.preX (L:=[some (prow s a' N),some zrow,some zrow,none,some (krow l)]) (tl:=[]) krow_view5,?_⟩,fun _ _ => rfl,by simp⟩ (ToX.here ?_)
   ·repeat' (first | with_reducible exact VwL.nil | with_reducible refine VwL.cons ?_ ?_ | with_reducible exact Vw.anyI | with_reducible exact Vw.intI | exact vfn30 (by simp) rfl | exact Vw.ptrI (by simp) rfl | exact Vw.slI (by simp) rfl)
   ·exact hk l a' F' hu hT.symm hls
theorem env30l_ok {R:RR} (HP:HPt) {N:Nat} (hs:SafeP R 39 rSeq N) (s:List UInt8) (hl:s.length <= 256):OKX Try.prog (env30l R HP s N) [] HP :=
 (env30_ok HP hs).addLoop (f:=29) (fi:=fi29) (by kernel_rfl) (i:=0) (body:=.loop (loopOf fi29 0)) (by kernel_rfl) (loop30 R HP N hs s hl)
theorem safe30 (R:RR) (N:Nat) (hs:SafeP R 39 rSeq N):SafeP R 30 rAll N:=by
 intro s a F ha hl HP k hok herr
 refine SafeCallX.row3 ?_
 have hr0:rAll s N a = pJoin s 38 6 (rSeq s N) a:=rfl
 refine SafeCallX.by mixed (env30l_ok _ hs s hl) (f:=30) (fi:=fi30) (by kernel_rfl) 1000 (vc30 R _ N s a _ F) ⟨a,N,rfl,rfl,ha,hl,rfl,?_,?_⟩
 ·intro t a' ht x F' hu hx
  have hr:rAll s N a = pJoins s 38 6 (rSeq s N) (s.length + 1) [t] a':=by rw [hr0]; simp only [pJoin,ht,PR.bind]
  have hg:=((pSeq_goes (pAltD_goes (16 - N))):Goes s (rSeq s N)) _ ha _ _ ht
  refine ⟨t,x,a',rfl,rfl,rfl,rfl,rfl,rfl,rfl,rfl,hx,hg.2,?_,?_⟩
  ·intro L A F2 hu2 hA hL
   rw [<- hr] at hA
   refine hcB (fun h1 => ?_) fun h1 => ?_
   ·obtain ⟨p,rfl⟩:=one_of h1
    refine hcT rfl (hcT rfl (.inl (PQ.i rfl ?_)))
    exact hok _ _ hA p.2 F2 (hu.trans hu2) ⟨hL.is p (by simp)⟩
   ·have hne:(L.map Prod.fst).length ≠ 1:=by
     intro e
     rw [List.length_map] at e
     rw [e] at h1
     exact absurd h1 (by decide)
    rw [rowT_many hne] at hA
    refine .inr ⟨3,s,(A:Nat),(N:Nat),6,[],L,_,rfl,rfl,rfl,fun F3 y hu3 hfz => ?_⟩
    have:=hok _ _ hA y F3 ((hu.trans hu2).trans hu3) ⟨IsT.of L hfz (hL.le hu3).is⟩
    simp only [exprV,Tr.kind,Tr.word,Tr.kids,List.length_map] at this
    exact this
  ·intro e c he a2 n2 tl F2 hu2
   rw [<- hr] at he
   exact PH.i (herr e c he _ _ F2 (hu.trans hu2))
 ·intro e c he a' n' F' hu
  have hr:rAll s N a = .err e c:=by rw [hr0]; simp only [pJoin,he,PR.bind]
  exact PH.i (herr e c hr _ _ F' hu)
theorem vr21 (R:RR) (HP:HPt) (N:Nat) (s:List UInt8) (a:Nat) (l:List (Tr × Nat)) (k:Exit -> St -> Fz -> Prop) (F:Fz):rnx (env21 R HP N) 1000 29 (loopOf fi29 0) (fam29 30 5 124 s N a l) k F = (((↑a:Int) - 0).NonNeg /\ bif hbI s (↑a:Int) == 124 then ∃ (a_1:Nat),∃ (n:Nat),IntKind.i64.wrap ((↑a:Int) + 1) = (↑a_1:Int) /\ (↑N:Int) = (↑n:Int) /\ a_1.le s.length /\ s.length.le 256 /\ n = N /\ (∀ (t:Tr) (a':Nat),rAll s n a_1 = PR.ok t a' -> ∀ (x:Nat) (F':Fz),Up F F' -> TAt F' t x -> bif decide (0 + l.length <= l.length) && (true && (true && decide (((Src.gen l.length fun (j:Nat) => exprV (l.getD (0 + j) dT).fst (l.getD (0 + j) dT).snd).len + 1) * 48 <= 140737488355328))) then k Exit.normal (St.mk [AV.ptr false 0 0 0,iI 5,AV.int IntKind.u8 124,AV.fn 30 [AV.ptr false 0 0 0] [],AV.any,AV.any,AV.any,AV.any,AV.ptr false 2 0 0,AV.sl false 6 0 ((Src.gen l.length fun (j:Nat) => exprV (l.getD (0 + j) dT).fst (l.getD (0 + j) dT).snd).len + 1) Cp.no,AV.any,AV.any,AV.any,AV.ptr false 0 0 0,AV.int IntKind.u8 (hbI s (↑a:Int)),AV.int IntKind.u8 124,AV.bool true,AV.ptr false 0 0 0,AV.ptr false 0 0 0,AV.ptr false 0 0 1,iI (↑a:Int),iI (IntKind.i64.wrap ((↑a:Int) + 1)),AV.ptr false 0 0 0,AV.ptr false 0 0 1,AV.sl false 4 0 l.length Cp.no,AV.fn 30 [AV.ptr false 0 0 0] [],AV.agg [iI (↑t.kind:Int),AV.str t.word,AV.sl true (x + 15) 0 t.kids.length Cp.no],AV.sl false 5 0 1 Cp.tight,AV.sl false 6 0 ((Src.gen l.length fun (j:Nat) => exprV (l.getD (0 + j) dT).fst (l.getD (0 + j) dT).snd).len + 1) Cp.no,AV.any,AV.any,AV.any] [some (Row.lst 52 3 [AV.agg [AV.str s,iI (↑a':Int),iI (↑n:Int)]]),some (Row.lst 25 3 [AV.agg [iI 0,AV.str [],AV.nils]]),some (Row.lst 25 3 [AV.agg [iI 0,AV.str [],AV.nils]]),none,none,some (Row.lst 25 3 [AV.agg [iI (↑t.kind:Int),AV.str t.word,AV.sl true (x + 15) 0 t.kids.length Cp.no]]),some (Row.gen 25 3 ((Src.gen l.length fun (j:Nat) => exprV (l.getD (0 + j) dT).fst (l.getD (0 + j) dT).snd).len + 1) fun (j:Nat) => bif j.blt (Src.gen l.length fun (j:Nat) => exprV (l.getD (0 + j) dT).fst (l.getD (0 + j) dT).snd).len then AV.agg [iI (↑(l.getD (0 + j) dT).fst.kind:Int),AV.str (l.getD (0 + j) dT).fst.word,AV.sl true ((l.getD (0 + j) dT).snd + 15) 0 (l.getD (0 + j) dT).fst.kids.length Cp.no] else (Src.lst [AV.agg [iI (↑t.kind:Int),AV.str t.word,AV.sl true (x + 15) 0 t.kids.length Cp.no]]).at_ (j - (Src.gen l.length fun (j:Nat) => exprV (l.getD (0 + j) dT).fst (l.getD (0 + j) dT).snd).len))]) F' else False) /\ ∀ (e c:Nat),rAll s n a_1 = PR.err e c -> ∀ (a' n':Int) (F':Fz),Up F F' -> HP (AV.ifc 48 (AV.agg [iI (↑e:Int),iI (↑c:Int)])) [some (Row.lst 52 3 [AV.agg [AV.str s,iI a',iI n']]),some (Row.lst 25 3 [AV.agg [iI 0,AV.str [],AV.nils]]),some (Row.lst 25 3 [AV.agg [iI 0,AV.str [],AV.nils]]),none,some (Row.gen 25 3 l.length fun (i:Nat) => exprV (l.getD i dT).fst (l.getD i dT).snd)] F' else k (Exit.exit 0) (St.mk [AV.ptr false 0 0 0,iI 5,AV.int IntKind.u8 124,AV.fn 30 [AV.ptr false 0 0 0] [],AV.any,AV.any,AV.any,AV.any,AV.ptr false 2 0 0,AV.sl false 4 0 l.length Cp.no,AV.any,AV.any,AV.any,AV.ptr false 0 0 0,AV.int IntKind.u8 (hbI s (↑a:Int)),AV.int IntKind.u8 124,AV.bool false,AV.any,AV.any,AV.any,AV.any,AV.any,AV.any,AV.any,AV.any,AV.any,AV.any,AV.any,AV.any,AV.any,AV.any,AV.any] [some (Row.lst 52 3 [AV.agg [AV.str s,iI (↑a:Int),iI (↑N:Int)]]),some (Row.lst 25 3 [AV.agg [iI 0,AV.str [],AV.nils]]),some (Row.lst 25 3 [AV.agg [iI 0,AV.str [],AV.nils]]),none,some (Row.gen 25 3 l.length fun (i:Nat) => exprV (l.getD i dT).fst (l.getD i dT).snd)]) F):=by kernel_rfl
theorem vc21 (R:RR) (HP:HPt) (N:Nat) (s:List UInt8) (a:Nat) (k:AV -> Rows -> Fz -> Prop) (F:Fz):vcx (env21l R HP s N) 1000 21 fi21 [.ptr false 0 0 0] [some (prow s a N)] k F = (∃ (a_1:Nat),∃ (n:Nat),(↑a:Int) = (↑a_1:Int) /\ (↑N:Int) = (↑n:Int) /\ a_1.le s.length /\ s.length.le 256 /\ n = N /\ (∀ (t:Tr) (a':Nat),rAll s n a_1 = PR.ok t a' -> ∀ (x:Nat) (F':Fz),Up F F' -> TAt F' t x -> ∃ (t_1:Tr),∃ (x_1:Nat),∃ (a:Nat),32 = 32 /\ AV.ptr false 0 0 0 = AV.ptr false 0 0 0 /\ iI 5 = iI 5 /\ AV.int IntKind.u8 124 = AV.int IntKind.u8 124 /\ AV.fn 30 [AV.ptr false 0 0 0] [] = AV.fn 30 [AV.ptr false 0 0 0] [] /\ AV.ptr false 2 0 0 = AV.ptr false 2 0 0 /\ AV.sl false 3 0 1 Cp.tight = AV.sl false 3 0 1 Cp.tight /\ [some (Row.lst 52 3 [AV.agg [AV.str s,iI (↑a':Int),iI (↑n:Int)]]),some (Row.lst 25 3 [AV.agg [iI 0,AV.str [],AV.nils]]),some (Row.lst 25 3 [AV.agg [iI 0,AV.str [],AV.nils]]),some (Row.lst 25 3 [AV.agg [iI (↑t.kind:Int),AV.str t.word,AV.sl true (x + 15) 0 t.kids.length Cp.no]])] = [some (Row.lst 52 3 [AV.agg [AV.str s,iI (↑a:Int),iI (↑N:Int)]]),some (Row.lst 25 3 [AV.agg [iI 0,AV.str [],AV.nils]]),some (Row.lst 25 3 [AV.agg [iI 0,AV.str [],AV.nils]]),some (Row.lst 25 3 [AV.agg [iI (↑t_1.kind:Int),AV.str t_1.word,AV.sl true (x_1 + 15) 0 t_1.kids.length Cp.no]])] /\ TAt F' t_1 x_1 /\ a.le s.length /\ (∀ (L:List (Tr × Nat)) (A:Nat) (F'_1:Fz),Up F' F'_1 -> pJoins s 124 5 (rAll s N) (s.length + 1) [t_1] a = PR.ok (rowT 5 (List.map Prod.fst L)) A -> TAts F'_1 L -> bif (↑L.length:Int) == 1 then bif true && decide (0 < (↑L.length:Int)) then bif decide (0 < L.length) then k (AV.agg [iI (↑(L.getD (0 + Int.toNat 0) dT).fst.kind:Int),AV.str (L.getD (0 + Int.toNat 0) dT).fst.word,AV.sl true ((L.getD (0 + Int.toNat 0) dT).snd + 15) 0 (L.getD (0 + Int.toNat 0) dT).fst.kids.length Cp.no]) [some (Row.lst 52 3 [AV.agg [AV.str s,iI (↑A:Int),iI (↑N:Int)]]),some (Row.lst 25 3 [AV.agg [iI (↑(L.getD (0 + Int.toNat 0) dT).fst.kind:Int),AV.str (L.getD (0 + Int.toNat 0) dT).fst.word,AV.sl true ((L.getD (0 + Int.toNat 0) dT).snd + 15) 0 (L.getD (0 + Int.toNat 0) dT).fst.kids.length Cp.no]]),some (Row.lst 25 3 [AV.agg [iI (↑(L.getD (0 + Int.toNat 0) dT).fst.kind:Int),AV.str (L.getD (0 + Int.toNat 0) dT).fst.word,AV.sl true ((L.getD (0 + Int.toNat 0) dT).snd + 15) 0 (L.getD (0 + Int.toNat 0) dT).fst.kids.length Cp.no]]),none,some (Row.gen 25 3 L.length fun (i:Nat) => exprV (L.getD i dT).fst (L.getD i dT).snd),some (Row.lst 25 3 [AV.agg [iI (↑(L.getD (0 + Int.toNat 0) dT).fst.kind:Int),AV.str (L.getD (0 + Int.toNat 0) dT).fst.word,AV.sl true ((L.getD (0 + Int.toNat 0) dT).snd + 15) 0 (L.getD (0 + Int.toNat 0) dT).fst.kids.length Cp.no]])] F'_1 else False else False else k (AV.agg [iI 5,AV.str [],AV.sl false 4 0 L.length Cp.no]) [some (Row.lst 52 3 [AV.agg [AV.str s,iI (↑A:Int),iI (↑N:Int)]]),some (Row.lst 25 3 [AV.agg [iI 5,AV.str [],AV.sl false 4 0 L.length Cp.no]]),some (Row.lst 25 3 [AV.agg [iI 5,AV.str [],AV.sl false 4 0 L.length Cp.no]]),none,some (Row.gen 25 3 L.length fun (i:Nat) => exprV (L.getD i dT).fst (L.getD i dT).snd),some (Row.lst 25 3 [AV.agg [iI 5,AV.str [],AV.sl false 4 0 L.length Cp.no]])] F'_1) /\ ∀ (e c:Nat),pJoins s 124 5 (rAll s N) (s.length + 1) [t_1] a = PR.err e c -> ∀ (a' n':Int) (tl:Rows) (F'_1:Fz),Up F' F'_1 -> HP (AV.ifc 48 (AV.agg [iI (↑e:Int),iI (↑c:Int)])) (some (Row.lst 52 3 [AV.agg [AV.str s,iI a',iI n']]) :: tl) F'_1) /\ ∀ (e c:Nat),rAll s n a_1 = PR.err e c -> ∀ (a' n':Int) (F':Fz),Up F F' -> HP (AV.ifc 48 (AV.agg [iI (↑e:Int),iI (↑c:Int)])) [some (Row.lst 52 3 [AV.agg [AV.str s,iI a',iI n']]),some (Row.lst 25 3 [AV.agg [iI 0,AV.str [],AV.nils]]),some (Row.lst 25 3 [AV.agg [iI 0,AV.str [],AV.nils]])] F'):=by kernel_rfl
theorem tm21_spr (n:Nat):tm29 30 5 124 n = spr [(0,.ptr false 0 0 0),(1,.int .i64 5),(2,.int .u8 124),(3,.fn 30 [.ptr false 0 0 0] []),(8,.ptr false 2 0 0),(9,.sl false 4 0 n .no)] 0 32:=by kernel_rfl
theorem vfn21 {f:Nat -> Option Nat} {n:Nat} (hn:0 < n) (hf:f 0 = some 0):Vw f n (.fn 30 [.ptr false 0 0 0] []) (.fn 30 [.ptr false 0 0 0] []):=by
 simp only [Vw]
 exact ⟨_,_,rfl,VwL.cons (Vw.ptrI hn hf) VwL.nil,VwL.nil⟩
theorem loop21 (R:RR) (HP:HPt) (N:Nat) (hs:SafeP R 30 rAll N) (s:List UInt8) (hl:s.length <= 256):∀ st k F,lpJ 30 5 124 s N (pJoins s 124 5 (rAll s N) (s.length + 1)) HP st k F -> SafeX Try.prog R [] (.block 0 (.loop (loopOf fi29 0))) st F k HP:=by
 rintro ⟨TM,rows⟩ k F ⟨t,x,a,h0,h1,h2,h3,h4,h5,h6,h7,hx,ha,hk,herr⟩
 simp only at h0 h1 h2 h3 h4 h5 h6 h7
 subst h7
 have hP:Goes s (rAll s N):=(pAll_goes (pAltD_goes (16 - N)))
 refine SafeX.loop_block (Inv:=fun f st F' => Up F F' /\ InvK s N (fam29 30 5 124 s N) (fun f l a => pJoins s 124 5 (rAll s N) f l a) (pJoins s 124 5 (rAll s N) (s.length + 1) [t] a) f st F') ?_ ?_
 ·refine ToX.fitW (stE:=fam29 30 5 124 s N a [(t,x)]) (dupR 3 4) (rows5_view (b:=3) rfl rfl rfl rfl (by decide) rfl (kid1_row _ _ t x)) ?_ (fun c hc => ?_) (by simp) (ToX.here ⟨s.length + 1,Up.refl F,[(t,x)],a,rfl,⟨by simpa using hx.is⟩,by simp,ha,by omega,rfl⟩)
  ·show VwL _ 5 (tm29 30 5 124 1) TM
   rw [tm21_spr]
   exact VwL.ofKnown h0 ⟨by rw [h1]; exact Vw.ptrI (by decide) rfl,by rw [h2]; exact Vw.intI,by rw [h3]; exact Vw.intI,by rw [h4]; exact vfn21 (by decide) rfl,by rw [h5]; exact Vw.ptrI (by decide) rfl,by rw [h6]; exact Vw.slE (by decide) rfl,trivial⟩
  ·match c with
   | 0 => rfl
   | 1 => rfl
   | 2 => rfl
   | 3 => rfl
   | c + 4 => simp at hc; omega
 ·rintro f st' F' ⟨hu,l,a',rfl,hls,hla,ha',hf,hT⟩
  obtain ⟨f,rfl⟩:∃ g,f = g + 1:=⟨f - 1,by omega⟩
  have hT0:pJoins s 124 5 (rAll s N) (f + 1) (l.map Prod.fst) a' = bif hbI s a' == 124 then (rAll s N (a' + 1)).bind fun t a1 => pJoins s 124 5 (rAll s N) f (l.map Prod.fst ++ [t]) a1 else .ok (rowT 5 (l.map Prod.fst)) a':=rfl
  simp only [] at hT
  rw [hT0] at hT
  refine SafeX.by mixed (env21_ok HP hs) (f:=29) (fi:=fi29) (i:=0) (by kernel_rfl) (b:=.loop (loopOf fi29 0)) (by kernel_rfl) (subs_loop _) 1000 (vr21 R HP N s a' l _ F') ⟨nn _,hcB (fun hb => ?_) fun hb => ?_⟩
  ·rw [hb] at hT
   simp only [cond_true] at hT
   have hlt:=hb_lt hb (by decide)
   refine ⟨a' + 1,N,wrapSucc _ (by omega),rfl,hlt,hl,rfl,?_,?_⟩
   ·intro t2 a2 ht2 x2 F2 hu2 hx2
    rw [ht2] at hT
    simp only [PR.bind] at hT
    have hg:=hP _ hlt _ _ ht2
    refine hcT (capOK (by omega)) ?_
    refine ToX.fitW (stE:=fam29 30 5 124 s N a2 (l ++ [(t2,x2)])) (mvR 4 6) (rows5_view (b:=6) rfl rfl rfl rfl (by decide) rfl (krow_app l t2 x2)) ?_ (mvR_lt (n:=4) (by decide)) (by simp) (ToX.here ⟨f,Nat.lt_succ_self f,hu.trans hu2,l ++ [(t2,x2)],a2,rfl,(hls.le hu2).snoc hx2,by simp; omega,hg.2,by omega,by rw [List.map_append]; exact hT⟩)
    have e:(l ++ [(t2,x2)]).length = l.length + 1:=by simp
    show VwL (mvR 4 6) 5 (tm29 30 5 124 (l ++ [(t2,x2)]).length) _
    rw [e]
    repeat' (first | with_reducible exact VwL.nil | with_reducible refine VwL.cons ?_ ?_ | with_reducible exact Vw.anyI | with_reducible exact Vw.intI | exact vfn21 (by simp) rfl | exact Vw.ptrI (by simp) rfl | exact Vw.slI (by simp) rfl)
   ·intro e c he a2 n2 F2 hu2
    rw [he] at hT
    exact herr e c hT.symm _ _ _ F2 (hu.trans hu2)
  ·rw [hb] at hT
   simp only [cond_false] at hT
   refine ToX.fit (stE:=fam29 30 5 124 s N a' l) ⟨some,⟨View.preX (L:=[some (prow s a' N),some zrow,some zrow,none,some (krow l)]) (tl:=[]) krow_view5,?_⟩,fun _ _ => rfl,by simp⟩ (ToX.here ?_)
   ·repeat' (first | with_reducible exact VwL.nil | with_reducible refine VwL.cons ?_ ?_ | with_reducible exact Vw.anyI | with_reducible exact Vw.intI | exact vfn21 (by simp) rfl | exact Vw.ptrI (by simp) rfl | exact Vw.slI (by simp) rfl)
   ·exact hk l a' F' hu hT.symm hls
theorem env21l_ok {R:RR} (HP:HPt) {N:Nat} (hs:SafeP R 30 rAll N) (s:List UInt8) (hl:s.length <= 256):OKX Try.prog (env21l R HP s N) [] HP :=
 (env21_ok HP hs).addLoop (f:=29) (fi:=fi29) (by kernel_rfl) (i:=0) (body:=.loop (loopOf fi29 0)) (by kernel_rfl) (loop21 R HP N hs s hl)
theorem safe21 (R:RR) (N:Nat) (hN:N <= 16) (hs:SafeP R 30 rAll N):SafeP R 21 rAlt N:=by
 intro s a F ha hl HP k hok herr
 refine SafeCallX.row3 ?_
 have hr0:rAlt s N a = pJoin s 124 5 (rAll s N) a:=by unfold rAlt; rw [show 17 - N = (16 - N) + 1 by omega]; show pAlt s (16 - (16 - N)) _ a = _; rw [show 16 - (16 - N) = N by omega]; rfl
 refine SafeCallX.by mixed (env21l_ok _ hs s hl) (f:=21) (fi:=fi21) (by kernel_rfl) 1000 (vc21 R _ N s a _ F) ⟨a,N,rfl,rfl,ha,hl,rfl,?_,?_⟩
 ·intro t a' ht x F' hu hx
  have hr:rAlt s N a = pJoins s 124 5 (rAll s N) (s.length + 1) [t] a':=by rw [hr0]; simp only [pJoin,ht,PR.bind]
  have hg:=((pAll_goes (pAltD_goes (16 - N))):Goes s (rAll s N)) _ ha _ _ ht
  refine ⟨t,x,a',rfl,rfl,rfl,rfl,rfl,rfl,rfl,rfl,hx,hg.2,?_,?_⟩
  ·intro L A F2 hu2 hA hL
   rw [<- hr] at hA
   refine hcB (fun h1 => ?_) fun h1 => ?_
   ·obtain ⟨p,rfl⟩:=one_of h1
    refine hcT rfl (hcT rfl (.inl (PQ.i rfl ?_)))
    exact hok _ _ hA p.2 F2 (hu.trans hu2) ⟨hL.is p (by simp)⟩
   ·have hne:(L.map Prod.fst).length ≠ 1:=by
     intro e
     rw [List.length_map] at e
     rw [e] at h1
     exact absurd h1 (by decide)
    rw [rowT_many hne] at hA
    refine .inr ⟨3,s,(A:Nat),(N:Nat),5,[],L,_,rfl,rfl,rfl,fun F3 y hu3 hfz => ?_⟩
    have:=hok _ _ hA y F3 ((hu.trans hu2).trans hu3) ⟨IsT.of L hfz (hL.le hu3).is⟩
    simp only [exprV,Tr.kind,Tr.word,Tr.kids,List.length_map] at this
    exact this
  ·intro e c he a2 n2 tl F2 hu2
   rw [<- hr] at he
   exact PH.i (herr e c he _ _ F2 (hu.trans hu2))
 ·intro e c he a' n' F' hu
  have hr:rAlt s N a = .err e c:=by rw [hr0]; simp only [pJoin,he,PR.bind]
  exact PH.i (herr e c hr _ _ F' hu)
theorem safe21_all (R:RR):∀ d N,N + d = 16 -> SafeP R 21 rAlt N
 | 0,N,h => safe21 R N (by omega) (safe30 R N (safe39 R N (safe47 R N (safe52 R N (by omega) fun h2 => absurd h2 (by omega)))))
 | d + 1,N,h => safe21 R N (by omega) (safe30 R N (safe39 R N (safe47 R N (safe52 R N (by omega) fun _ => safe21_all R d (N + 1) (by omega)))))
theorem safe21_0 (R:RR):SafeP R 21 rAlt 0:=safe21_all R 16 0 rfl
noncomputable def rest20:Code:=match fi20.body with | .seq _ c => c | _ => .skip
noncomputable def head20:Code:=match fi20.body with | .seq c _ => c | _ => .skip
theorem body20:fi20.body = .seq head20 rest20:=by kernel_rfl
noncomputable def rest10:Code:=match fi10.body with | .seq _ (.seq _ (.seq _ c)) => c | _ => .skip
noncomputable def def10:Code:=match fi10.body with | .seq _ (.seq _ (.seq c _)) => c | _ => .skip
noncomputable def chk10:Code:=match fi10.body with | .seq _ (.seq c _) => c | _ => .skip
noncomputable def ini10:Code:=match fi10.body with | .seq c _ => c | _ => .skip
theorem body10:fi10.body = .seq ini10 (.seq chk10 (.seq def10 rest10)):=by kernel_rfl
abbrev crow (i:Int):Row:=.lst 3 1 [.int .i64 i]
abbrev drow (i:Int):Row:=.lst 26 1 [.int .i64 i]
noncomputable abbrev st20 (v:AV) (h:Rows):St:=⟨[.ptr false 0 0 0,.ptr false 1 0 0,.ptr false 2 0 0,v,.undef,.undef,v,.undef,.undef,.undef,.undef,.undef,.undef,.undef,.undef,.undef,.undef,.undef,.undef,.undef,.undef,.undef],h⟩
end Go.Dc.Ke
end
