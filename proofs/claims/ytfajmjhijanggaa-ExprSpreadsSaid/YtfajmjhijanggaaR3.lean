/- Expressions: is a kind among some? -/
import Derived.Test.YtfajmjhijanggaaM
import Derived.Test.YtfajmjhijanggaaDcXg
set_option linter.unusedVariables false
set_option linter.unusedSimpArgs false
section
namespace Go.Dc.Ke
open Go.Proofs Go.RowKit Go.Shelf
set_option maxRecDepth 100000
abbrev irow (K:List Int):Row:=.gen 3 1 K.length fun i => .int .i64 (K.getD i 0)
theorem irow_g (K:List Int):RowG (irow K):=⟨fun f n => .gen rfl fun i _ => ⟨rfl,gnd_vw _ _ _ rfl⟩,fun g => rfl⟩
noncomputable abbrev tm49 (n:Nat) (x:Int) (i:Int):List AV:=[.sl false 0 0 n .no,.int .i64 x,.any,.any,.any,.any,.any,.int .i64 (n:Nat),.int .i64 i,.any,.any,.any,.any,.any,.any,.any,.any,.any,.any]
noncomputable abbrev fam49 (K:List Int) (x:Int) (i:Nat):St:=⟨tm49 K.length x (i:Nat),[some (irow K)]⟩
theorem tm49_spr (n:Nat) (x i:Int):tm49 n x i = spr [(0,.sl false 0 0 n .no),(1,.int .i64 x),(7,.int .i64 (n:Nat)),(8,.int .i64 i)] 0 19:=by kernel_rfl
theorem vr49 (R:RR) (K:List Int) (x:Int) (i:Nat) (k:Exit -> St -> Prop):rnd (base R) 1000 49 (loopOf fi49 0) (fam49 K x i) k = (bif decide ((↑i:Int) < (↑K.length:Int)) then bif true && decide ((↑i:Int) < (↑K.length:Int)) then bif decide (0 + (↑i:Int).toNat < K.length) then bif x == K.getD (0 + (↑i:Int).toNat) 0 then k Exit.ret (St.mk [AV.sl false 0 0 K.length Cp.no,iI x,AV.any,AV.any,iI (↑i:Int),iI (↑i:Int),AV.any,iI (↑K.length:Int),iI (↑i:Int),AV.bool true,iI (↑i:Int),iI x,AV.sl false 0 0 K.length Cp.no,iI (↑i:Int),AV.ptr false 0 (0 + (↑i:Int).toNat) 0,iI (K.getD (0 + (↑i:Int).toNat) 0),AV.bool true,iI (↑i:Int),AV.any] [some (Row.gen 3 1 K.length fun (i:Nat) => iI (K.getD i 0))]) else k Exit.normal (St.mk [AV.sl false 0 0 K.length Cp.no,iI x,AV.any,AV.any,AV.any,iI (↑i:Int),AV.any,iI (↑K.length:Int),iI (IntKind.i64.wrap ((↑i:Int) + 1)),AV.bool true,iI (↑i:Int),iI x,AV.sl false 0 0 K.length Cp.no,iI (↑i:Int),AV.ptr false 0 (0 + (↑i:Int).toNat) 0,iI (K.getD (0 + (↑i:Int).toNat) 0),AV.bool false,AV.any,iI (IntKind.i64.wrap ((↑i:Int) + 1))] [some (Row.gen 3 1 K.length fun (i:Nat) => iI (K.getD i 0))]) else False else False else k (Exit.exit 0) (St.mk [AV.sl false 0 0 K.length Cp.no,iI x,AV.any,AV.any,AV.any,AV.any,AV.any,iI (↑K.length:Int),iI (↑i:Int),AV.bool false,AV.any,AV.any,AV.any,AV.any,AV.any,AV.any,AV.any,AV.any,AV.any] [some (Row.gen 3 1 K.length fun (i:Nat) => iI (K.getD i 0))])):=by kernel_rfl
noncomputable abbrev out49r (K:List Int) (i:Nat):St:=⟨[.any,.any,.any,.any,.int .i64 (i:Nat),.any,.any,.any,.any,.any,.any,.any,.any,.any,.any,.any,.any,.any,.any],[some (irow K)]⟩
noncomputable abbrev out49n (K:List Int):St:=⟨[.any,.any,.any,.any,.any,.any,.any,.any,.any,.any,.any,.any,.any,.any,.any,.any,.any,.any,.any],[some (irow K)]⟩
def lp49 (K:List Int) (x:Int):LoopSp:=fun st k => st.tmps.length = 19 /\ nthV st.tmps 0 = .sl false 0 0 K.length .no /\ nthV st.tmps 1 = .int .i64 x /\ nthV st.tmps 7 = .int .i64 (K.length:Nat) /\ nthV st.tmps 8 = .int .i64 0 /\ st.rows = [some (irow K)] /\ (∀ i:Nat,K.contains x = true -> k .ret (out49r K i)) /\ (K.contains x = false -> k .normal (out49n K))
theorem loop49 (R:RR) (K:List Int) (x:Int) (hK:K.length <= 100000):∀ st k,lp49 K x st k -> Safe Try.prog R (.block 0 (.loop (loopOf fi49 0))) st k:=by
 rintro ⟨TM,rows⟩ k ⟨h0,h1,h2,h3,h4,h5,hr,hn⟩
 simp only at h0 h1 h2 h3 h4 h5
 subst h5
 refine (loop_block (I:={i:Nat // i <= K.length /\ ∀ j,j < i -> (x == K.getD j 0) = false}) (fam:=fun i => fam49 K x i.1) (fun i => K.length - i.1) (X:=fun e st => (e = .ret /\ K.contains x = true /\ ∃ i,st = out49r K i) \/ (e = .exit 0 /\ K.contains x = false /\ st = out49n K)) (i0:=⟨0,Nat.zero_le _,fun j hj => absurd hj (Nat.not_lt_zero _)⟩) (f:=some) ?_ ?_ ?_ ?_).mono ?_
 ·refine ⟨View.preX (L:=[some (irow K)]) (tl:=[]) (fun c q h => by rw [live1 h]; exact (irow_g _).vw _ _),?_⟩
  show VwL some 1 (tm49 K.length x 0) TM
  rw [tm49_spr]
  exact VwL.ofKnown h0 ⟨by rw [h1]; exact Vw.slI (by decide) rfl,by rw [h2]; exact Vw.intI,by rw [h3]; exact Vw.intI,by rw [h4]; exact Vw.intI,trivial⟩
 ·intro c _; rfl
 ·intro i; exact Nat.le_refl _
 ·rintro ⟨i,hi,hne⟩
  refine Safe.by mixed (base_ok R) (f:=49) (fi:=fi49) (i:=0) (by kernel_rfl) (b:=.loop (loopOf fi49 0)) (by kernel_rfl) (subs_loop _) 1000 (vr49 R K x i _) ?_
  refine hcB (fun h => hcT h (hcT (by simp at h ⊢; exact h) (hcB (fun hx => ?_) fun hx => ?_))) fun h => ?_
  ·have hlt:i < K.length:=by have:=of_decide_eq_true h; omega
   have hx':(x == K.getD i 0) = true:=by simpa using hx
   refine ⟨out49r K i,Fit.row1 (irow_g K) (by (repeat' (first | with_reducible exact VwL.nil | with_reducible refine VwL.cons ?_ ?_ | with_reducible exact Vw.anyI | with_reducible exact Vw.strI | with_reducible exact Vw.boolI | with_reducible exact Vw.intI | with_reducible exact Vw.nilsI | exact Vw.ptrI (by simp) rfl | exact Vw.slI (by simp) rfl | with_reducible refine Vw.aggI ?_ | exact Vw.gndI rfl))),.inl ⟨rfl,?_,i,rfl⟩⟩
   have e:=eq_of_beq hx'
   rw [List.contains_iff_mem]
   rw [e,List.getD_eq_getElem?_getD,List.getElem?_eq_getElem hlt]
   exact List.getElem_mem hlt
  ·have hlt:i < K.length:=by have:=of_decide_eq_true h; omega
   have hx':(x == K.getD i 0) = false:=by simpa using hx
   refine ⟨⟨i + 1,hlt,fun j hj => ?_⟩,by show K.length - (i + 1) < K.length - i; omega,?_⟩
   ·rcases Nat.lt_or_ge j i with h1 | h1
    ·exact hne j h1
    ·have:j = i:=by omega
     subst this; exact hx'
   ·rw [wrapSucc i (by omega)]
    exact Fit.row1 (irow_g K) (by (repeat' (first | with_reducible exact VwL.nil | with_reducible refine VwL.cons ?_ ?_ | with_reducible exact Vw.anyI | with_reducible exact Vw.strI | with_reducible exact Vw.boolI | with_reducible exact Vw.intI | with_reducible exact Vw.nilsI | exact Vw.ptrI (by simp) rfl | exact Vw.slI (by simp) rfl | with_reducible refine Vw.aggI ?_ | exact Vw.gndI rfl)))
  ·have hge:K.length <= i:=by have:=of_decide_eq_false h; omega
   refine ⟨out49n K,Fit.row1 (irow_g K) (by (repeat' (first | with_reducible exact VwL.nil | with_reducible refine VwL.cons ?_ ?_ | with_reducible exact Vw.anyI | with_reducible exact Vw.strI | with_reducible exact Vw.boolI | with_reducible exact Vw.intI | with_reducible exact Vw.nilsI | exact Vw.ptrI (by simp) rfl | exact Vw.slI (by simp) rfl | with_reducible refine Vw.aggI ?_ | exact Vw.gndI rfl))),.inr ⟨rfl,?_,rfl⟩⟩
   rw [Bool.eq_false_iff]
   intro hc
   rw [List.contains_iff_mem] at hc
   obtain ⟨j,hj,e⟩:=List.mem_iff_getElem.1 hc
   have:=hne j (by omega)
   rw [List.getD_eq_getElem?_getD,List.getElem?_eq_getElem hj] at this
   simp [e] at this
 ·rintro e st ⟨e0,rfl,⟨rfl,hc,i,rfl⟩ | ⟨rfl,hc,rfl⟩⟩
  ·exact hr i hc
  ·exact hn hc
noncomputable abbrev env42 (R:RR) (K:List Int) (x:Int):Env Prop:=(base R).addLoop 49 0 (lp49 K x)
theorem env42_ok (R:RR) (K:List Int) (x:Int) (hK:K.length <= 100000):EnvOK Try.prog (env42 R K x) id:=(base_ok R).addLoop (f:=49) (fi:=fi49) (by kernel_rfl) (i:=0) (body:=.loop (loopOf fi49 0)) (by kernel_rfl) (loop49 R K x hK)
theorem vc42 (R:RR) (K:List Int) (x:Int) (k:AV -> Rows -> Prop):vcd (env42 R K x) 1000 42 fi42 [.sl false 0 0 K.length .no,.int .i64 x] [some (irow K)] k = (19 = 19 /\ AV.sl false 0 0 K.length Cp.no = AV.sl false 0 0 K.length Cp.no /\ iI x = iI x /\ iI (↑K.length:Int) = iI (↑K.length:Int) /\ iI 0 = iI 0 /\ [some (Row.gen 3 1 K.length fun (i:Nat) => iI (K.getD i 0))] = [some (Row.gen 3 1 K.length fun (i:Nat) => iI (K.getD i 0))] /\ (∀ (i:Nat),K.contains x = true -> k (AV.bool true) [some (Row.gen 3 1 K.length fun (i:Nat) => iI (K.getD i 0))]) /\ (K.contains x = false -> k (AV.bool false) [some (Row.gen 3 1 K.length fun (i:Nat) => iI (K.getD i 0))])):=by kernel_rfl
theorem safe42 (R:RR) (K:List Int) (x:Int) (hK:K.length <= 100000):SafeCall Try.prog R 42 [.sl false 0 0 K.length .no,.int .i64 x] [some (irow K)] fun v h => v = .bool (K.contains x) /\ h = [some (irow K)] :=
 SafeCall.by mixed (env42_ok R K x hK) (f:=42) (fi:=fi42) (by kernel_rfl) 1000 (vc42 R K x _) ⟨rfl,rfl,rfl,rfl,rfl,rfl,fun i hc => ⟨by rw [hc],rfl⟩,fun hc => ⟨by rw [hc],rfl⟩⟩
def spec42:CallSpec:=fun args h k => match args with
 | [.sl false b 0 n _,.int .i64 x] => ∃ K:List Int,K.length = n /\ n <= 100000 /\ h.live b = some (irow K) /\ k (.bool (K.contains x)) h
 | _ => False
theorem spec42_ok (R:RR):∀ args h k,spec42 args h k -> SafeCall Try.prog R 42 args h k:=by
 intro args h k hk
 unfold spec42 at hk
 split at hk
 ·rename_i b n u x
  obtain ⟨K,rfl,hn,hb,hk⟩:=hk
  refine (SafeCall.at1 (Q:=fun v r' => v = .bool (K.contains x) /\ r' = irow K) hb (irow_g K) (VwL.cons (Vw.slE (by decide) rfl) (VwL.cons Vw.intI VwL.nil)) ((safe42 R K x hn).mono ?_)).mono ?_
  ·rintro v h' ⟨rfl,rfl⟩
   exact ⟨_,_,rfl,rfl,irow_g K,rfl,rfl⟩
  ·rintro v h' ⟨r',rfl,rfl,rfl⟩
   rw [live_set_self hb]; exact hk
 ·exact hk.elim
abbrev kA:List Int:=[4,5,6]
abbrev kB:List Int:=[6,5]
abbrev kC:List Int:=[5]
def marksW:List UInt8:=[42,43,63]
mutual
/-- The one text of an expression. -/
def shw:Tr -> List UInt8
 | .mk k w kids => if k = 1 then w else if k = 2 then 64 :: w else if k = 3 then txtW else if k = 4 then Lib.join (shwL kA kids) [32] else if k = 6 then Lib.join (shwL kB kids) [38] else if k = 5 then Lib.join (shwL kC kids) [124]
  else if k = 7 \/ k = 8 \/ k = 9 then Lib.join (shwL kA kids) [] ++ (marksW.drop (k - 7)).take 1 else [40,41]
def shwL (K:List Int):List Tr -> List (List UInt8)
 | [] => []
 | t :: ts => (bif K.contains ((t.kind:Nat):Int) then [40] ++ shw t ++ [41] else shw t) :: shwL K ts
end
def wth (K:List Int) (t:Tr):List UInt8:=bif K.contains ((t.kind:Nat):Int) then [40] ++ shw t ++ [41] else shw t
theorem shwL_map (K:List Int):∀ ts,shwL K ts = ts.map (wth K)
 | [] => rfl
 | t :: ts => by simp only [shwL,List.map_cons,shwL_map K ts,wth]
abbrev srow (L:List (List UInt8)):Row:=.gen 9 1 L.length fun i => .str (L.getD i [])
abbrev e5row (k:Int) (w:List UInt8) (n:Nat):Row:=.lst 25 3 [.agg [.int .i64 k,.str w,.sl true 5 0 n .no]]
def spec13o (t:Tr) (x:Nat):CallSpecX:=fun args h k => match args with
 | [a] => fun F => a = exprV t x /\ TAt F t x /\ ∀ F',Up F F' -> k (.str (shw t)) h F'
 | _ => botX
noncomputable abbrev env35 (R:RR) (t:Tr) (x:Nat):EnvX:=((bx R).addCall 42 (liftC spec42)).addCall 13 (spec13o t x)
noncomputable abbrev tm25 (sg:List UInt8) (nk n:Nat) (m:Nat):List AV:=[.any,.str sg,.sl false 0 0 nk .no,.any,.any,.any,.any,.sl false 2 0 m .no,.any,.any,.any,.sl true 5 0 n .no,.int .i64 (n:Nat),.int .i64 (m:Nat),.any,.any,.any,.any,.any,.any,.any,.any,.any,.any,.any,.any,.any]
noncomputable abbrev fam25 (K:List Int) (sg:List UInt8) (k:Int) (w:List UInt8) (l:List (Tr × Nat)) (L:List (List UInt8)):St:=⟨tm25 sg K.length l.length L.length,[some (irow K),some (e5row k w l.length),some (srow L)]⟩
def spec35k (K:List Int) (l:List (Tr × Nat)):CallSpecX:=fun args h k => match args with
 | [a,.sl false b 0 n _] => fun F => TAts F l /\ ∃ i:Nat,i < l.length /\ a = exprV (l.getD i dT).1 (l.getD i dT).2 /\ n = K.length /\ h.live b = some (irow K) /\ ∀ F',Up F F' -> k (.str (wth K (l.getD i dT).1)) h F'
 | _ => botX
noncomputable abbrev env25 (R:RR) (K:List Int) (l:List (Tr × Nat)):EnvX:=((bx (updR R 5 (kidR l))).addCall 36 (liftC spec36)).addCall 35 (spec35k K l)
def lp25 (K:List Int) (sg:List UInt8) (kk:Int) (w:List UInt8) (l:List (Tr × Nat)):LoopSpX:=fun st k F =>
 st.tmps.length = 27 /\ nthV st.tmps 1 = .str sg /\ nthV st.tmps 2 = .sl false 0 0 K.length .no /\ nthV st.tmps 7 = .nils /\ nthV st.tmps 11 = .sl true 5 0 l.length .no /\ nthV st.tmps 12 = .int .i64 (l.length:Nat) /\ nthV st.tmps 13 = .int .i64 0 /\
 st.rows = [some (irow K),some (e5row kk w l.length)] /\ TAts F l /\ ∀ F',Up F F' -> k .normal (fam25 K sg kk w l (l.map fun p => wth K p.1)) F'
noncomputable abbrev env25l (R:RR) (K:List Int) (sg:List UInt8) (kk:Int) (w:List UInt8) (l:List (Tr × Nat)):EnvX:=(env25 R K l).addLoop 25 0 (lp25 K sg kk w l)
structure Free (R:RR):Prop where
 n:(R 5).n = 0
 q:Quits R 5
theorem nm_expr {t:Tr} {x:Nat}:nmL 5 0 [exprV t x] = [exprV t x]:=by kernel_rfl
def ShowOK (t:Tr):Prop:=∀ (R:RR),Free R -> ∀ (x:Nat) (F:Fz) (k HP:AV -> Rows -> Fz -> Prop),IsT F t x -> (∀ F',Up F F' -> k (.str (shw t)) [] F') -> SafeCallX Try.prog R 13 [exprV t x] [] F k HP
theorem show_at {t:Tr} (hs:ShowOK t) {R:RR} (hR:Free R) {x:Nat} {F:Fz} (hx:IsT F t x) (h:Rows) (k HP:AV -> Rows -> Fz -> Prop) (hk:∀ F',Up F F' -> k (.str (shw t)) h F'):SafeCallX Try.prog R 13 [exprV t x] h F k HP:=by
 refine (SafeCallX.at0 (Q:=fun v F' => v = .str (shw t) /\ Up F F') (HP:=fun _ _ => False) rfl (hs R hR x F _ _ hx fun F' hu => ⟨rfl,rfl,hu⟩)).mono ?_ ?_
 ·rintro v h' F' _ ⟨rfl,rfl,hu⟩; exact hk F' hu
 ·rintro v h' F' _ ⟨_,h⟩; exact h.elim
theorem show_un {t:Tr} (hs:ShowOK t) {R:RR} (hR:Free R) {ro:RoRow} {x:Nat} {F:Fz} (hx:IsT F t x) (h:Rows) (k HP:AV -> Rows -> Fz -> Prop) (hk:∀ F',Up F F' -> k (.str (shw t)) h F'):SafeCallX Try.prog (updR R 5 ro) 13 [exprV t x] h F k HP:=by
 have h0:SafeCallX Try.prog (updR R 5 ro) 13 [exprV t x] [] F (fun v h' F' => gnd v = true /\ (v = .str (shw t) /\ Up F F')) (fun v h' F' => gnd v = true /\ False):=by
  refine SafeCallX.unread (Q:=fun v h' F' => v = .str (shw t) /\ h' = [] /\ Up F F') (HP:=fun _ _ _ => False) (by decide) hR.n hR.q nm_expr rfl (hs R hR x F _ _ hx fun F' hu => ⟨rfl,rfl,hu⟩) ?_ ?_
  ·rintro v h' F' _ ⟨rfl,rfl,hu⟩; exact ⟨rfl,rfl,rfl,rfl,hu⟩
  ·rintro v h' F' _ h; exact h.elim
 refine (SafeCallX.at0 rfl h0).mono ?_ ?_
 ·rintro v h' F' _ ⟨rfl,rfl,hu⟩; exact hk F' hu
 ·rintro v h' F' _ ⟨_,h⟩; exact h.elim
theorem vc35 (R : Nat → RoRow) (K : List Int) (t : Tr) (x : Nat) (k : AV → Rows → Fz → Prop) (F : Fz) : vcx (env35 R t x) 1000 35 fi35 [exprV t x, .sl false 0 0 K.length .no] [some (irow K)] k F =
    (∃ (K_1 : List Int), K_1.length = K.length ∧ K.length ≤ 100000 ∧ some (irow K) = some (irow K_1) ∧
          bif K_1.contains ((t.kind : Nat) : Int) then
            exprV t x = exprV t x ∧ TAt F t x ∧ ∀ F', Up F F' →
              bif decide (1 + (shw t).length ≤ 9223372036854775807) then
                bif decide (([40] ++ shw t).length + 1 ≤ 9223372036854775807) then k (.str ([40] ++ shw t ++ [41])) [some (irow K), some (erow t x)] F'
                else False
              else False
          else exprV t x = exprV t x ∧ TAt F t x ∧ ∀ F', Up F F' → k (.str (shw t)) [some (irow K), some (erow t x)] F') := by kernel_rfl
theorem env35_ok {R:RR} {t:Tr} (hs:ShowOK t) (hR:Free R) {ro:RoRow} (x:Nat) (HP:HPt):OKX Try.prog (env35 (updR R 5 ro) t x) [] HP :=
 ((bx_ok _ [] HP).addCall (f:=42) (fi:=fi42) (by kernel_rfl) (liftC_ok (spec42_ok _))).addCall (f:=13) (fi:=fi13) (by kernel_rfl) (by
  intro args h k F hk
  unfold spec13o at hk
  split at hk
  ·obtain ⟨rfl,hx,hk⟩:=hk
   exact show_un hs hR hx.is h k HP hk
  ·exact hk.elim)
theorem vr25 (R:RR) (K:List Int) (sg:List UInt8) (kk:Int) (w:List UInt8) (l:List (Tr × Nat)) (L:List (List UInt8)) (k:Exit -> St -> Fz -> Prop) (F:Fz):rnx (env25 R K l) 1000 25 (loopOf fi25 0) (fam25 K sg kk w l L) k F = (bif decide ((↑L.length:Int) < (↑l.length:Int)) then bif true && decide ((↑L.length:Int) < (↑l.length:Int)) then bif decide (0 + (↑L.length:Int).toNat < ((env25 R K l).R 5).n) then TAts F l /\ ∃ (i:Nat),i.succ.le l.length /\ AV.agg [iI (↑(l.getD (0 + (↑L.length:Int).toNat) dT).fst.kind:Int),AV.str (l.getD (0 + (↑L.length:Int).toNat) dT).fst.word,AV.sl true ((l.getD (0 + (↑L.length:Int).toNat) dT).snd + 15) 0 (l.getD (0 + (↑L.length:Int).toNat) dT).fst.kids.length Cp.no] = AV.agg [iI (↑(l.getD i dT).fst.kind:Int),AV.str (l.getD i dT).fst.word,AV.sl true ((l.getD i dT).snd + 15) 0 (l.getD i dT).fst.kids.length Cp.no] /\ K.length = K.length /\ some (Row.gen 3 1 K.length fun (i:Nat) => iI (K.getD i 0)) = some (Row.gen 3 1 K.length fun (i:Nat) => iI (K.getD i 0)) /\ ∀ (F':Fz),Up F F' -> bif decide (0 + L.length <= L.length) && (true && (true && decide (((Src.gen L.length fun (j:Nat) => AV.str (L.getD (0 + j) [])).len + 1) * 16 <= 140737488355328))) then k Exit.normal (St.mk [AV.any,AV.str sg,AV.sl false 0 0 K.length Cp.no,AV.any,AV.any,AV.any,AV.any,AV.sl false 5 0 ((Src.gen L.length fun (j:Nat) => AV.str (L.getD (0 + j) [])).len + 1) Cp.no,AV.any,AV.ptr false 3 0 0,AV.any,AV.sl true 5 0 l.length Cp.no,iI (↑l.length:Int),iI (IntKind.i64.wrap ((↑L.length:Int) + 1)),AV.bool true,AV.ptr true 5 (0 + (↑L.length:Int).toNat) 0,AV.agg [iI (↑(l.getD (0 + (↑L.length:Int).toNat) dT).fst.kind:Int),AV.str (l.getD (0 + (↑L.length:Int).toNat) dT).fst.word,AV.sl true ((l.getD (0 + (↑L.length:Int).toNat) dT).snd + 15) 0 (l.getD (0 + (↑L.length:Int).toNat) dT).fst.kids.length Cp.no],AV.sl false 2 0 L.length Cp.no,AV.agg [iI (↑(l.getD (0 + (↑L.length:Int).toNat) dT).fst.kind:Int),AV.str (l.getD (0 + (↑L.length:Int).toNat) dT).fst.word,AV.sl true ((l.getD (0 + (↑L.length:Int).toNat) dT).snd + 15) 0 (l.getD (0 + (↑L.length:Int).toNat) dT).fst.kids.length Cp.no],AV.sl false 0 0 K.length Cp.no,AV.str (wth K (l.getD i dT).fst),AV.sl false 4 0 1 Cp.tight,AV.sl false 5 0 ((Src.gen L.length fun (j:Nat) => AV.str (L.getD (0 + j) [])).len + 1) Cp.no,iI (IntKind.i64.wrap ((↑L.length:Int) + 1)),AV.any,AV.any,AV.any] [some (Row.gen 3 1 K.length fun (i:Nat) => iI (K.getD i 0)),some (Row.lst 25 3 [AV.agg [iI kk,AV.str w,AV.sl true 5 0 l.length Cp.no]]),none,some (Row.lst 25 3 [AV.agg [iI (↑(l.getD (0 + (↑L.length:Int).toNat) dT).fst.kind:Int),AV.str (l.getD (0 + (↑L.length:Int).toNat) dT).fst.word,AV.sl true ((l.getD (0 + (↑L.length:Int).toNat) dT).snd + 15) 0 (l.getD (0 + (↑L.length:Int).toNat) dT).fst.kids.length Cp.no]]),some (Row.lst 9 1 [AV.str (wth K (l.getD i dT).fst)]),some (Row.gen 9 1 ((Src.gen L.length fun (j:Nat) => AV.str (L.getD (0 + j) [])).len + 1) fun (j:Nat) => bif j.blt (Src.gen L.length fun (j:Nat) => AV.str (L.getD (0 + j) [])).len then AV.str (L.getD (0 + j) []) else (Src.lst [AV.str (wth K (l.getD i dT).fst)]).at_ (j - (Src.gen L.length fun (j:Nat) => AV.str (L.getD (0 + j) [])).len))]) F' else False else False else False else k (Exit.exit 0) (St.mk [AV.any,AV.str sg,AV.sl false 0 0 K.length Cp.no,AV.any,AV.any,AV.any,AV.any,AV.sl false 2 0 L.length Cp.no,AV.any,AV.any,AV.any,AV.sl true 5 0 l.length Cp.no,iI (↑l.length:Int),iI (↑L.length:Int),AV.bool false,AV.any,AV.any,AV.any,AV.any,AV.any,AV.any,AV.any,AV.any,AV.any,AV.any,AV.any,AV.any] [some (Row.gen 3 1 K.length fun (i:Nat) => iI (K.getD i 0)),some (Row.lst 25 3 [AV.agg [iI kk,AV.str w,AV.sl true 5 0 l.length Cp.no]]),some (Row.gen 9 1 L.length fun (i:Nat) => AV.str (L.getD i []))]) F):=by kernel_rfl
theorem vc25 (R:RR) (K:List Int) (sg:List UInt8) (kk:Int) (w:List UInt8) (l:List (Tr × Nat)) (k:AV -> Rows -> Fz -> Prop) (F:Fz):vcx (env25l R K sg kk w l) 1000 25 fi25 [.agg [.int .i64 kk,.str w,.sl true 5 0 l.length .no],.str sg,.sl false 0 0 K.length .no] [some (irow K)] k F = (27 = 27 /\ AV.str sg = AV.str sg /\ AV.sl false 0 0 K.length Cp.no = AV.sl false 0 0 K.length Cp.no /\ AV.nils = AV.nils /\ AV.sl true 5 0 l.length Cp.no = AV.sl true 5 0 l.length Cp.no /\ iI (↑l.length:Int) = iI (↑l.length:Int) /\ iI 0 = iI 0 /\ [some (Row.gen 3 1 K.length fun (i:Nat) => iI (K.getD i 0)),some (Row.lst 25 3 [AV.agg [iI kk,AV.str w,AV.sl true 5 0 l.length Cp.no]])] = [some (Row.gen 3 1 K.length fun (i:Nat) => iI (K.getD i 0)),some (Row.lst 25 3 [AV.agg [iI kk,AV.str w,AV.sl true 5 0 l.length Cp.no]])] /\ TAts F l /\ ∀ (F':Fz),Up F F' -> (List.map (fun (p:Tr × Nat) => wth K p.fst) l).length = (List.map (fun (p:Tr × Nat) => wth K p.fst) l).length /\ (∀ (j:Nat),j.succ.le (List.map (fun (p:Tr × Nat) => wth K p.fst) l).length -> AV.str ((List.map (fun (p:Tr × Nat) => wth K p.fst) l).getD j []) = AV.str (strOf (AV.str ((List.map (fun (p:Tr × Nat) => wth K p.fst) l).getD j [])))) /\ (List.map (fun (p:Tr × Nat) => wth K p.fst) l).length.le 140737488355328 /\ (Lib.join (strsOf (List.map (fun (p:Tr × Nat) => wth K p.fst) l).length fun (i:Nat) => AV.str ((List.map (fun (p:Tr × Nat) => wth K p.fst) l).getD i [])) sg).length.le 140737488355328 /\ k (AV.str (Lib.join (strsOf (List.map (fun (p:Tr × Nat) => wth K p.fst) l).length fun (i:Nat) => AV.str ((List.map (fun (p:Tr × Nat) => wth K p.fst) l).getD i [])) sg)) [some (Row.gen 3 1 K.length fun (i:Nat) => iI (K.getD i 0)),some (Row.lst 25 3 [AV.agg [iI kk,AV.str w,AV.sl true 5 0 l.length Cp.no]]),some (Row.gen 9 1 (List.map (fun (p:Tr × Nat) => wth K p.fst) l).length fun (i:Nat) => AV.str ((List.map (fun (p:Tr × Nat) => wth K p.fst) l).getD i []))] F'):=by kernel_rfl
theorem safe35 {R:RR} {t:Tr} (hs:ShowOK t) (hR:Free R) (ro:RoRow) (K:List Int) (hK:K.length <= 100000) (hl:(shw t).length <= 1000000) {x:Nat} {F:Fz} (hx:IsT F t x) (k HP:AV -> Rows -> Fz -> Prop) (hk:∀ F',Up F F' -> k (.str (wth K t)) [some (irow K)] F') :
  SafeCallX Try.prog (updR R 5 ro) 35 [exprV t x,.sl false 0 0 K.length .no] [some (irow K)] F k HP:=by
 refine SafeCallX.post (Q:=fun v h F' => v = .str (wth K t) /\ (∃ tl,h = some (irow K) :: tl) /\ Up F F') (HP:=fun _ _ _ => False) ?_ ?_ ?_
 ·refine SafeCallX.by mixed (env35_ok hs hR x _) (f:=35) (fi:=fi35) (by kernel_rfl) 1000 (vc35 _ K t x _ F) ⟨K,rfl,hK,rfl,hcB (fun h => ⟨rfl,⟨hx⟩,fun F' hu => ?_⟩) fun h => ⟨rfl,⟨hx⟩,fun F' hu => ?_⟩⟩
  ·refine hcT (by simp; omega) (hcT (by simp; omega) ⟨?_,⟨_,rfl⟩,hu⟩)
   unfold wth; rw [h]; rfl
  ·refine ⟨?_,⟨_,rfl⟩,hu⟩
   unfold wth; rw [h]; rfl
 ·rintro v h' F' _ ⟨rfl,⟨tl,rfl⟩,hu⟩
  exact ToV.fit (FitV.row1 (irow_g K) rfl) (ToV.here (hk F' hu))
 ·rintro v h' F' _ h; exact h.elim
theorem spec35k_ok {R:RR} (hR:Free R) (ro:RoRow) (K:List Int) (hK:K.length <= 100000) (l:List (Tr × Nat)) (hs:∀ p ∈ l,ShowOK p.1 /\ (shw p.1).length <= 1000000) (HP:HPt):∀ args h k F,spec35k K l args h k F -> SafeCallX Try.prog (updR R 5 ro) 35 args h F k HP:=by
 intro args h k F hk
 unfold spec35k at hk
 split at hk
 ·rename_i a b n u
  obtain ⟨hts,i,hi,rfl,rfl,hb,hk⟩:=hk
  have hm:l.getD i dT ∈ l:=by
   rw [List.getD_eq_getElem?_getD,List.getElem?_eq_getElem hi]
   exact List.getElem_mem hi
  obtain ⟨h1,h2⟩:=hs _ hm
  refine (SafeCallX.at1 (Q:=fun v r' F' => v = .str (wth K (l.getD i dT).1) /\ r' = irow K /\ Up F F') (HP:=fun _ _ _ => False) hb (irow_g K) (VwL.cons (Vw.gndI rfl) (VwL.cons (Vw.slE (by decide) rfl) VwL.nil)) (safe35 h1 hR ro K hK h2 (hts.is _ hm) _ _ fun F' hu => ⟨_,[],rfl,rfl,irow_g K,rfl,rfl,hu⟩)).mono ?_ ?_
  ·rintro v h' F' _ ⟨r',rfl,rfl,rfl,hu⟩
   rw [live_set_self hb]; exact hk F' hu
  ·rintro v h' F' _ ⟨r',_,h⟩; exact h.elim
 ·exact hk.elim
theorem env25_ok {R:RR} (hR:Free R) (K:List Int) (hK:K.length <= 100000) (l:List (Tr × Nat)) (hs:∀ p ∈ l,ShowOK p.1 /\ (shw p.1).length <= 1000000) (HP:HPt):OKX Try.prog (env25 R K l) [] HP :=
 ((bx_ok _ [] HP).addCall (f:=36) (fi:=fi36) (by kernel_rfl) (liftC_ok (spec36_ok _))).addCall (f:=35) (fi:=fi35) (by kernel_rfl) (spec35k_ok hR (kidR l) K hK l hs HP)
theorem srow_g (L:List (List UInt8)):RowG (srow L):=⟨fun f n => .gen rfl fun i _ => ⟨rfl,gnd_vw _ _ _ rfl⟩,fun g => rfl⟩
theorem e5row_g (k:Int) (w:List UInt8) (n:Nat):RowG (e5row k w n):=.lst1' rfl rfl
theorem srow_app {f:Nat -> Option Nat} {n:Nat} (L:List (List UInt8)) (v:List UInt8):RowV f n (srow (L ++ [v])) (.gen 9 1 (L.length + 1) fun j => bif j.blt L.length then .str (L.getD (0 + j) []) else (Src.lst [.str v]).at_ (j - L.length)):=by
 refine .gen (by simp) fun i hi => ⟨rfl,?_⟩
 have hi:i < L.length + 1:=by simpa using hi
 have:=app_gen (F:=fun j => .str (L.getD j [])) (G:=fun i => .str ((L ++ [v]).getD i [])) (n:=L.length) (e:=.str v) (fun j hj => by
  simp only [Nat.zero_add]
  rw [List.getD_eq_getElem?_getD,List.getD_eq_getElem?_getD,List.getElem?_append_left hj]) (by simp) i hi
 rw [this]
 exact gnd_vw _ _ _ rfl
theorem tm25_spr (sg:List UInt8) (nk n m:Nat):tm25 sg nk n m = spr [(1,.str sg),(2,.sl false 0 0 nk .no),(7,.sl false 2 0 m .no),(11,.sl true 5 0 n .no),(12,.int .i64 (n:Nat)),(13,.int .i64 (m:Nat))] 0 27:=by kernel_rfl
theorem loop25 {R:RR} (hR:Free R) (K:List Int) (hK:K.length <= 100000) (sg:List UInt8) (kk:Int) (w:List UInt8) (l:List (Tr × Nat)) (hl:l.length <= 100000) (hs:∀ p ∈ l,ShowOK p.1 /\ (shw p.1).length <= 1000000) (HP:HPt) :
  ∀ st k F,lp25 K sg kk w l st k F -> SafeX Try.prog (updR R 5 (kidR l)) [] (.block 0 (.loop (loopOf fi25 0))) st F k HP:=by
 rintro ⟨TM,rows⟩ k F ⟨h0,h1,h2,h3,h4,h5,h6,h7,hts,hk⟩
 simp only at h0 h1 h2 h3 h4 h5 h6 h7
 subst h7
 let W:=l.map fun p => wth K p.1
 have hW:W.length = l.length:=by simp [W]
 refine SafeX.loop_block (Inv:=fun n st F' => Up F F' /\ ∃ i,i <= l.length /\ n = l.length - i /\ st = fam25 K sg kk w l (W.take i)) ?_ ?_
 ·refine ToX.fit (stE:=fam25 K sg kk w l (W.take 0)) ⟨upR 2,⟨View.of ?_ upR_inj,?_⟩,fun c hc => upR_lt hc,by simp⟩ (ToX.here ⟨_,Up.refl F,0,Nat.zero_le _,rfl,rfl⟩)
  ·intro c o ho
   match c with
   | 0 => cases ho; exact ViewL.at_ (b:=0) rfl rfl ((irow_g K).vw _ _)
   | 1 => cases ho; exact ViewL.at_ (b:=1) rfl rfl ((e5row_g _ _ _).vw _ _)
   | 2 => cases ho; exact ViewL.void rfl rfl
   | c + 3 => cases ho
  ·show VwL (upR 2) 3 (tm25 sg K.length l.length 0) TM
   rw [tm25_spr]
   exact VwL.ofKnown h0 ⟨by rw [h1]; exact Vw.strI,by rw [h2]; exact Vw.slI (by decide) rfl,by rw [h3]; exact Vw.slN (by decide) rfl,by rw [h4]; exact Vw.gndI rfl,by rw [h5]; exact Vw.intI,by rw [h6]; exact Vw.intI,trivial⟩
 ·rintro n st' F' ⟨hu,i,hi,rfl,rfl⟩
  have hlen:(W.take i).length = i:=by rw [List.length_take,hW]; omega
  refine SafeX.by mixed (env25_ok hR K hK l hs HP) (f:=25) (fi:=fi25) (i:=0) (by kernel_rfl) (b:=.loop (loopOf fi25 0)) (by kernel_rfl) (subs_loop _) 1000 (vr25 R K sg kk w l (W.take i) _ F') ?_
  have hi2:(0 + (((W.take i).length:Nat):Int).toNat) = i:=by rw [hlen]; simp
  refine hcB (fun h => hcT h (hcT ?_ ?_)) fun h => ?_
  ·have hlt:i < l.length:=by have:=of_decide_eq_true h; rw [hlen] at this; omega
   rw [hi2]
   exact decide_eq_true hlt
  ·have hlt:i < l.length:=by have:=of_decide_eq_true h; rw [hlen] at this; omega
   refine ⟨hts.le hu,i,hlt,by rw [hi2],rfl,rfl,fun F2 hu2 => hcT (capOK (by rw [hlen]; omega)) ?_⟩
   have eW:W.take (i + 1) = W.take i ++ [wth K (l.getD i dT).1]:=by
    have hlt':i < W.length:=by rw [hW]; exact hlt
    rw [List.take_add_one,List.getElem?_eq_getElem hlt']
    simp [W,List.getD_eq_getElem?_getD,List.getElem?_eq_getElem hlt]
   refine ToX.fit (stE:=fam25 K sg kk w l (W.take (i + 1))) ⟨mvR 2 5,⟨View.of ?_ (mvR_inj (by simp) (by simp)),?_⟩,mvR_lt (n:=2) (by decide),by simp⟩ (ToX.here ⟨l.length - (i + 1),by omega,hu.trans hu2,i + 1,hlt,rfl,rfl⟩)
   ·intro c o ho
    match c with
    | 0 => cases ho; exact ViewL.at_ (b:=0) rfl rfl ((irow_g K).vw _ _)
    | 1 => cases ho; exact ViewL.at_ (b:=1) rfl rfl ((e5row_g _ _ _).vw _ _)
    | 2 => cases ho; rw [eW]; exact ViewL.at_ (b:=5) rfl rfl (srow_app (W.take i) _)
    | c + 3 => cases ho
   ·have e:(W.take (i + 1)).length = (W.take i).length + 1:=by rw [eW]; simp
    show VwL (mvR 2 5) 3 (tm25 sg K.length l.length (W.take (i + 1)).length) _
    rw [e,wrapSucc _ (by rw [hlen]; omega)]
    (repeat' (first | with_reducible exact VwL.nil | with_reducible refine VwL.cons ?_ ?_ | with_reducible exact Vw.anyI | with_reducible exact Vw.strI | with_reducible exact Vw.boolI | with_reducible exact Vw.intI | with_reducible exact Vw.nilsI | exact Vw.ptrI (by simp) rfl | exact Vw.slI (by simp) rfl | with_reducible refine Vw.aggI ?_ | exact Vw.gndI rfl))
  ·have hge:l.length <= i:=by have:=of_decide_eq_false h; rw [hlen] at this; omega
   have eW:W.take i = W:=List.take_of_length_le (by rw [hW]; exact hge)
   refine ToX.fit (stE:=fam25 K sg kk w l (W.take i)) ⟨some,⟨View.preX (L:=[some (irow K),some (e5row kk w l.length),some (srow (W.take i))]) (tl:=[]) (rowG3 (irow_g K) (e5row_g _ _ _) (srow_g _)),by (repeat' (first | with_reducible exact VwL.nil | with_reducible refine VwL.cons ?_ ?_ | with_reducible exact Vw.anyI | with_reducible exact Vw.strI | with_reducible exact Vw.boolI | with_reducible exact Vw.intI | with_reducible exact Vw.nilsI | exact Vw.ptrI (by simp) rfl | exact Vw.slI (by simp) rfl | with_reducible refine Vw.aggI ?_ | exact Vw.gndI rfl))⟩,fun _ _ => rfl,by simp⟩ (ToX.here ?_)
   rw [eW]
   exact hk F' hu
structure JLen (t:Tr) (K:List Int) (sg:List UInt8):Prop where
 le:(Lib.join (shwL K t.kids) sg).length <= 1000000
def jn (t:Tr) (K:List Int) (sg:List UInt8):List UInt8:=Lib.join (shwL K t.kids) sg
structure LRow (h:Rows) (b n:Nat) (K:List Int):Prop where
 live:h.live b = some (.lst 3 1 (K.map (.int .i64)))
 len:n = K.length
 le:n <= 100000
def spec25 (t:Tr) (x:Nat):CallSpecX:=fun args h k => match args with
 | [a,.str sg,.sl false b 0 n _] => fun F => a = exprV t x /\ TAt F t x /\ ∃ K:List Int,LRow h b n K /\ JLen t K sg /\ ∀ F',Up F F' -> k (.str (jn t K sg)) (h.set b (some (irow K))) F'
 | _ => botX
noncomputable abbrev env13 (R:RR) (t:Tr) (x:Nat):EnvX:=(bx R).addCall 25 (spec25 t x)
theorem vc13_0 (R:RR) (w:List UInt8) (kids:List Tr) (x:Nat) (k:AV -> Fz -> Prop) (F:Fz):vcx (env13 R (.mk 0 w kids) x) 1000 13 fi13 [exprV (.mk 0 w kids) x] [] (fun v _ => k v) F = (k (AV.str [40,41]) F):=by kernel_rfl
theorem vc13_1 (R:RR) (w:List UInt8) (kids:List Tr) (x:Nat) (k:AV -> Fz -> Prop) (F:Fz):vcx (env13 R (.mk 1 w kids) x) 1000 13 fi13 [exprV (.mk 1 w kids) x] [] (fun v _ => k v) F = (k (AV.str (Tr.mk 1 w kids).word) F):=by kernel_rfl
theorem vc13_2 (R:RR) (w:List UInt8) (kids:List Tr) (x:Nat) (k:AV -> Fz -> Prop) (F:Fz):vcx (env13 R (.mk 2 w kids) x) 1000 13 fi13 [exprV (.mk 2 w kids) x] [] (fun v _ => k v) F = (bif decide (1 + w.length <= 9223372036854775807) then k (.str (64 :: w)) F else False):=by kernel_rfl
theorem vc13_3 (R:RR) (w:List UInt8) (kids:List Tr) (x:Nat) (k:AV -> Fz -> Prop) (F:Fz):vcx (env13 R (.mk 3 w kids) x) 1000 13 fi13 [exprV (.mk 3 w kids) x] [] (fun v _ => k v) F = (k (AV.str [35,116,101,120,116]) F):=by kernel_rfl
theorem vc13_4 (R:RR) (w:List UInt8) (kids:List Tr) (x:Nat) (k:AV -> Fz -> Prop) (F:Fz):vcx (env13 R (.mk 4 w kids) x) 1000 13 fi13 [exprV (.mk 4 w kids) x] [] (fun v _ => k v) F = (AV.agg [iI 4,AV.str (Tr.mk 4 w kids).word,AV.sl true (x + 15) 0 (Tr.mk 4 w kids).kids.length Cp.no] = AV.agg [iI 4,AV.str (Tr.mk 4 w kids).word,AV.sl true (x + 15) 0 (Tr.mk 4 w kids).kids.length Cp.no] /\ TAt F (Tr.mk 4 w kids) x /\ ∃ (K:List Int),LRow [some (Row.lst 25 3 [AV.agg [iI 4,AV.str (Tr.mk 4 w kids).word,AV.sl true (x + 15) 0 (Tr.mk 4 w kids).kids.length Cp.no]]),some (Row.lst 3 1 [iI 4,iI 5,iI 6])] 1 3 K /\ JLen (Tr.mk 4 w kids) K [32] /\ ∀ (F':Fz),Up F F' -> k (AV.str (jn (Tr.mk 4 w kids) K [32])) F'):=by kernel_rfl
theorem vc13_5 (R:RR) (w:List UInt8) (kids:List Tr) (x:Nat) (k:AV -> Fz -> Prop) (F:Fz):vcx (env13 R (.mk 5 w kids) x) 1000 13 fi13 [exprV (.mk 5 w kids) x] [] (fun v _ => k v) F = (AV.agg [iI 5,AV.str (Tr.mk 5 w kids).word,AV.sl true (x + 15) 0 (Tr.mk 5 w kids).kids.length Cp.no] = AV.agg [iI 5,AV.str (Tr.mk 5 w kids).word,AV.sl true (x + 15) 0 (Tr.mk 5 w kids).kids.length Cp.no] /\ TAt F (Tr.mk 5 w kids) x /\ ∃ (K:List Int),LRow [some (Row.lst 25 3 [AV.agg [iI 5,AV.str (Tr.mk 5 w kids).word,AV.sl true (x + 15) 0 (Tr.mk 5 w kids).kids.length Cp.no]]),some (Row.lst 3 1 [iI 5])] 1 1 K /\ JLen (Tr.mk 5 w kids) K [124] /\ ∀ (F':Fz),Up F F' -> k (AV.str (jn (Tr.mk 5 w kids) K [124])) F'):=by kernel_rfl
theorem vc13_6 (R:RR) (w:List UInt8) (kids:List Tr) (x:Nat) (k:AV -> Fz -> Prop) (F:Fz):vcx (env13 R (.mk 6 w kids) x) 1000 13 fi13 [exprV (.mk 6 w kids) x] [] (fun v _ => k v) F = (AV.agg [iI 6,AV.str (Tr.mk 6 w kids).word,AV.sl true (x + 15) 0 (Tr.mk 6 w kids).kids.length Cp.no] = AV.agg [iI 6,AV.str (Tr.mk 6 w kids).word,AV.sl true (x + 15) 0 (Tr.mk 6 w kids).kids.length Cp.no] /\ TAt F (Tr.mk 6 w kids) x /\ ∃ (K:List Int),LRow [some (Row.lst 25 3 [AV.agg [iI 6,AV.str (Tr.mk 6 w kids).word,AV.sl true (x + 15) 0 (Tr.mk 6 w kids).kids.length Cp.no]]),some (Row.lst 3 1 [iI 6,iI 5])] 1 2 K /\ JLen (Tr.mk 6 w kids) K [38] /\ ∀ (F':Fz),Up F F' -> k (AV.str (jn (Tr.mk 6 w kids) K [38])) F'):=by kernel_rfl
theorem vc13_7 (R:RR) (w:List UInt8) (kids:List Tr) (x:Nat) (k:AV -> Fz -> Prop) (F:Fz):vcx (env13 R (.mk 7 w kids) x) 1000 13 fi13 [exprV (.mk 7 w kids) x] [] (fun v _ => k v) F = (AV.str [42] = AV.str [42] /\ iI 7 = iI 7 /\ iI 7 = iI 7 /\ AV.agg [iI 7,AV.str (Tr.mk 7 w kids).word,AV.sl true (x + 15) 0 (Tr.mk 7 w kids).kids.length Cp.no] = AV.agg [iI 7,AV.str (Tr.mk 7 w kids).word,AV.sl true (x + 15) 0 (Tr.mk 7 w kids).kids.length Cp.no] /\ AV.agg [iI 7,AV.str (Tr.mk 7 w kids).word,AV.sl true (x + 15) 0 (Tr.mk 7 w kids).kids.length Cp.no] = AV.agg [iI 7,AV.str (Tr.mk 7 w kids).word,AV.sl true (x + 15) 0 (Tr.mk 7 w kids).kids.length Cp.no] /\ TAt F (Tr.mk 7 w kids) x /\ ∃ (K:List Int),LRow [some (Row.lst 25 3 [AV.agg [iI 7,AV.str (Tr.mk 7 w kids).word,AV.sl true (x + 15) 0 (Tr.mk 7 w kids).kids.length Cp.no]]),some (Row.lst 3 1 [iI 4,iI 5,iI 6])] 1 3 K /\ JLen (Tr.mk 7 w kids) K [] /\ ∀ (F':Fz),Up F F' -> AV.str [42] = AV.str [42] /\ iI 7 = iI 7 /\ iI 7 = iI 7 /\ bif decide ((jn (Tr.mk 7 w kids) K []).length + 1 <= 9223372036854775807) then k (AV.str (jn (Tr.mk 7 w kids) K [] ++ [42])) F' else False):=by kernel_rfl
theorem vc13_8 (R:RR) (w:List UInt8) (kids:List Tr) (x:Nat) (k:AV -> Fz -> Prop) (F:Fz):vcx (env13 R (.mk 8 w kids) x) 1000 13 fi13 [exprV (.mk 8 w kids) x] [] (fun v _ => k v) F = (AV.str [43] = AV.str [43] /\ iI 8 = iI 8 /\ iI 8 = iI 8 /\ AV.agg [iI 8,AV.str (Tr.mk 8 w kids).word,AV.sl true (x + 15) 0 (Tr.mk 8 w kids).kids.length Cp.no] = AV.agg [iI 8,AV.str (Tr.mk 8 w kids).word,AV.sl true (x + 15) 0 (Tr.mk 8 w kids).kids.length Cp.no] /\ AV.agg [iI 8,AV.str (Tr.mk 8 w kids).word,AV.sl true (x + 15) 0 (Tr.mk 8 w kids).kids.length Cp.no] = AV.agg [iI 8,AV.str (Tr.mk 8 w kids).word,AV.sl true (x + 15) 0 (Tr.mk 8 w kids).kids.length Cp.no] /\ TAt F (Tr.mk 8 w kids) x /\ ∃ (K:List Int),LRow [some (Row.lst 25 3 [AV.agg [iI 8,AV.str (Tr.mk 8 w kids).word,AV.sl true (x + 15) 0 (Tr.mk 8 w kids).kids.length Cp.no]]),some (Row.lst 3 1 [iI 4,iI 5,iI 6])] 1 3 K /\ JLen (Tr.mk 8 w kids) K [] /\ ∀ (F':Fz),Up F F' -> AV.str [43] = AV.str [43] /\ iI 8 = iI 8 /\ iI 8 = iI 8 /\ bif decide ((jn (Tr.mk 8 w kids) K []).length + 1 <= 9223372036854775807) then k (AV.str (jn (Tr.mk 8 w kids) K [] ++ [43])) F' else False):=by kernel_rfl
theorem vc13_9 (R:RR) (w:List UInt8) (kids:List Tr) (x:Nat) (k:AV -> Fz -> Prop) (F:Fz):vcx (env13 R (.mk 9 w kids) x) 1000 13 fi13 [exprV (.mk 9 w kids) x] [] (fun v _ => k v) F = (AV.str [63] = AV.str [63] /\ iI 9 = iI 9 /\ iI 9 = iI 9 /\ AV.agg [iI 9,AV.str (Tr.mk 9 w kids).word,AV.sl true (x + 15) 0 (Tr.mk 9 w kids).kids.length Cp.no] = AV.agg [iI 9,AV.str (Tr.mk 9 w kids).word,AV.sl true (x + 15) 0 (Tr.mk 9 w kids).kids.length Cp.no] /\ AV.agg [iI 9,AV.str (Tr.mk 9 w kids).word,AV.sl true (x + 15) 0 (Tr.mk 9 w kids).kids.length Cp.no] = AV.agg [iI 9,AV.str (Tr.mk 9 w kids).word,AV.sl true (x + 15) 0 (Tr.mk 9 w kids).kids.length Cp.no] /\ TAt F (Tr.mk 9 w kids) x /\ ∃ (K:List Int),LRow [some (Row.lst 25 3 [AV.agg [iI 9,AV.str (Tr.mk 9 w kids).word,AV.sl true (x + 15) 0 (Tr.mk 9 w kids).kids.length Cp.no]]),some (Row.lst 3 1 [iI 4,iI 5,iI 6])] 1 3 K /\ JLen (Tr.mk 9 w kids) K [] /\ ∀ (F':Fz),Up F F' -> AV.str [63] = AV.str [63] /\ iI 9 = iI 9 /\ iI 9 = iI 9 /\ bif decide ((jn (Tr.mk 9 w kids) K []).length + 1 <= 9223372036854775807) then k (AV.str (jn (Tr.mk 9 w kids) K [] ++ [63])) F' else False):=by kernel_rfl
mutual
/-- Of the ten kinds,with not too many kids. -/
def Nice:Tr -> Prop
 | .mk k w kids => k <= 9 /\ kids.length <= 100000 /\ w.length <= 100000 /\ (k <= 3 -> kids = []) /\ Nices kids
def Nices:List Tr -> Prop
 | [] => True
 | t :: ts => Nice t /\ Nices ts
end
theorem join_mem_len (sep:List UInt8):∀ (L:List (List UInt8)),∀ y ∈ L,y.length <= (Lib.join L sep).length:=by
 have tail:∀ (r:List (List UInt8)),∀ y ∈ r,y.length <= (Lib.joinTail sep r).length:=by
  intro r
  induction r with
  | nil => intro y h; cases h
  | cons z r ih =>
   intro y h
   unfold Lib.joinTail at ih ⊢
   simp only [List.map_cons,List.flatten_cons,List.length_append]
   rcases List.mem_cons.1 h with rfl | h
   ·omega
   ·have:=ih y h; omega
 intro L
 cases L with
 | nil => intro y h; cases h
 | cons z r =>
  intro y h
  rw [Lib.join_cons,List.length_append]
  rcases List.mem_cons.1 h with rfl | h
  ·omega
  ·have:=tail r y h; omega
theorem IsT.kids {F:Fz} {k:Nat} {w:List UInt8} {kids:List Tr} {x:Nat} (h:IsT F (.mk k w kids) x):∃ l:List (Tr × Nat),l.map Prod.fst = kids /\ Frz F x (kidR l) /\ TAts F l:=by
 simp only [IsT] at h
 obtain ⟨xs,h1,h2,h3⟩:=h
 refine ⟨kids.zip xs,?_,h2,⟨?_⟩⟩
 ·exact List.map_fst_zip (by omega)
 ·have key:∀ (ts:List Tr) (xs:List Nat),IsTs F ts xs -> ∀ p ∈ ts.zip xs,IsT F p.1 p.2:=by
   intro ts
   induction ts with
   | nil => intro xs _ p hp; simp at hp
   | cons t ts ih =>
    intro xs h p hp
    simp only [IsTs] at h
    cases xs with
    | nil => simp at hp
    | cons x xs =>
     simp only [List.zip_cons_cons,List.mem_cons] at hp
     rcases hp with rfl | hp
     ·exact h.1
     ·exact ih xs h.2 p hp
  exact key _ _ h3
theorem nm25 (kk:Int) (w sg:List UInt8) (n nk x:Nat):nmL 5 x [.agg [.int .i64 kk,.str w,.sl true 5 0 n .no],.str sg,.sl false 0 0 nk .no] = [.agg [.int .i64 kk,.str w,tok x n],.str sg,.sl false 0 0 nk .no]:=by kernel_rfl
theorem nmi (K:List Int) (x:Nat):nmRows 5 x [some (irow K)] = [some (irow K)]:=by kernel_rfl
theorem env25l_ok {R:RR} (hR:Free R) (K:List Int) (hK:K.length <= 100000) (sg:List UInt8) (kk:Int) (w:List UInt8) (l:List (Tr × Nat)) (hl:l.length <= 100000) (hs:∀ p ∈ l,ShowOK p.1 /\ (shw p.1).length <= 1000000) (HP:HPt):OKX Try.prog (env25l R K sg kk w l) [] HP :=
 (env25_ok hR K hK l hs HP).addLoop (f:=25) (fi:=fi25) (by kernel_rfl) (i:=0) (body:=.loop (loopOf fi25 0)) (by kernel_rfl) (loop25 hR K hK sg kk w l hl hs HP)
theorem safe25 {R:RR} (hR:Free R) (K:List Int) (hK:K.length <= 100000) (sg:List UInt8) (kk:Int) (w:List UInt8) (l:List (Tr × Nat)) (hl:l.length <= 100000) (hs:∀ p ∈ l,ShowOK p.1 /\ (shw p.1).length <= 1000000) {x:Nat} {F:Fz} (hfr:Frz F x (kidR l)) (hts:TAts F l)
  (hj:(Lib.join (l.map fun p => wth K p.1) sg).length <= 1000000) (k HP:AV -> Rows -> Fz -> Prop) (hk:∀ F',Up F F' -> k (.str (Lib.join (l.map fun p => wth K p.1) sg)) [some (irow K)] F') :
  SafeCallX Try.prog R 25 [.agg [.int .i64 kk,.str w,tok x l.length],.str sg,.sl false 0 0 K.length .no] [some (irow K)] F k HP:=by
 have inner:SafeCallX Try.prog (updR R 5 (kidR l)) 25 [.agg [.int .i64 kk,.str w,.sl true 5 0 l.length .no],.str sg,.sl false 0 0 K.length .no] [some (irow K)] F (fun v h F' => v = .str (Lib.join (l.map fun p => wth K p.1) sg) /\ h = [some (irow K)] /\ Up F F') (fun _ _ _ => False):=by
  refine SafeCallX.post (Q:=fun v h F' => v = .str (Lib.join (l.map fun p => wth K p.1) sg) /\ (∃ tl,h = some (irow K) :: tl) /\ Up F F') (HP:=fun _ _ _ => False) ?_ ?_ ?_
  ·refine SafeCallX.by mixed (env25l_ok hR K hK sg kk w l hl hs _) (f:=25) (fi:=fi25) (by kernel_rfl) 1000 (vc25 R K sg kk w l _ F) ⟨rfl,rfl,rfl,rfl,rfl,rfl,rfl,rfl,hts,fun F' hu => ?_⟩
   have e:=strsOf_row (l.map fun p => wth K p.1)
   refine ⟨rfl,fun j hj => rfl,?_,?_,?_,⟨_,rfl⟩,hu⟩
   ·show (l.map fun p => wth K p.1).length <= 140737488355328
    simp; omega
   ·show (Lib.join _ sg).length <= 140737488355328
    rw [e]; omega
   ·rw [e]
  ·rintro v h' F' _ ⟨rfl,⟨tl,rfl⟩,hu⟩
   exact ToV.fit (FitV.row1 (irow_g K) rfl) (ToV.here ⟨rfl,rfl,hu⟩)
  ·rintro v h' F' _ h; exact h.elim
 have:=SafeCallX.swap (by decide) hfr hR.n hR.q inner (Q1:=k) (HP1:=HP) (by rintro v h' F' _ ⟨rfl,rfl,hu⟩; exact ⟨rfl,nmi K x,hk F' hu⟩) (fun v h' F' _ h => h.elim)
 rwa [nm25,nmi] at this
theorem lrow_view {h:Rows} {b n:Nat} {K:List Int} {f:Nat -> Option Nat} {N:Nat}:RowV f N (irow K) (.lst 3 1 (K.map (.int .i64))) where
 ty:=rfl
 esz:=rfl
 len:=by simp [Row.len]
 get:=fun i e he => by
  simp only [Row.get?] at he ⊢
  cases hb:Nat.blt i K.length with
  | false => rw [hb] at he; cases he
  | true =>
   rw [hb] at he; cases he
   have hi:=blt_of hb
   refine ⟨fun a ha => ones_mem (e:=.int .i64 (K.getD i 0)) rfl a ha,.int .i64 (K.getD i 0),?_,Vw.intI⟩
   rw [List.getElem?_map,List.getElem?_eq_getElem hi,List.getD_eq_getElem?_getD,List.getElem?_eq_getElem hi]
   rfl
theorem spec25_ok {R:RR} (hR:Free R) (t:Tr) (hn:t.kids.length <= 100000) (hs:∀ u ∈ t.kids,ShowOK u /\ (shw u).length <= 1000000) (x:Nat) (HP:HPt):∀ args h k F,spec25 t x args h k F -> SafeCallX Try.prog R 25 args h F k HP:=by
 intro args h k F hk
 unfold spec25 at hk
 split at hk
 ·rename_i a sg b n u
  obtain ⟨rfl,⟨hx⟩,K,⟨hb,rfl,hK⟩,⟨hj⟩,hk⟩:=hk
  obtain ⟨kd,w,kids⟩:=t
  obtain ⟨l,hl,hfr,hts⟩:=hx.kids
  have hl':l.map Prod.fst = kids:=hl
  have hlen:kids.length = l.length:=by rw [<- hl',List.length_map]
  have hS:shwL K kids = l.map fun p => wth K p.1:=by rw [shwL_map,<- hl',List.map_map]; rfl
  have hj':(Lib.join (l.map fun p => wth K p.1) sg).length <= 1000000:=by rw [<- hS]; exact hj
  have main:=safe25 hR K hK sg ((kd:Nat):Int) w l (by rw [<- hlen]; exact hn) (fun p hp => hs p.1 (by show p.1 ∈ kids; rw [<- hl']; exact List.mem_map_of_mem hp)) hfr hts hj' (fun v h' F' => ∃ r' tl,h' = some r' :: tl /\ gnd v = true /\ RowG r' /\ (v = .str (jn (.mk kd w kids) K sg) /\ r' = irow K /\ Up F F')) (fun v h' F' => ∃ r' tl,h' = some r' :: tl /\ gnd v = true /\ RowG r' /\ False) (fun F' hu => ⟨_,[],rfl,rfl,irow_g K,by unfold jn; rw [<- hS]; rfl,rfl,hu⟩)
  rw [<- hlen] at main
  refine (SafeCallX.at1v (b:=b) hb (irow_g K) (lrow_view (h:=h) (b:=b) (n:=0)) (VwL.cons (Vw.gndI rfl) (VwL.cons Vw.strI (VwL.cons (Vw.slE (by decide) rfl) VwL.nil))) main).mono ?_ ?_
  ·rintro v h' F' _ ⟨r',rfl,rfl,rfl,hu⟩; exact hk F' hu
  ·rintro v h' F' _ ⟨r',_,h⟩; exact h.elim
 ·exact hk.elim
theorem env13_ok {R:RR} (hR:Free R) (t:Tr) (hn:t.kids.length <= 100000) (hs:∀ u ∈ t.kids,ShowOK u /\ (shw u).length <= 1000000) (x:Nat) (HP:HPt):OKX Try.prog (env13 R t x) [] HP :=
 (bx_ok R [] HP).addCall (f:=25) (fi:=fi25) (by kernel_rfl) (spec25_ok hR t hn hs x HP)
theorem lrA (o:Option Row):LRow [o,some (.lst 3 1 [.int .i64 4,.int .i64 5,.int .i64 6])] 1 3 kA:=⟨rfl,rfl,by decide⟩
theorem lrB (o:Option Row):LRow [o,some (.lst 3 1 [.int .i64 6,.int .i64 5])] 1 2 kB:=⟨rfl,rfl,by decide⟩
theorem lrC (o:Option Row):LRow [o,some (.lst 3 1 [.int .i64 5])] 1 1 kC:=⟨rfl,rfl,by decide⟩
theorem wth_len {K:List Int} {t:Tr}:(shw t).length <= (wth K t).length:=by
 unfold wth
 cases K.contains ((t.kind:Nat):Int) <;> simp <;> omega
theorem kid_lens {kids:List Tr} {K:List Int} {sep:List UInt8} {n:Nat} (h:(Lib.join (shwL K kids) sep).length <= n):∀ u ∈ kids,(shw u).length <= n:=by
 intro u hu
 have h1:=join_mem_len sep (shwL K kids) (wth K u) (by rw [shwL_map]; exact List.mem_map_of_mem hu)
 have h2:=wth_len (K:=K) (t:=u)
 omega
theorem show_lit {R:RR} {kd:Nat} {w:List UInt8} {kids:List Tr} {x:Nat} {F:Fz} {k HP:AV -> Rows -> Fz -> Prop} {S:List UInt8} (h:SafeCallX Try.prog R 13 [exprV (.mk kd w kids) x] [] F (fun v _ F' => v = .str S /\ Up F F') (fun _ _ _ => False)) (hk:∀ F',Up F F' -> k (.str S) [] F'):SafeCallX Try.prog R 13 [exprV (.mk kd w kids) x] [] F k HP:=by
 refine SafeCallX.post h ?_ ?_
 ·rintro v h' F' _ ⟨rfl,hu⟩
  exact ToV.fit (vE:=.str S) (hE:=[]) ⟨fun _ => none,⟨fun c b hc => absurd hc (Nat.not_lt_zero _),fun c c' b hc => absurd hc (Nat.not_lt_zero _),fun c r hc => by simp [Rows.live] at hc⟩,gnd_vw _ _ _ rfl,fun c hc => absurd hc (Nat.not_lt_zero _),Nat.le_refl _⟩ (ToV.here (hk F' hu))
 ·rintro v h' F' _ h; exact h.elim
theorem show_step (kd:Nat) (w:List UInt8) (kids:List Tr) (hn:Nice (.mk kd w kids)) (hl:(shw (.mk kd w kids)).length <= 1000000) (ih:∀ u ∈ kids,(shw u).length <= 1000000 -> ShowOK u):ShowOK (.mk kd w kids):=by
 intro R hR x F k HP hx hk
 simp only [Nice] at hn
 obtain ⟨h9,hkl,hwl,h3,hnk⟩:=hn
 have env:(∀ u ∈ kids,(shw u).length <= 1000000) -> OKX Try.prog (env13 R (.mk kd w kids) x) [] HP0:=fun h => env13_ok hR (.mk kd w kids) hkl (fun u hu => ⟨ih u hu (h u hu),h u hu⟩) x _
 have e0:OKX Try.prog (env13 R (.mk kd w []) x) [] HP0:=env13_ok hR (.mk kd w []) (by show 0 <= 100000; decide) (fun u hu => by cases hu) x _
 match kd,h9 with
 | 0,_ =>
  cases h3 (by omega)
  exact show_lit (SafeCallX.by mixed e0 (f:=13) (fi:=fi13) (by kernel_rfl) 1000 (vc13_0 R w [] x _ F) ⟨rfl,Up.refl F⟩) hk
 | 1,_ =>
  cases h3 (by omega)
  exact show_lit (SafeCallX.by mixed e0 (f:=13) (fi:=fi13) (by kernel_rfl) 1000 (vc13_1 R w [] x _ F) ⟨rfl,Up.refl F⟩) hk
 | 2,_ =>
  cases h3 (by omega)
  exact show_lit (SafeCallX.by mixed e0 (f:=13) (fi:=fi13) (by kernel_rfl) 1000 (vc13_2 R w [] x _ F) (hcT (decide_eq_true (by omega)) ⟨rfl,Up.refl F⟩)) hk
 | 3,_ =>
  cases h3 (by omega)
  exact show_lit (SafeCallX.by mixed e0 (f:=13) (fi:=fi13) (by kernel_rfl) 1000 (vc13_3 R w [] x _ F) ⟨rfl,Up.refl F⟩) hk
 | 4,_ =>
  have e:shw (.mk 4 w kids) = Lib.join (shwL kA kids) [32]:=rfl
  rw [e] at hl
  refine show_lit (SafeCallX.by mixed (env (kid_lens hl)) (f:=13) (fi:=fi13) (by kernel_rfl) 1000 (vc13_4 R w kids x _ F) ?_) hk
  exact ⟨rfl,⟨hx⟩,kA,lrA _,⟨hl⟩,fun F' hu => ⟨rfl,hu⟩⟩
 | 5,_ =>
  have e:shw (.mk 5 w kids) = Lib.join (shwL kC kids) [124]:=rfl
  rw [e] at hl
  refine show_lit (SafeCallX.by mixed (env (kid_lens hl)) (f:=13) (fi:=fi13) (by kernel_rfl) 1000 (vc13_5 R w kids x _ F) ?_) hk
  exact ⟨rfl,⟨hx⟩,kC,lrC _,⟨hl⟩,fun F' hu => ⟨rfl,hu⟩⟩
 | 6,_ =>
  have e:shw (.mk 6 w kids) = Lib.join (shwL kB kids) [38]:=rfl
  rw [e] at hl
  refine show_lit (SafeCallX.by mixed (env (kid_lens hl)) (f:=13) (fi:=fi13) (by kernel_rfl) 1000 (vc13_6 R w kids x _ F) ?_) hk
  exact ⟨rfl,⟨hx⟩,kB,lrB _,⟨hl⟩,fun F' hu => ⟨rfl,hu⟩⟩
 | 7,_ =>
  have e:shw (.mk 7 w kids) = Lib.join (shwL kA kids) [] ++ [42]:=rfl
  rw [e,List.length_append] at hl
  have hl2:(Lib.join (shwL kA kids) []).length <= 1000000:=by simp at hl; omega
  refine show_lit (SafeCallX.by mixed (env (kid_lens hl2)) (f:=13) (fi:=fi13) (by kernel_rfl) 1000 (vc13_7 R w kids x _ F) ?_) hk
  refine ⟨rfl,rfl,rfl,rfl,rfl,⟨hx⟩,kA,lrA _,⟨hl2⟩,fun F' hu => ⟨rfl,rfl,rfl,hcT ?_ ⟨rfl,hu⟩⟩⟩
  exact decide_eq_true (by show (Lib.join (shwL kA kids) []).length + 1 <= _; omega)
 | 8,_ =>
  have e:shw (.mk 8 w kids) = Lib.join (shwL kA kids) [] ++ [43]:=rfl
  rw [e,List.length_append] at hl
  have hl2:(Lib.join (shwL kA kids) []).length <= 1000000:=by simp at hl; omega
  refine show_lit (SafeCallX.by mixed (env (kid_lens hl2)) (f:=13) (fi:=fi13) (by kernel_rfl) 1000 (vc13_8 R w kids x _ F) ?_) hk
  refine ⟨rfl,rfl,rfl,rfl,rfl,⟨hx⟩,kA,lrA _,⟨hl2⟩,fun F' hu => ⟨rfl,rfl,rfl,hcT ?_ ⟨rfl,hu⟩⟩⟩
  exact decide_eq_true (by show (Lib.join (shwL kA kids) []).length + 1 <= _; omega)
 | 9,_ =>
  have e:shw (.mk 9 w kids) = Lib.join (shwL kA kids) [] ++ [63]:=rfl
  rw [e,List.length_append] at hl
  have hl2:(Lib.join (shwL kA kids) []).length <= 1000000:=by simp at hl; omega
  refine show_lit (SafeCallX.by mixed (env (kid_lens hl2)) (f:=13) (fi:=fi13) (by kernel_rfl) 1000 (vc13_9 R w kids x _ F) ?_) hk
  refine ⟨rfl,rfl,rfl,rfl,rfl,⟨hx⟩,kA,lrA _,⟨hl2⟩,fun F' hu => ⟨rfl,rfl,rfl,hcT ?_ ⟨rfl,hu⟩⟩⟩
  exact decide_eq_true (by show (Lib.join (shwL kA kids) []).length + 1 <= _; omega)
 | k + 10,h => omega
mutual
theorem showOK:∀ (t:Tr),Nice t -> (shw t).length <= 1000000 -> ShowOK t
 | .mk k w kids,hn,hl => show_step k w kids hn hl (showOKs kids (by simp only [Nice] at hn; exact hn.2.2.2.2))
theorem showOKs:∀ (ts:List Tr),Nices ts -> ∀ u ∈ ts,(shw u).length <= 1000000 -> ShowOK u
 | [],_,u,h,_ => by cases h
 | t :: ts,hn,u,h,hl => by
  simp only [Nices] at hn
  rcases List.mem_cons.1 h with e | h
  ·rw [e]; exact showOK t hn.1 (by rw [<- e]; exact hl)
  ·exact showOKs ts hn.2 u h hl
end
mutual
def sz:Tr -> Nat
 | .mk k w kids => 1 + w.length + szs kids
def szs:List Tr -> Nat
 | [] => 0
 | t :: ts => sz t + szs ts
end
mutual
/-- Of the ten kinds; the first four have no kids. -/
def Kinds:Tr -> Prop
 | .mk k w kids => k <= 9 /\ (k <= 3 -> kids = []) /\ Kindss kids
def Kindss:List Tr -> Prop
 | [] => True
 | t :: ts => Kinds t /\ Kindss ts
end
theorem sz_pos (t:Tr):1 <= sz t:=by cases t; simp only [sz]; omega
theorem szs_len:∀ (ts:List Tr),ts.length <= szs ts
 | [] => Nat.le_refl _
 | t :: ts => by simp only [szs,List.length_cons]; have:=szs_len ts; have:=sz_pos t; omega
theorem szs_app:∀ (l:List Tr) (t:Tr),szs (l ++ [t]) = szs l + sz t
 | [],t => by simp [szs]
 | u :: l,t => by simp only [List.cons_append,szs]; rw [szs_app l t]; omega
theorem Kindss.app:∀ {l:List Tr} {t:Tr},Kindss l -> Kinds t -> Kindss (l ++ [t])
 | [],t,_,h => by simp only [List.nil_append,Kindss]; exact ⟨h,trivial⟩
 | u :: l,t,hl,h => by simp only [List.cons_append,Kindss] at hl ⊢; exact ⟨hl.1,Kindss.app hl.2 h⟩
mutual
theorem nice_of:∀ (t:Tr),Kinds t -> sz t <= 100000 -> Nice t
 | .mk k w kids,hk,hs => by
  simp only [Kinds] at hk
  simp only [sz] at hs
  simp only [Nice]
  have:=szs_len kids
  exact ⟨hk.1,by omega,by omega,hk.2.1,nices_of kids hk.2.2 (by omega)⟩
theorem nices_of:∀ (ts:List Tr),Kindss ts -> szs ts <= 100000 -> Nices ts
 | [],_,_ => by simp only [Nices]
 | t :: ts,hk,hs => by
  simp only [Kindss] at hk
  simp only [szs] at hs
  simp only [Nices]
  exact ⟨nice_of t hk.1 (by omega),nices_of ts hk.2 (by omega)⟩
end
theorem lens_cons (x:List UInt8) (xs:List (List UInt8)):Lib.lens (x :: xs) = x.length + Lib.lens xs:=by simp [Lib.lens]
theorem lens_join (sep:List UInt8) (hsep:sep.length <= 1):∀ L:List (List UInt8),(Lib.join L sep).length <= Lib.lens L + L.length:=by
 intro L
 cases L with
 | nil => simp [Lib.join_nil]
 | cons z r =>
  rw [Lib.join_cons,List.length_append,Lib.joinTail_length]
  have:sep.length * r.length <= 1 * r.length:=Nat.mul_le_mul_right _ hsep
  rw [lens_cons,List.length_cons]
  omega
mutual
theorem shw_len:∀ (t:Tr),(shw t).length + 3 <= 8 * sz t
 | .mk k w kids => by
  have h1:∀ (K:List Int) (sep:List UInt8),sep.length <= 1 -> (Lib.join (shwL K kids) sep).length <= 8 * szs kids:=by
   intro K sep hsep
   have h2:=lens_join sep hsep (shwL K kids)
   have h3:=shwL_len K kids
   omega
  simp only [shw,sz]
  have hA:=h1 kA [32] (by simp)
  have hB:=h1 kB [38] (by simp)
  have hC:=h1 kC [124] (by simp)
  have hD:=h1 kA [] (by simp)
  split
  ·omega
  split
  ·simp only [List.length_cons]; omega
  split
  ·simp only [txtW,List.length_cons,List.length_nil]; omega
  split
  ·omega
  split
  ·omega
  split
  ·omega
  split
  ·have:((marksW.drop (k - 7)).take 1).length <= 1:=by simp; omega
   rw [List.length_append]; omega
  ·simp only [List.length_cons,List.length_nil]; omega
theorem shwL_len:∀ (K:List Int) (ts:List Tr),Lib.lens (shwL K ts) + (shwL K ts).length <= 8 * szs ts
 | K,[] => by simp [shwL,Lib.lens,szs]
 | K,t :: ts => by
  have h1:=shw_len t
  have h2:=shwL_len K ts
  simp only [shwL,szs]
  have h3:(bif K.contains ((t.kind:Nat):Int) then [40] ++ shw t ++ [41] else shw t).length <= (shw t).length + 2:=by
   cases K.contains ((t.kind:Nat):Int) <;> simp <;> omega
  rw [lens_cons,List.length_cons]
  omega
end
def Fits (s:List UInt8) (r:Nat -> PR):Prop:=∀ a,a <= s.length -> ∀ t a1,r a = .ok t a1 -> Kinds t /\ sz t + 1 <= 4 * (a1 - a)
section
variable {s:List UInt8} {n:Nat} {alt:Nat -> PR}
theorem sub_len {a e:Nat} (h:e <= s.length):(sub s a e).length <= e - a:=by unfold sub; simp; omega
theorem pWord_fits {kd a:Nat} (hk:kd <= 9) (ha:a <= s.length) {t:Tr} {a1:Nat} (h:pWord s kd a = .ok t a1):Kinds t /\ sz t + 1 <= 4 * (a1 - a):=by
 have hg:=pWord_goes ha h
 unfold pWord at h
 cases hb:Nat.beq (scan wordly s a) a with
 | true => rw [hb] at h; cases h
 | false =>
  rw [hb] at h
  cases h
  have h3:=sub_len (s:=s) (a:=a) (e:=scan wordly s a) hg.2
  simp only [Kinds,Kindss,sz,szs]
  exact ⟨⟨hk,fun _ => trivial,trivial⟩,by omega⟩
theorem pBr_fits (hA:Fits s alt) (hG:Goes s alt) {a:Nat} (ha:a < s.length) {t:Tr} {a1:Nat} (h:pBr s n alt a = .ok t a1):Kinds t /\ sz t + 1 <= 4 * (a1 - a):=by
 unfold pBr at h
 cases hb:Nat.beq n 16 with
 | true => rw [hb] at h; cases h
 | false =>
  rw [hb] at h
  simp only [cond_false] at h
  have h0:=blk_ge (s:=s) (a + 1)
  have h1:=blk_le (s:=s) (a:=a + 1) ha
  cases hc:hbI s (blk s (a + 1)) == 41 with
  | true =>
   rw [hc] at h
   cases h
   simp only [Kinds,Kindss,sz,szs]
   exact ⟨⟨by omega,fun _ => trivial,trivial⟩,by simp; omega⟩
  | false =>
   rw [hc] at h
   simp only [cond_false] at h
   obtain ⟨t1,a2,h2,h3⟩:=PR.bind_ok h
   obtain ⟨h4,h5⟩:=hG _ h1 _ _ h2
   obtain ⟨h6,h7⟩:=hA _ h1 _ _ h2
   cases hd:hbI s a2 == 41 with
   | true =>
    rw [hd] at h3
    cases h3
    exact ⟨h6,by omega⟩
   | false => rw [hd] at h3; cases h3
theorem pAtom_fits (hA:Fits s alt) (hG:Goes s alt) {a:Nat} (ha:a <= s.length) {t:Tr} {a1:Nat} (h:pAtom s n alt a = .ok t a1):Kinds t /\ sz t + 1 <= 4 * (a1 - a):=by
 unfold pAtom at h
 cases h1:hbI s a == 64 with
 | true =>
  rw [h1] at h
  have:=pWord_fits (by omega) (hb_lt h1 (by decide)) h
  exact ⟨this.1,by omega⟩
 | false =>
  rw [h1] at h
  simp only [cond_false] at h
  cases h2:hbI s a == 35 with
  | true =>
   rw [h2] at h
   simp only [cond_true] at h
   cases h3:(exN s txtW a).1 with
   | true =>
    rw [h3] at h
    cases h
    have:=exN_ok txtW a ha (by decide) h3
    have e:txtW.length = 5:=rfl
    rw [e] at this
    simp only [Kinds,Kindss,sz,szs]
    exact ⟨⟨by omega,fun _ => trivial,trivial⟩,by simp; omega⟩
   | false => rw [h3] at h; cases h
  | false =>
   rw [h2] at h
   simp only [cond_false] at h
   cases h3:hbI s a == 40 with
   | true =>
    rw [h3] at h
    exact pBr_fits hA hG (hb_lt h3 (by decide)) h
   | false =>
    rw [h3] at h
    exact pWord_fits (by omega) ha h
theorem pMarks_fits:∀ (f:Nat) (t:Tr) (a c:Nat),a <= s.length -> c < a -> Kinds t -> sz t + 1 <= 4 * (a - c) -> Kinds (pMarks s f t a).1 /\ sz (pMarks s f t a).1 + 1 <= 4 * ((pMarks s f t a).2 - c)
 | 0,t,a,c,ha,hc,hk,hz => ⟨hk,hz⟩
 | f + 1,t,a,c,ha,hc,hk,hz => by
  unfold pMarks
  cases h:markOf (hbI s a) with
  | none => exact ⟨hk,hz⟩
  | some k =>
   have h1:=markOf_lt h
   have h2:=blk_ge (s:=s) (a + 1)
   refine pMarks_fits f (.mk (7 + k) [] [t]) (blk s (a + 1)) c (blk_le h1.1) (by omega) ?_ ?_
   ·simp only [Kinds,Kindss]
    exact ⟨by omega,fun h => by omega,hk,trivial⟩
   ·simp only [sz,szs,List.length_nil]; omega
theorem pItem_fits (hA:Fits s alt) (hG:Goes s alt) {a:Nat} (ha:a <= s.length) {t:Tr} {a1:Nat} (h:pItem s n alt a = .ok t a1):Kinds t /\ sz t + 1 <= 4 * (a1 - a):=by
 obtain ⟨t1,a2,h1,h2⟩:=PR.bind_ok h
 have h3:=pAtom_goes hG ha h1
 have h5:=pAtom_fits hA hG ha h1
 cases h2
 have h4:=blk_ge (s:=s) a2
 exact pMarks_fits (s.length + 1) t1 (blk s a2) a (blk_le h3.2) (by omega) h5.1 (by omega)
theorem rowT_fits {kd:Nat} (hk:4 <= kd /\ kd <= 9) {l:List Tr} {d:Nat} (hl:Kindss l) (hz:szs l + l.length <= 4 * d) (hne:l ≠ []):Kinds (rowT kd l) /\ sz (rowT kd l) + 1 <= 4 * d:=by
 match l with
 | [] => exact absurd rfl hne
 | [t] =>
  simp only [Kindss] at hl
  simp only [szs,List.length_cons,List.length_nil] at hz
  exact ⟨hl.1,by show sz t + 1 <= _; omega⟩
 | t :: u :: l =>
  simp only [rowT,Kinds,sz,List.length_nil]
  refine ⟨⟨hk.2,fun h => by omega,hl⟩,?_⟩
  simp only [szs,List.length_cons] at hz ⊢
  omega
theorem pSeqs_fits (hA:Fits s alt) (hG:Goes s alt):∀ (f:Nat) (l:List Tr) (a c:Nat),a <= s.length -> c <= a -> l ≠ [] -> Kindss l -> szs l + l.length <= 4 * (a - c) -> ∀ t a1,pSeqs s n alt f l a = .ok t a1 -> Kinds t /\ sz t + 1 <= 4 * (a1 - c)
 | 0,l,a,c,ha,hc,hne,hk,hz,t,a1,h => by cases h; exact rowT_fits (by omega) hk hz hne
 | f + 1,l,a,c,ha,hc,hne,hk,hz,t,a1,h => by
  unfold pSeqs at h
  cases hb:begins (hbI s a) with
  | false => rw [hb] at h; cases h; exact rowT_fits (by omega) hk hz hne
  | true =>
   rw [hb] at h
   obtain ⟨t1,a2,h1,h2⟩:=PR.bind_ok h
   have h3:=pItem_goes hG ha h1
   have h4:=pItem_fits hA hG ha h1
   exact pSeqs_fits hA hG f _ a2 c h3.2 (by omega) (by simp) (hk.app h4.1) (by rw [szs_app]; simp only [List.length_append,List.length_cons,List.length_nil]; omega) _ _ h2
theorem pSeq_fits (hA:Fits s alt) (hG:Goes s alt):Fits s (pSeq s n alt):=by
 intro a ha t a1 h
 obtain ⟨t1,a2,h1,h2⟩:=PR.bind_ok h
 have h0:=blk_ge (s:=s) a
 have h3:=pItem_goes hG (blk_le ha) h1
 have h4:=pItem_fits hA hG (blk_le ha) h1
 exact pSeqs_fits hA hG _ [t1] a2 a h3.2 (by omega) (by simp) (by simp only [Kindss]; exact ⟨h4.1,trivial⟩) (by simp only [szs,List.length_cons,List.length_nil]; omega) _ _ h2
theorem pJoins_fits {sg:Int} (hs:sg ≠ 0) {kd:Nat} (hkd:4 <= kd /\ kd <= 9) {part:Nat -> PR} (hP:Fits s part) (hG:Goes s part):∀ (f:Nat) (l:List Tr) (a c:Nat),a <= s.length -> c <= a -> l ≠ [] -> Kindss l -> szs l + l.length <= 4 * (a - c) -> ∀ t a1,pJoins s sg kd part f l a = .ok t a1 -> Kinds t /\ sz t + 1 <= 4 * (a1 - c)
 | 0,l,a,c,ha,hc,hne,hk,hz,t,a1,h => by cases h; exact rowT_fits hkd hk hz hne
 | f + 1,l,a,c,ha,hc,hne,hk,hz,t,a1,h => by
  unfold pJoins at h
  cases hb:hbI s a == sg with
  | false => rw [hb] at h; cases h; exact rowT_fits hkd hk hz hne
  | true =>
   rw [hb] at h
   obtain ⟨t1,a2,h1,h2⟩:=PR.bind_ok h
   have hlt:=hb_lt hb hs
   have h3:=hG (a + 1) hlt _ _ h1
   have h4:=hP (a + 1) hlt _ _ h1
   exact pJoins_fits hs hkd hP hG f _ a2 c h3.2 (by omega) (by simp) (hk.app h4.1) (by rw [szs_app]; simp only [List.length_append,List.length_cons,List.length_nil]; omega) _ _ h2
theorem pJoin_fits {sg:Int} (hs:sg ≠ 0) {kd:Nat} (hkd:4 <= kd /\ kd <= 9) {part:Nat -> PR} (hP:Fits s part) (hG:Goes s part):Fits s (pJoin s sg kd part):=by
 intro a ha t a1 h
 obtain ⟨t1,a2,h1,h2⟩:=PR.bind_ok h
 have h3:=hG a ha _ _ h1
 have h4:=hP a ha _ _ h1
 exact pJoins_fits hs hkd hP hG _ [t1] a2 a h3.2 (by omega) (by simp) (by simp only [Kindss]; exact ⟨h4.1,trivial⟩) (by simp only [szs,List.length_cons,List.length_nil]; omega) _ _ h2
theorem pAltD_fits:∀ d,Fits s (pAltD s d)
 | 0 => fun a ha t a1 h => by cases h
 | d + 1 => pJoin_fits (by decide) (by omega) (pJoin_fits (by decide) (by omega) (pSeq_fits (pAltD_fits d) (pAltD_goes d)) (pSeq_goes (pAltD_goes d))) (pAll_goes (pAltD_goes d))
theorem parse_fits {t:Tr} (h:parse s = .ok t 0):Nice t /\ (shw t).length <= 10000 /\ sz t <= 1024:=by
 unfold parse at h
 cases hb:decide (s.length > 256) with
 | true => rw [hb] at h; cases h
 | false =>
  rw [hb] at h
  simp only [cond_false] at h
  obtain ⟨t1,a1,h1,h2⟩:=PR.bind_ok h
  have h3:=pAltD_fits (s:=s) 17 0 (Nat.zero_le _) _ _ h1
  have h4:=pAltD_goes (s:=s) 17 0 (Nat.zero_le _) _ _ h1
  cases hc:decide (a1 < s.length) with
  | true => rw [hc] at h2; cases h2
  | false =>
   rw [hc] at h2
   cases h2
   have:=of_decide_eq_false hb
   have h5:=shw_len t
   exact ⟨nice_of t h3.1 (by omega),by omega,by omega⟩
end
def spec10:CallSpecX:=fun args h k => match args with
 | [.str s] => fun F => (∀ t,parse s = .ok t 0 -> ∀ x F',Up F F' -> TAt F' t x -> k (.tup [exprV t x,.int .i64 0,.int .i64 0]) h F') /\
   (∀ a c,parse s = .err a c -> ∀ F',Up F F' -> k (.tup [.agg [.int .i64 0,.str [],.nils],.int .i64 (a:Nat),.int .i64 (c:Nat)]) h F')
 | _ => botX
theorem spec10_ok (R:RR) (HP:HPt):∀ args h k F,spec10 args h k F -> SafeCallX Try.prog R 10 args h F k HP:=by
 intro args h k F hk
 unfold spec10 at hk
 split at hk
 ·rename_i s
  refine (SafeCallX.at0 (Q:=fun v F' => k v h F') (HP:=fun _ _ => False) rfl (safe10 R s F _ _ ⟨?_,?_⟩)).mono ?_ ?_
  ·intro t ht x F' hu hx; exact ⟨rfl,hk.1 t ht x F' hu hx⟩
  ·intro a c hc F' hu; exact ⟨rfl,hk.2 a c hc F' hu⟩
  ·rintro v h' F' _ ⟨rfl,h⟩; exact h
  ·rintro v h' F' _ ⟨_,h⟩; exact h.elim
 ·exact hk.elim
structure NiceT (t:Tr):Prop where
 nice:Nice t
 len:(shw t).length <= 10000
def spec13:CallSpecX:=fun args h k => match args with
 | [a] => fun F => ∃ (t:Tr) (x:Nat),a = exprV t x /\ TAt F t x /\ NiceT t /\ ∀ F',Up F F' -> k (.str (shw t)) h F'
 | _ => botX
theorem spec13_ok {R:RR} (hR:Free R) (HP:HPt):∀ args h k F,spec13 args h k F -> SafeCallX Try.prog R 13 args h F k HP:=by
 intro args h k F hk
 unfold spec13 at hk
 split at hk
 ·obtain ⟨t,x,rfl,hx,hn,hk⟩:=hk
  exact show_at (showOK t hn.nice (by have:=hn.len; omega)) hR hx.is h k HP hk
 ·exact hk.elim
noncomputable abbrev envS (R:RR):EnvX:=((bx R).addCall 10 spec10).addCall 13 spec13
theorem envS_ok {R:RR} (hR:Free R) (HP:HPt):OKX Try.prog (envS R) [] HP :=
 ((bx_ok R [] HP).addCall (f:=10) (fi:=fi10) (by kernel_rfl) (spec10_ok R HP)).addCall (f:=13) (fi:=fi13) (by kernel_rfl) (spec13_ok hR HP)
def spkT:Tr:=.mk 6 [] [.mk 4 [] [.mk 1 [97] [],.mk 7 [] [.mk 5 [] [.mk 1 [98] [],.mk 1 [99] []]]],.mk 3 [] []]
theorem shw_spk:shw spkT = [97,32,40,98,124,99,41,42,38,35,116,101,120,116]:=by kernel_rfl
def nst:Nat -> List UInt8
 | 0 => [97]
 | n + 1 => 40 :: (nst n ++ [41])
def spec9:CallSpecX:=fun args h k => match args with
 | [] => fun F => ∀ F',Up F F' -> k (.bool true) h F'
 | _ => botX
noncomputable abbrev envZ (R:RR):EnvX:=(envS R).addCall 9 spec9
noncomputable abbrev tm4 (m:Int) (s:List UInt8) (i:Int):List AV:=[.int .i64 m,.any,.any,.str s,.int .i64 i,.any,.any,.any,.any,.any,.any,.any,.any,.any,.any,.any,.any,.any,.any,.any,.any,.any,.any,.any,.any,.any,.any,.any,.any,.any,.any,.any,.any,.any,.any,.any,.any,.any,.any,.any,.any,.any,.any,.any,.any,.any]
noncomputable abbrev fam4 (m i:Nat):St:=⟨tm4 (m:Nat) (nst i) (i:Nat),[]⟩
def lp4 (mI:Int) (m:Nat):LoopSpX:=fun st k F => mI = (m:Nat) /\ st.tmps.length = 46 /\ nthV st.tmps 0 = .int .i64 mI /\ nthV st.tmps 3 = .str [97] /\ nthV st.tmps 4 = .int .i64 0 /\ st.rows = [] /\ k .normal (fam4 m m) F
theorem vc9 (R:RR) (k:AV -> Rows -> Fz -> Prop) (F:Fz):vcx (envS R) 1000 9 fi9 [] [] k F = ((∀ (t:Tr),PR.ok (Tr.mk 6 [] [Tr.mk 4 [] [Tr.mk 1 [97] [],Tr.mk 7 [] [Tr.mk 5 [] [Tr.mk 1 [98] [],Tr.mk 1 [99] []]]],Tr.mk 3 [] []]) 0 = PR.ok t 0 -> ∀ (x:Nat) (F':Fz),Up F F' -> TAt F' t x -> bif (↑t.kind:Int) == 6 then bif (↑t.kids.length:Int) == 2 then ∃ (t_1:Tr),∃ (x_1:Nat),AV.agg [iI (↑t.kind:Int),AV.str t.word,AV.sl true (x + 15) 0 t.kids.length Cp.no] = AV.agg [iI (↑t_1.kind:Int),AV.str t_1.word,AV.sl true (x_1 + 15) 0 t_1.kids.length Cp.no] /\ TAt F' t_1 x_1 /\ NiceT t_1 /\ ∀ (F'_1:Fz),Up F' F'_1 -> k (AV.bool (shw t_1 == [97,32,40,98,124,99,41,42,38,35,116,101,120,116])) [some (Row.lst 25 3 [AV.agg [iI (↑t.kind:Int),AV.str t.word,AV.sl true (x + 15) 0 t.kids.length Cp.no]])] F'_1 else k (AV.bool false) [some (Row.lst 25 3 [AV.agg [iI (↑t.kind:Int),AV.str t.word,AV.sl true (x + 15) 0 t.kids.length Cp.no]])] F' else k (AV.bool false) [some (Row.lst 25 3 [AV.agg [iI (↑t.kind:Int),AV.str t.word,AV.sl true (x + 15) 0 t.kids.length Cp.no]])] F') /\ ∀ (a c:Nat),PR.ok (Tr.mk 6 [] [Tr.mk 4 [] [Tr.mk 1 [97] [],Tr.mk 7 [] [Tr.mk 5 [] [Tr.mk 1 [98] [],Tr.mk 1 [99] []]]],Tr.mk 3 [] []]) 0 = PR.err a c -> ∀ (F':Fz),Up F F' -> bif (↑c:Int) == 0 then bif (↑a:Int) == 0 then k (AV.bool false) [some (Row.lst 25 3 [AV.agg [iI 0,AV.str [],AV.nils]])] F' else k (AV.bool false) [some (Row.lst 25 3 [AV.agg [iI 0,AV.str [],AV.nils]])] F' else k (AV.bool false) [some (Row.lst 25 3 [AV.agg [iI 0,AV.str [],AV.nils]])] F'):=by kernel_rfl
theorem vc4 (R:RR) (n mI:Int) (m:Nat) (k:AV -> Fz -> Prop) (F:Fz):vcx ((envZ R).addLoop 4 0 (lp4 mI m)) 1000 4 fi4 [.int .i64 n] [] (fun v _ => k v) F = (∀ (F':Fz),Up F F' -> mI = (↑m:Int) /\ 46 = 46 /\ iI (IntKind.i64.wrap (↑(BitVec.ofInt IntKind.i64.bits n &&& BitVec.ofInt IntKind.i64.bits 31).toNat:Int)) = iI mI /\ AV.str [97] = AV.str [97] /\ iI 0 = iI 0 /\ ([]:Rows) = [] /\ (∀ (t:Tr),parse (nst m) = PR.ok t 0 -> ∀ (x:Nat) (F'_1:Fz),Up F' F'_1 -> TAt F'_1 t x -> bif decide ((↑m:Int) > 16) then k (AV.bool false) F'_1 else bif (↑t.kind:Int) == 1 then k (AV.bool (t.word == [97])) F'_1 else k (AV.bool false) F'_1) /\ ∀ (a c:Nat),parse (nst m) = PR.err a c -> ∀ (F'_1:Fz),Up F' F'_1 -> bif decide ((↑m:Int) > 16) then bif (↑c:Int) == 5 then k (AV.bool ((↑a:Int) == 16)) F'_1 else k (AV.bool false) F'_1 else bif (↑c:Int) == 0 then k (AV.bool false) F'_1 else k (AV.bool false) F'_1):=by kernel_rfl
theorem spkT_nice:NiceT spkT:=⟨by simp [spkT,Nice,Nices],by rw [shw_spk]; decide⟩
theorem nil_fit {R:RR} {v:AV} {h:Rows} {F:Fz} {S:AV -> Rows -> Fz -> Prop} (hg:gnd v = true) (hs:S v [] F):ToV R 0 v h F S :=
 ToV.fit (vE:=v) (hE:=[]) ⟨fun _ => none,⟨fun c b hc => absurd hc (Nat.not_lt_zero _),fun c c' b hc => absurd hc (Nat.not_lt_zero _),fun c r hc => by simp [Rows.live] at hc⟩,gnd_vw _ _ _ hg,fun c hc => absurd hc (Nat.not_lt_zero _),Nat.le_refl _⟩ (ToV.here hs)
theorem safe9 {R:RR} (hR:Free R) (F:Fz) (HP:HPt):SafeCallX Try.prog R 9 [] [] F (fun v h F' => gnd v = true /\ (v = .bool true /\ Up F F')) (fun v h F' => gnd v = true /\ False):=by
 refine SafeCallX.post (Q:=fun v h F' => v = .bool true /\ Up F F') (HP:=fun _ _ _ => False) ?_ ?_ ?_
 ·refine SafeCallX.by mixed (envS_ok hR _) (f:=9) (fi:=fi9) (by kernel_rfl) 1000 (vc9 R _ F) ⟨?_,?_⟩
  ·intro t ht x F' hu hx
   cases ht
   refine hcT rfl (hcT rfl ⟨spkT,x,rfl,hx,spkT_nice,fun F2 hu2 => ⟨?_,hu.trans hu2⟩⟩)
   rw [shw_spk]; rfl
  ·intro a c h; cases h
 ·rintro v h' F' _ ⟨rfl,hu⟩; exact nil_fit rfl ⟨rfl,rfl,hu⟩
 ·rintro v h' F' _ h; exact h.elim
theorem spec9_ok {R:RR} (hR:Free R) (HP:HPt):∀ args h k F,spec9 args h k F -> SafeCallX Try.prog R 9 args h F k HP:=by
 intro args h k F hk
 unfold spec9 at hk
 split at hk
 ·refine (SafeCallX.at0 rfl (safe9 hR F HP)).mono ?_ ?_
  ·rintro v h' F' _ ⟨rfl,rfl,hu⟩; exact hk F' hu
  ·rintro v h' F' _ ⟨_,h⟩; exact h.elim
 ·exact hk.elim
theorem envZ_ok {R:RR} (hR:Free R) (HP:HPt):OKX Try.prog (envZ R) [] HP :=
 (envS_ok hR HP).addCall (f:=9) (fi:=fi9) (by kernel_rfl) (spec9_ok hR HP)
theorem vr4 (R:RR) (m i:Nat) (k:Exit -> St -> Fz -> Prop) (F:Fz):rnx (bx R) 1000 4 (loopOf fi4 0) (fam4 m i) k F =
  (bif decide ((i:Int) < (m:Int)) then
   bif decide (1 + (nst i).length <= 9223372036854775807) then
    bif decide (([40] ++ nst i).length + 1 <= 9223372036854775807) then
     k .normal ⟨[.int .i64 (m:Nat),.any,.any,.str ([40] ++ nst i ++ [41]),.int .i64 (IntKind.i64.wrap ((i:Int) + 1)),.any,.any,.any,.any,.any,.any,.any,.int .i64 (i:Int),.int .i64 (m:Int),.bool true,.int .i64 (i:Int),.int .i64 (IntKind.i64.wrap ((i:Int) + 1)),.str (nst i),.str ([40] ++ nst i),.str ([40] ++ nst i ++ [41]),.any,.any,.any,.any,.any,.any,.any,.any,.any,.any,.any,.any,.any,.any,.any,.any,.any,.any,.any,.any,.any,.any,.any,.any,.any,.any],[]⟩ F
    else False
   else False
  else k (.exit 0) ⟨[.int .i64 (m:Nat),.any,.any,.str (nst i),.int .i64 (i:Nat),.any,.any,.any,.any,.any,.any,.any,.int .i64 (i:Int),.int .i64 (m:Int),.bool false,.any,.any,.any,.any,.any,.any,.any,.any,.any,.any,.any,.any,.any,.any,.any,.any,.any,.any,.any,.any,.any,.any,.any,.any,.any,.any,.any,.any,.any,.any,.any],[]⟩ F):=by kernel_rfl
theorem nst_len:∀ i,(nst i).length = 2 * i + 1
 | 0 => rfl
 | i + 1 => by simp [nst,nst_len i]; omega
theorem tm4_spr (m:Int) (s:List UInt8) (i:Int):tm4 m s i = spr [(0,.int .i64 m),(3,.str s),(4,.int .i64 i)] 0 46:=by kernel_rfl
theorem loop4 (R:RR) (HP:HPt) (mI:Int) (m:Nat) (hm:m <= 31):∀ st k F,lp4 mI m st k F -> SafeX Try.prog R [] (.block 0 (.loop (loopOf fi4 0))) st F k HP:=by
 rintro ⟨TM,rows⟩ k F ⟨rfl,h0,h1,h2,h3,h4,hk⟩
 simp only at h0 h1 h2 h3 h4
 subst h4
 refine SafeX.loop_block (Inv:=fun n st F' => F' = F /\ ∃ i,i <= m /\ n = m - i /\ st = fam4 m i) ?_ ?_
 ·refine ToX.fit (stE:=fam4 m 0) (Fit.nil ?_) (ToX.here ⟨_,rfl,0,Nat.zero_le _,rfl,rfl⟩)
  show VwL _ 0 (tm4 (m:Nat) [97] 0) TM
  rw [tm4_spr]
  exact VwL.ofKnown h0 ⟨by rw [h1]; exact Vw.intI,by rw [h2]; exact Vw.strI,by rw [h3]; exact Vw.intI,trivial⟩
 ·rintro n st' F' ⟨rfl,i,hi,rfl,rfl⟩
  refine SafeX.by mixed (bx_ok R [] HP) (f:=4) (fi:=fi4) (i:=0) (by kernel_rfl) (b:=.loop (loopOf fi4 0)) (by kernel_rfl) (subs_loop _) 1000 (vr4 R m i _ F') ?_
  have hl:=nst_len i
  refine hcB (fun h => hcT (decide_eq_true (by omega)) (hcT (decide_eq_true (by simp; omega)) ?_)) fun h => ?_
  ·have hlt:i < m:=by have:=of_decide_eq_true h; omega
   refine ToX.fit (stE:=fam4 m (i + 1)) (Fit.nil ?_) (ToX.here ⟨m - (i + 1),by omega,rfl,i + 1,hlt,rfl,rfl⟩)
   rw [wrapSucc i (by omega)]
   have e:nst (i + 1) = [40] ++ nst i ++ [41]:=rfl
   show VwL _ 0 (tm4 (m:Nat) (nst (i + 1)) ((i + 1:Nat):Int)) _
   rw [e]
   (repeat' (first | with_reducible exact VwL.nil | with_reducible refine VwL.cons ?_ ?_ | with_reducible exact Vw.anyI | with_reducible exact Vw.strI | with_reducible exact Vw.boolI | with_reducible exact Vw.intI | with_reducible exact Vw.nilsI | exact Vw.ptrI (by simp) rfl | exact Vw.slI (by simp) rfl | with_reducible refine Vw.aggI ?_ | exact Vw.gndI rfl))
  ·have hge:i = m:=by have:=of_decide_eq_false h; omega
   subst hge
   refine ToX.fit (stE:=fam4 i i) (Fit.nil (by (repeat' (first | with_reducible exact VwL.nil | with_reducible refine VwL.cons ?_ ?_ | with_reducible exact Vw.anyI | with_reducible exact Vw.strI | with_reducible exact Vw.boolI | with_reducible exact Vw.intI | with_reducible exact Vw.nilsI | exact Vw.ptrI (by simp) rfl | exact Vw.slI (by simp) rfl | with_reducible refine Vw.aggI ?_ | exact Vw.gndI rfl)))) (ToX.here hk)
theorem and31 (n:Int):∃ m:Nat,m <= 31 /\ IntKind.i64.wrap (((BitVec.ofInt IntKind.i64.bits n &&& BitVec.ofInt IntKind.i64.bits 31).toNat:Nat):Int) = (m:Nat):=by
 refine ⟨(BitVec.ofInt IntKind.i64.bits n &&& BitVec.ofInt IntKind.i64.bits 31).toNat,?_,?_⟩
 ·rw [BitVec.toNat_and]
  have:(BitVec.ofInt IntKind.i64.bits 31).toNat = 31:=by decide
  rw [this]
  exact Nat.and_le_right
 ·have h:(BitVec.ofInt IntKind.i64.bits n &&& BitVec.ofInt IntKind.i64.bits 31).toNat <= 31:=by
   rw [BitVec.toNat_and]
   have:(BitVec.ofInt IntKind.i64.bits 31).toNat = 31:=by decide
   rw [this]
   exact Nat.and_le_right
  rw [wrapI64 _ (by omega) (by omega)]
theorem pn0:parse (nst 0) = .ok (.mk 1 [97] []) 0:=by kernel_rfl
theorem pn1:parse (nst 1) = .ok (.mk 1 [97] []) 0:=by kernel_rfl
theorem pn2:parse (nst 2) = .ok (.mk 1 [97] []) 0:=by kernel_rfl
theorem pn3:parse (nst 3) = .ok (.mk 1 [97] []) 0:=by kernel_rfl
theorem pn4:parse (nst 4) = .ok (.mk 1 [97] []) 0:=by kernel_rfl
theorem pn5:parse (nst 5) = .ok (.mk 1 [97] []) 0:=by kernel_rfl
theorem pn6:parse (nst 6) = .ok (.mk 1 [97] []) 0:=by kernel_rfl
theorem pn7:parse (nst 7) = .ok (.mk 1 [97] []) 0:=by kernel_rfl
theorem pn8:parse (nst 8) = .ok (.mk 1 [97] []) 0:=by kernel_rfl
theorem pn9:parse (nst 9) = .ok (.mk 1 [97] []) 0:=by kernel_rfl
theorem pn10:parse (nst 10) = .ok (.mk 1 [97] []) 0:=by kernel_rfl
theorem pn11:parse (nst 11) = .ok (.mk 1 [97] []) 0:=by kernel_rfl
theorem pn12:parse (nst 12) = .ok (.mk 1 [97] []) 0:=by kernel_rfl
theorem pn13:parse (nst 13) = .ok (.mk 1 [97] []) 0:=by kernel_rfl
theorem pn14:parse (nst 14) = .ok (.mk 1 [97] []) 0:=by kernel_rfl
theorem pn15:parse (nst 15) = .ok (.mk 1 [97] []) 0:=by kernel_rfl
theorem pn16:parse (nst 16) = .ok (.mk 1 [97] []) 0:=by kernel_rfl
theorem pn17:parse (nst 17) = .err 16 5:=by kernel_rfl
theorem pn18:parse (nst 18) = .err 16 5:=by kernel_rfl
theorem pn19:parse (nst 19) = .err 16 5:=by kernel_rfl
theorem pn20:parse (nst 20) = .err 16 5:=by kernel_rfl
theorem pn21:parse (nst 21) = .err 16 5:=by kernel_rfl
theorem pn22:parse (nst 22) = .err 16 5:=by kernel_rfl
theorem pn23:parse (nst 23) = .err 16 5:=by kernel_rfl
theorem pn24:parse (nst 24) = .err 16 5:=by kernel_rfl
theorem pn25:parse (nst 25) = .err 16 5:=by kernel_rfl
theorem pn26:parse (nst 26) = .err 16 5:=by kernel_rfl
theorem pn27:parse (nst 27) = .err 16 5:=by kernel_rfl
theorem pn28:parse (nst 28) = .err 16 5:=by kernel_rfl
theorem pn29:parse (nst 29) = .err 16 5:=by kernel_rfl
theorem pn30:parse (nst 30) = .err 16 5:=by kernel_rfl
theorem pn31:parse (nst 31) = .err 16 5:=by kernel_rfl
theorem pn:∀ m,m <= 31 -> parse (nst m) = if m <= 16 then .ok (.mk 1 [97] []) 0 else .err 16 5:=by
 intro m hm
 match m,hm with
 | 0,_ => exact pn0
 | 1,_ => exact pn1
 | 2,_ => exact pn2
 | 3,_ => exact pn3
 | 4,_ => exact pn4
 | 5,_ => exact pn5
 | 6,_ => exact pn6
 | 7,_ => exact pn7
 | 8,_ => exact pn8
 | 9,_ => exact pn9
 | 10,_ => exact pn10
 | 11,_ => exact pn11
 | 12,_ => exact pn12
 | 13,_ => exact pn13
 | 14,_ => exact pn14
 | 15,_ => exact pn15
 | 16,_ => exact pn16
 | 17,_ => exact pn17
 | 18,_ => exact pn18
 | 19,_ => exact pn19
 | 20,_ => exact pn20
 | 21,_ => exact pn21
 | 22,_ => exact pn22
 | 23,_ => exact pn23
 | 24,_ => exact pn24
 | 25,_ => exact pn25
 | 26,_ => exact pn26
 | 27,_ => exact pn27
 | 28,_ => exact pn28
 | 29,_ => exact pn29
 | 30,_ => exact pn30
 | 31,_ => exact pn31
 | m + 32,h => omega
theorem free_RX:Free RX:=⟨rfl,RX_quits 5⟩
theorem nests_ok (n:Int):SafeCallX Try.prog RX 4 [.int .i64 n] [] Fz.empty (fun v _ _ => v = .bool true) (fun _ _ _ => False):=by
 obtain ⟨m,hm,e⟩:=and31 n
 refine SafeCallX.by mixed ((envZ_ok free_RX _).addLoop (f:=4) (fi:=fi4) (by kernel_rfl) (i:=0) (body:=.loop (loopOf fi4 0)) (by kernel_rfl) (loop4 RX _ (m:Nat) m hm)) (f:=4) (fi:=fi4) (by kernel_rfl) 1000 (vc4 RX n (m:Nat) m (fun v _ => v = .bool true) _) ?_
 intro F' hu
 refine ⟨rfl,rfl,by rw [e],rfl,rfl,rfl,?_,?_⟩
 ·intro t ht x F2 hu2 hx
  rw [pn m hm] at ht
  split at ht
  ·rename_i h
   cases ht
   exact hcF (by simp; omega) (hcT rfl rfl)
  ·cases ht
 ·intro a c hc F2 hu2
  rw [pn m hm] at hc
  split at hc
  ·cases hc
  ·rename_i h
   cases hc
   exact hcT (by simp; omega) (hcT rfl rfl)
theorem nests_walk (n:Int) (w:World):Calls Try.prog 4 #[.int .i64 n] w fun e w' => e = .returned (.bool true) /\ Below w.heap.size w w' :=
 (nests_ok n).law #[.int .i64 n] w (by simp [DenL,Den])
#print axioms nests_walk
def NZ (r:PR):Prop:=∀ a c,r = .err a c -> c ≠ 0
theorem NZ.ok {t:Tr} {a:Nat}:NZ (.ok t a):=fun _ _ h => by cases h
theorem NZ.err {a c:Nat} (h:c ≠ 0):NZ (.err a c):=fun _ _ e => by cases e; exact h
theorem NZ.bind {r:PR} {k:Tr -> Nat -> PR} (h:NZ r) (hk:∀ t a,NZ (k t a)):NZ (r.bind k):=by
 cases r with
 | ok t a => exact hk t a
 | err a c => exact h
theorem NZ.cond {b:Bool} {x y:PR} (hx:NZ x) (hy:NZ y):NZ (bif b then x else y):=by cases b <;> assumption
section
variable {s:List UInt8} {n:Nat} {alt:Nat -> PR} (hA:∀ a,NZ (alt a))
include hA
theorem pAtom_nz (a:Nat):NZ (pAtom s n alt a) :=
 .cond (.cond (.err (by decide)) .ok) (.cond (.cond .ok (.err (by decide))) (.cond (.cond (.err (by decide)) (.cond .ok (.bind (hA _) fun _ _ => .cond .ok (.err (by decide))))) (.cond (.err (by decide)) .ok)))
theorem pItem_nz (a:Nat):NZ (pItem s n alt a):=.bind (pAtom_nz hA a) fun _ _ => .ok
theorem pSeqs_nz:∀ f l a,NZ (pSeqs s n alt f l a)
 | 0,l,a => .ok
 | f + 1,l,a => .cond (.bind (pItem_nz hA a) fun _ _ => pSeqs_nz f _ _) .ok
theorem pSeq_nz (a:Nat):NZ (pSeq s n alt a):=.bind (pItem_nz hA _) fun _ _ => pSeqs_nz hA _ _ _
end
section
variable {s:List UInt8} {sg:Int} {kd:Nat} {part:Nat -> PR} (hP:∀ a,NZ (part a))
include hP
theorem pJoins_nz:∀ f l a,NZ (pJoins s sg kd part f l a)
 | 0,l,a => .ok
 | f + 1,l,a => .cond (.bind (hP _) fun _ _ => pJoins_nz f _ _) .ok
theorem pJoin_nz (a:Nat):NZ (pJoin s sg kd part a):=.bind (hP _) fun _ _ => pJoins_nz hP _ _ _
end
theorem pAltD_nz {s:List UInt8}:∀ d a,NZ (pAltD s d a)
 | 0,a => .err (by decide)
 | d + 1,a => pJoin_nz (fun a => pJoin_nz (fun a => pSeq_nz (pAltD_nz d) a) a) a
theorem parse_nz (s:List UInt8):NZ (parse s):=.cond (.err (by decide)) (.bind (pAltD_nz 17 0) fun _ _ => .cond (.err (by decide)) .ok)
theorem TAt.le {F F':Fz} {t:Tr} {x:Nat} (h:TAt F t x) (hu:Up F F'):TAt F' t x:=⟨IsT.le hu.le t x h.is⟩
theorem parse_nice {s:List UInt8} {t:Tr} (h:parse s = .ok t 0):NiceT t:=⟨(parse_fits h).1,(parse_fits h).2.1⟩
def tailC:Nat -> Code -> Code
 | 0,c => c
 | n + 1,.seq x y => tailC n y
 | _,c => c
noncomputable def chain (E:EnvX) (m:Nat) (f:FuncId) (Q:Exit -> St -> Fz -> Prop) (K:St -> Fz -> Prop):Nat -> Code -> St -> Fz -> Prop
 | 0,_,st => K st
 | n + 1,.seq x y,st => rnx E m f x st fun e st' => match e with | .normal => chain E m f Q K n y st' | e => Q e st'
 | _ + 1,_,_ => fun _ => False
theorem chain_ok {E:EnvX} {HP:AV -> Rows -> Fz -> Prop} (hE:OKX Try.prog E [] HP) {f:FuncId} {Q:Exit -> St -> Fz -> Prop} {K:St -> Fz -> Prop} (m:Nat) :
  ∀ (n:Nat) (c:Code) (st:St) (F:Fz),(∀ p ∈ subs c,p ∈ E.subsOf f) -> (∀ st F,K st F -> SafeX Try.prog E.R [] (tailC n c) st F Q HP) -> chain E m f Q K n c st F -> SafeX Try.prog E.R [] c st F Q HP
 | 0,c,st,F,_,hK,h => hK st F h
 | n + 1,.seq x y,st,F,hc,hK,h => by
  refine SafeX.seq ((SafeX.rnx mixed hE (fun p hp => hc p (by simp only [subs]; exact List.mem_append_left _ hp)) m h).mono ?_ fun _ _ _ h => h)
  intro e st' F' he
  cases e with
  | normal => exact chain_ok hE m n y st' F' (fun p hp => hc p (by simp only [subs]; exact List.mem_append_right _ hp)) hK he
  | _ => exact he
 | n + 1,.skip,st,F,_,_,h => h.elim
 | n + 1,.region _ _ _,st,F,_,_,h => h.elim
 | n + 1,.cond _ _ _,st,F,_,_,h => h.elim
 | n + 1,.block _ _,st,F,_,_,h => h.elim
 | n + 1,.loop _,st,F,_,_,h => h.elim
 | n + 1,.exit _,st,F,_,_,h => h.elim
 | n + 1,.goto _,st,F,_,_,h => h.elim
 | n + 1,.label _,st,F,_,_,h => h.elim
 | n + 1,.ret,st,F,_,_,h => h.elim
 | n + 1,.rangeFunc _ _ _ _,st,F,_,_,h => h.elim
mutual
def size:Tr -> Nat
 | .mk _ _ kids => 1 + sizes kids
def sizes:List Tr -> Nat
 | [] => 0
 | t :: ts => size t + sizes ts
end
theorem getD_mem {l:List (Tr × Nat)} {i:Nat} (hi:i < l.length):l.getD i dT ∈ l:=by
 rw [List.getD_eq_getElem?_getD,List.getElem?_eq_getElem hi]
 exact List.getElem_mem hi
theorem sizes_app:∀ (l:List Tr) (t:Tr),sizes (l ++ [t]) = sizes l + size t
 | [],t => by simp [sizes]
 | u :: l,t => by simp only [List.cons_append,sizes,sizes_app l t]; omega
theorem size_pos (t:Tr):1 <= size t:=by cases t; simp only [size]; omega
theorem sizes_len:∀ l:List Tr,l.length <= sizes l
 | [] => Nat.le_refl _
 | t :: l => by have:=size_pos t; have:=sizes_len l; simp only [sizes,List.length_cons]; omega
mutual
theorem size_sz:∀ (t:Tr),size t <= sz t
 | .mk k w kids => by have:=sizes_szs kids; simp only [size,sz]; omega
theorem sizes_szs:∀ (ts:List Tr),sizes ts <= szs ts
 | [] => Nat.le_refl _
 | t :: ts => by have:=size_sz t; have:=sizes_szs ts; simp only [sizes,szs]; omega
end
theorem parse_small {s:List UInt8} {t:Tr} (h:parse s = .ok t 0):size t <= 1024:=Nat.le_trans (size_sz t) (parse_fits h).2.2
theorem ne0 {c:Nat} (h:c ≠ 0):(((c:Nat):Int) != 0) = true:=by simp; omega
noncomputable abbrev tm15 (acc:Int) (n:Nat) (i:Int):List AV:=[.any,.any,.any,.int .i64 acc,.any,.any,.any,.sl true 5 0 n .no,.int .i64 (n:Nat),.int .i64 i,.any,.any,.any,.any,.any,.any,.any,.any,.any]
noncomputable abbrev fam15 (k:Int) (w:List UInt8) (n:Nat) (acc i:Nat):St:=⟨tm15 (acc:Nat) n (i:Nat),[some (e5row k w n)]⟩
def spec15k (l:List (Tr × Nat)):CallSpecX:=fun args h k => match args with
 | [a] => fun F => TAts F l /\ ∃ i:Nat,i < l.length /\ a = exprV (l.getD i dT).1 (l.getD i dT).2 /\ ∀ F',Up F F' -> k (.int .i64 (size (l.getD i dT).1:Nat)) h F'
 | _ => botX
noncomputable abbrev env15 (R:RR) (l:List (Tr × Nat)):EnvX:=(bx (updR R 5 (kidR l))).addCall 15 (spec15k l)
def lp15 (kk:Int) (w:List UInt8) (l:List (Tr × Nat)):LoopSpX:=fun st k F =>
 st.tmps.length = 19 /\ nthV st.tmps 3 = .int .i64 1 /\ nthV st.tmps 7 = .sl true 5 0 l.length .no /\ nthV st.tmps 8 = .int .i64 (l.length:Nat) /\ nthV st.tmps 9 = .int .i64 0 /\
 st.rows = [some (e5row kk w l.length)] /\ TAts F l /\ ∀ F',Up F F' -> k .normal (fam15 kk w l.length (1 + sizes (l.map Prod.fst)) l.length) F'
theorem vr15 (R:RR) (kk:Int) (w:List UInt8) (l:List (Tr × Nat)) (acc i:Nat) (k:Exit -> St -> Fz -> Prop) (F:Fz):rnx (env15 R l) 1000 15 (loopOf fi15 0) (fam15 kk w l.length acc i) k F = (bif decide ((↑i:Int) < (↑l.length:Int)) then bif true && decide ((↑i:Int) < (↑l.length:Int)) then bif decide (0 + (↑i:Int).toNat < ((env15 R l).R 5).n) then TAts F l /\ ∃ (i_1:Nat),i_1.succ.le l.length /\ AV.agg [iI (↑(l.getD (0 + (↑i:Int).toNat) dT).fst.kind:Int),AV.str (l.getD (0 + (↑i:Int).toNat) dT).fst.word,AV.sl true ((l.getD (0 + (↑i:Int).toNat) dT).snd + 15) 0 (l.getD (0 + (↑i:Int).toNat) dT).fst.kids.length Cp.no] = AV.agg [iI (↑(l.getD i_1 dT).fst.kind:Int),AV.str (l.getD i_1 dT).fst.word,AV.sl true ((l.getD i_1 dT).snd + 15) 0 (l.getD i_1 dT).fst.kids.length Cp.no] /\ ∀ (F':Fz),Up F F' -> k Exit.normal (St.mk [AV.any,AV.any,AV.any,iI (IntKind.i64.wrap ((↑acc:Int) + (↑(size (l.getD i_1 dT).fst):Int))),AV.any,AV.ptr false 1 0 0,AV.any,AV.sl true 5 0 l.length Cp.no,iI (↑l.length:Int),iI (IntKind.i64.wrap ((↑i:Int) + 1)),AV.bool true,AV.ptr true 5 (0 + (↑i:Int).toNat) 0,AV.agg [iI (↑(l.getD (0 + (↑i:Int).toNat) dT).fst.kind:Int),AV.str (l.getD (0 + (↑i:Int).toNat) dT).fst.word,AV.sl true ((l.getD (0 + (↑i:Int).toNat) dT).snd + 15) 0 (l.getD (0 + (↑i:Int).toNat) dT).fst.kids.length Cp.no],iI (↑acc:Int),AV.agg [iI (↑(l.getD (0 + (↑i:Int).toNat) dT).fst.kind:Int),AV.str (l.getD (0 + (↑i:Int).toNat) dT).fst.word,AV.sl true ((l.getD (0 + (↑i:Int).toNat) dT).snd + 15) 0 (l.getD (0 + (↑i:Int).toNat) dT).fst.kids.length Cp.no],iI (↑(size (l.getD i_1 dT).fst):Int),iI (IntKind.i64.wrap ((↑acc:Int) + (↑(size (l.getD i_1 dT).fst):Int))),iI (IntKind.i64.wrap ((↑i:Int) + 1)),AV.any] [some (Row.lst 25 3 [AV.agg [iI kk,AV.str w,AV.sl true 5 0 l.length Cp.no]]),some (Row.lst 25 3 [AV.agg [iI (↑(l.getD (0 + (↑i:Int).toNat) dT).fst.kind:Int),AV.str (l.getD (0 + (↑i:Int).toNat) dT).fst.word,AV.sl true ((l.getD (0 + (↑i:Int).toNat) dT).snd + 15) 0 (l.getD (0 + (↑i:Int).toNat) dT).fst.kids.length Cp.no]])]) F' else False else False else k (Exit.exit 0) (St.mk [AV.any,AV.any,AV.any,iI (↑acc:Int),AV.any,AV.any,AV.any,AV.sl true 5 0 l.length Cp.no,iI (↑l.length:Int),iI (↑i:Int),AV.bool false,AV.any,AV.any,AV.any,AV.any,AV.any,AV.any,AV.any,AV.any] [some (Row.lst 25 3 [AV.agg [iI kk,AV.str w,AV.sl true 5 0 l.length Cp.no]])]) F):=by kernel_rfl
theorem vc15 (R:RR) (kk:Int) (w:List UInt8) (l:List (Tr × Nat)) (k:AV -> Rows -> Fz -> Prop) (F:Fz):vcx ((env15 R l).addLoop 15 0 (lp15 kk w l)) 1000 15 fi15 [.agg [.int .i64 kk,.str w,.sl true 5 0 l.length .no]] [] k F = (19 = 19 /\ iI 1 = iI 1 /\ AV.sl true 5 0 l.length Cp.no = AV.sl true 5 0 l.length Cp.no /\ iI (↑l.length:Int) = iI (↑l.length:Int) /\ iI 0 = iI 0 /\ [some (Row.lst 25 3 [AV.agg [iI kk,AV.str w,AV.sl true 5 0 l.length Cp.no]])] = [some (Row.lst 25 3 [AV.agg [iI kk,AV.str w,AV.sl true 5 0 l.length Cp.no]])] /\ TAts F l /\ ∀ (F':Fz),Up F F' -> k (iI (↑(1 + sizes (List.map Prod.fst l)):Int)) [some (Row.lst 25 3 [AV.agg [iI kk,AV.str w,AV.sl true 5 0 l.length Cp.no]])] F'):=by kernel_rfl
def SizeOK (t:Tr):Prop:=∀ (R:RR),Free R -> ∀ (x:Nat) (F:Fz) (k HP:AV -> Rows -> Fz -> Prop),IsT F t x -> (∀ F',Up F F' -> k (.int .i64 (size t:Nat)) [] F') -> SafeCallX Try.prog R 15 [exprV t x] [] F k HP
theorem size_un {t:Tr} (hs:SizeOK t) {R:RR} (hR:Free R) {ro:RoRow} {x:Nat} {F:Fz} (hx:IsT F t x) (h:Rows) (k HP:AV -> Rows -> Fz -> Prop) (hk:∀ F',Up F F' -> k (.int .i64 (size t:Nat)) h F'):SafeCallX Try.prog (updR R 5 ro) 15 [exprV t x] h F k HP:=by
 have h0:SafeCallX Try.prog (updR R 5 ro) 15 [exprV t x] [] F (fun v h' F' => gnd v = true /\ (v = .int .i64 (size t:Nat) /\ Up F F')) (fun v h' F' => gnd v = true /\ False):=by
  refine SafeCallX.unread (Q:=fun v h' F' => v = .int .i64 (size t:Nat) /\ h' = [] /\ Up F F') (HP:=fun _ _ _ => False) (by decide) hR.n hR.q nm_expr rfl (hs R hR x F _ _ hx fun F' hu => ⟨rfl,rfl,hu⟩) ?_ ?_
  ·rintro v h' F' _ ⟨rfl,rfl,hu⟩; exact ⟨rfl,rfl,rfl,rfl,hu⟩
  ·rintro v h' F' _ h; exact h.elim
 refine (SafeCallX.at0 rfl h0).mono ?_ ?_
 ·rintro v h' F' _ ⟨rfl,rfl,hu⟩; exact hk F' hu
 ·rintro v h' F' _ ⟨_,h⟩; exact h.elim
theorem spec15k_ok {R:RR} (hR:Free R) (ro:RoRow) (l:List (Tr × Nat)) (hs:∀ p ∈ l,SizeOK p.1) (HP:HPt):∀ args h k F,spec15k l args h k F -> SafeCallX Try.prog (updR R 5 ro) 15 args h F k HP:=by
 intro args h k F hk
 unfold spec15k at hk
 split at hk
 ·obtain ⟨hts,i,hi,rfl,hk⟩:=hk
  have hm:=getD_mem hi
  exact size_un (hs _ hm) hR (hts.is _ hm) h k HP hk
 ·exact hk.elim
theorem env15_ok {R:RR} (hR:Free R) (l:List (Tr × Nat)) (hs:∀ p ∈ l,SizeOK p.1) (HP:HPt):OKX Try.prog (env15 R l) [] HP :=
 (bx_ok _ [] HP).addCall (f:=15) (fi:=fi15) (by kernel_rfl) (spec15k_ok hR (kidR l) l hs HP)
theorem tm15_spr (acc:Int) (n:Nat) (i:Int):tm15 acc n i = spr [(3,.int .i64 acc),(7,.sl true 5 0 n .no),(8,.int .i64 (n:Nat)),(9,.int .i64 i)] 0 19:=by kernel_rfl
theorem loop15 {R : Nat → RoRow} (hR : Free R) (kk : Int) (w : List UInt8) (l : List (Tr × Nat)) (hl : sizes (l.map Prod.fst) ≤ 10000000) (hs : ∀ p ∈ l, SizeOK p.1) (HP : HPt) :
    ∀ st k F, lp15 kk w l st k F → SafeX Try.prog (updR R 5 (kidR l)) [] (.block 0 (.loop (loopOf fi15 0))) st F k HP := by
  rintro ⟨TM, rows⟩ k F ⟨h0, h1, h2, h3, h4, h5, hts, hk⟩
  simp only at h0 h1 h2 h3 h4 h5
  subst h5
  have hn : l.length ≤ 10000000 := by have := sizes_len (l.map Prod.fst); rw [List.length_map] at this; omega
  let A : Nat → Nat := fun i => 1 + sizes ((l.map Prod.fst).take i)
  have hA : ∀ i, i < l.length → A (i + 1) = A i + size (l.getD i dT).1 := fun i hi => by
    have hi' : i < (l.map Prod.fst).length := by rw [List.length_map]; exact hi
    simp only [A]
    rw [List.take_add_one, List.getElem?_eq_getElem hi']
    show 1 + sizes (_ ++ [_]) = _
    rw [sizes_app, List.getElem_map, List.getD_eq_getElem?_getD, List.getElem?_eq_getElem hi]
    show 1 + (_ + size l[i].fst) = _ + size l[i].fst
    omega
  have hAe : A l.length = 1 + sizes (l.map Prod.fst) := by
    simp only [A]; rw [List.take_of_length_le (by simp)]
  have hAb : ∀ d i, i + d = l.length → A i ≤ A l.length := by
    intro d
    induction d with
    | zero => intro i h; have : i = l.length := by omega
              subst this; exact Nat.le_refl _
    | succ d ih => intro i h; have := ih (i + 1) (by omega); rw [hA i (by omega)] at this; omega
  refine SafeX.loop_block (Inv := fun n st F' => Up F F' ∧ ∃ i, i ≤ l.length ∧ n = l.length - i ∧ st = fam15 kk w l.length (A i) i) ?_ ?_
  · refine ToX.fit (stE := fam15 kk w l.length (A 0) 0) (Fit.row1 (e5row_g _ _ _) ?_) (ToX.here ⟨_, Up.refl F, 0, Nat.zero_le _, rfl, rfl⟩)
    show VwL some 1 (tm15 1 l.length 0) TM
    rw [tm15_spr]
    exact VwL.ofKnown h0 ⟨by rw [h1]; exact Vw.intI, by rw [h2]; exact Vw.gndI rfl, by rw [h3]; exact Vw.intI, by rw [h4]; exact Vw.intI, trivial⟩
  · rintro n st' F' ⟨hu, i, hi, rfl, rfl⟩
    refine SafeX.by mixed (env15_ok hR l hs HP) (f := 15) (fi := fi15) (i := 0) (by kernel_rfl) (b := .loop (loopOf fi15 0)) (by kernel_rfl) (subs_loop _) 1000 (vr15 R kk w l (A i) i _ F') ?_
    have hi2 : (0 + ((i : Nat) : Int).toNat) = i := by simp
    refine hcB (fun h => hcT h (hcT ?_ ?_)) fun h => ?_
    · have hlt : i < l.length := by have := of_decide_eq_true h; omega
      rw [hi2]
      exact decide_eq_true hlt
    · have hlt : i < l.length := by have := of_decide_eq_true h; omega
      refine ⟨hts.le hu, i, hlt, by rw [hi2], fun F2 hu2 => ?_⟩
      have b := hAb (l.length - (i + 1)) (i + 1) (by omega)
      have e := hA i hlt
      have e2 : ((A i : Nat) : Int) + ((size (l.getD i dT).1 : Nat) : Int) = ((A (i + 1) : Nat) : Int) := by rw [e]; omega
      rw [e2, wrapI64 _ (by omega) (by omega), wrapSucc i (by omega)]
      refine ToX.fit (stE := fam15 kk w l.length (A (i + 1)) (i + 1)) (Fit.row1 (e5row_g _ _ _) ?_) (ToX.here ⟨l.length - (i + 1), by omega, hu.trans hu2, i + 1, hlt, rfl, rfl⟩)
      show VwL some 1 (tm15 ((A (i + 1) : Nat) : Int) l.length ((i + 1 : Nat) : Int)) _
      (repeat' (first | with_reducible exact VwL.nil | with_reducible refine VwL.cons ?_ ?_ | with_reducible exact Vw.anyI | with_reducible exact Vw.strI | with_reducible exact Vw.boolI | with_reducible exact Vw.intI | with_reducible exact Vw.nilsI | exact Vw.ptrI (by simp) rfl | exact Vw.slI (by simp) rfl | with_reducible refine Vw.aggI ?_ | exact Vw.gndI rfl))
    · have hge : i = l.length := by have := of_decide_eq_false h; omega
      subst hge
      refine ToX.fit (stE := fam15 kk w l.length (A l.length) l.length) (Fit.row1 (e5row_g _ _ _) (by (repeat' (first | with_reducible exact VwL.nil | with_reducible refine VwL.cons ?_ ?_ | with_reducible exact Vw.anyI | with_reducible exact Vw.strI | with_reducible exact Vw.boolI | with_reducible exact Vw.intI | with_reducible exact Vw.nilsI | exact Vw.ptrI (by simp) rfl | exact Vw.slI (by simp) rfl | with_reducible refine Vw.aggI ?_ | exact Vw.gndI rfl)))) (ToX.here ?_)
      rw [hAe]
      exact hk F' hu
theorem size_step (kd:Nat) (w:List UInt8) (kids:List Tr) (hl:sizes kids <= 10000000) (hs:∀ u ∈ kids,SizeOK u):SizeOK (.mk kd w kids):=by
 intro R hR x F k HP hx hk
 obtain ⟨l,hl',hfr,hts⟩:=hx.kids
 have hlen:kids.length = l.length:=by rw [<- hl',List.length_map]
 have hm:∀ p ∈ l,SizeOK p.1:=fun p hp => hs p.1 (by rw [<- hl']; exact List.mem_map_of_mem hp)
 have inner:SafeCallX Try.prog (updR R 5 (kidR l)) 15 [.agg [.int .i64 ((kd:Nat):Int),.str w,.sl true 5 0 l.length .no]] [] F (fun v h F' => v = .int .i64 (size (.mk kd w kids):Nat) /\ h = [] /\ Up F F') (fun _ _ _ => False):=by
  refine SafeCallX.post (Q:=fun v h F' => v = .int .i64 (size (.mk kd w kids):Nat) /\ Up F F') (HP:=fun _ _ _ => False) ?_ ?_ ?_
  ·refine SafeCallX.by mixed ((env15_ok hR l hm _).addLoop (f:=15) (fi:=fi15) (by kernel_rfl) (i:=0) (body:=.loop (loopOf fi15 0)) (by kernel_rfl) (loop15 hR _ w l (by rw [hl']; exact hl) hm _)) (f:=15) (fi:=fi15) (by kernel_rfl) 1000 (vc15 R _ w l _ F) ⟨rfl,rfl,rfl,rfl,rfl,rfl,hts,fun F' hu => ⟨?_,hu⟩⟩
   rw [hl']; rfl
  ·rintro v h' F' _ ⟨rfl,hu⟩; exact nil_fit rfl ⟨rfl,rfl,hu⟩
  ·rintro v h' F' _ h; exact h.elim
 have:=SafeCallX.swap (by decide) hfr hR.n hR.q inner (Q1:=k) (HP1:=HP) (by rintro v h' F' _ ⟨rfl,rfl,hu⟩; exact ⟨rfl,rfl,hk F' hu⟩) (fun v h' F' _ h => h.elim)
 have e:nmL 5 x [.agg [.int .i64 ((kd:Nat):Int),.str w,.sl true 5 0 l.length .no]] = [exprV (.mk kd w kids) x]:=by
  show [AV.agg [.int .i64 ((kd:Nat):Int),.str w,tok x l.length]] = _
  rw [<- hlen]; rfl
 rw [e] at this
 exact this
mutual
theorem sizeOK:∀ (t:Tr),size t <= 10000000 -> SizeOK t
 | .mk k w kids,h => size_step k w kids (by simp only [size] at h; omega) (sizeOKs kids (by simp only [size] at h; omega))
theorem sizeOKs:∀ (ts:List Tr),sizes ts <= 10000000 -> ∀ u ∈ ts,SizeOK u
 | [],_,u,h => by cases h
 | t :: ts,hl,u,h => by
  simp only [sizes] at hl
  rcases List.mem_cons.1 h with e | h
  ·rw [e]; exact sizeOK t (by omega)
  ·exact sizeOKs ts (by omega) u h
end
end Go.Dc.Ke
end
