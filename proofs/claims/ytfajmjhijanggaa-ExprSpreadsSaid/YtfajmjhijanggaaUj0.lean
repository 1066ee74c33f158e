/- Expressions: the form of what a text's parser tells. -/
import Derived.Test.YtfajmjhijanggaaR3
import Derived.Test.YtfajmjhijanggaaZm
import Derived.Test.YtfajmjhijanggaaDcXi
set_option linter.unusedVariables false
set_option linter.unusedSimpArgs false
section
namespace Go.Dc.Ke
open Go.Proofs Go.RowKit Go.Shelf
set_option maxRecDepth 100000
def inn (kd k:Nat):Bool:=k == 5 || (k == 6 && kd != 5) || (k == 4 && kd != 5 && kd != 6)
structure Frm1 (k:Nat) (w:List UInt8) (kids:List Tr):Prop where
 le:k <= 9
 a:k = 0 \/ k = 3 -> w = [] /\ kids = []
 b:k = 1 \/ k = 2 -> kids = [] /\ w ≠ [] /\ ∀ c ∈ w,wordly ((c.toNat:Nat):Int) = true
 c:k = 4 \/ k = 5 \/ k = 6 -> w = [] /\ 2 <= kids.length
 d:7 <= k -> w = [] /\ kids.length = 1
mutual
def Frm:Tr -> Prop
 | .mk k w kids => Frm1 k w kids /\ Frms kids
def Frms:List Tr -> Prop
 | [] => True
 | t :: ts => Frm t /\ Frms ts
end
def pd (f:Nat) (kd k:Nat):Nat:=bif inn kd k then f + 1 else f
mutual
def dep:Tr -> Nat
 | .mk k _ kids => if k = 0 then 1 else deps k kids
def deps (kd:Nat):List Tr -> Nat
 | [] => 0
 | t :: ts => max (pd (dep t) kd t.kind) (deps kd ts)
end
abbrev pdt (kd:Nat) (t:Tr):Nat:=pd (dep t) kd t.kind
theorem Frms.snoc:∀ {l:List Tr} {t:Tr},Frms l -> Frm t -> Frms (l ++ [t])
 | [],t,_,h => by simp only [List.nil_append,Frms]; exact ⟨h,trivial⟩
 | u :: l,t,hl,h => by simp only [List.cons_append,Frms] at hl ⊢; exact ⟨hl.1,Frms.snoc hl.2 h⟩
theorem deps_le {kd d:Nat}:∀ {ts:List Tr},(∀ t ∈ ts,pdt kd t <= d) -> deps kd ts <= d
 | [],_ => by simp only [deps]; omega
 | t :: ts,h => by
  simp only [deps]
  have h1:=h t (by simp)
  have h2:=deps_le (kd:=kd) (ts:=ts) fun u hu => h u (by simp [hu])
  exact Nat.max_le.2 ⟨h1,h2⟩
theorem pd_le (f kd k:Nat):f <= pd f kd k /\ pd f kd k <= f + 1:=by unfold pd; cases inn kd k <;> simp
theorem pd_mono {a b:Nat} (h:∀ k,inn b k = true -> inn a k = true) (t:Tr):pdt b t <= pdt a t:=by
 unfold pdt pd
 cases hb:inn b t.kind with
 | true => rw [h _ hb]; exact Nat.le_refl _
 | false => exact (pd_le _ _ _).1
theorem inn_iff (kd k:Nat):inn kd k = true ↔ k = 5 \/ (k = 6 /\ kd ≠ 5) \/ (k = 4 /\ kd ≠ 5 /\ kd ≠ 6):=by
 simp only [inn,Bool.or_eq_true,Bool.and_eq_true,beq_iff_eq,bne_iff_ne,and_assoc,or_assoc]
def FD (s:List UInt8) (m:Tr -> Nat) (d:Nat) (r:Nat -> PR):Prop:=∀ a,a <= s.length -> ∀ t a1,r a = .ok t a1 -> Frm t /\ m t <= d
section
variable {s:List UInt8} {d:Nat} {alt:Nat -> PR}
theorem sub_wordly {a:Nat}:∀ c ∈ sub s a (scan wordly s a),wordly ((c.toNat:Nat):Int) = true:=by
 intro c hc
 unfold sub scan at hc
 rw [Nat.add_sub_cancel_left] at hc
 have e:(s.drop a).take ((s.drop a).takeWhile fun c => wordly (c.toNat:Nat)).length = (s.drop a).takeWhile fun c => wordly (c.toNat:Nat):=by
  have:=List.takeWhile_append_dropWhile (p:=fun c:UInt8 => wordly (c.toNat:Nat)) (l:=s.drop a)
  conv => lhs; arg 2; rw [<- this]
  rw [List.take_left]
 rw [e] at hc
 have key:∀ (l:List UInt8),c ∈ l.takeWhile (fun c => wordly (c.toNat:Nat)) -> wordly ((c.toNat:Nat):Int) = true:=by
  intro l
  induction l with
  | nil => intro h; cases h
  | cons x l ih =>
   intro h
   rw [List.takeWhile_cons] at h
   split at h
   ·rename_i hx
    rcases List.mem_cons.1 h with rfl | h
    ·exact hx
    ·exact ih h
   ·cases h
 exact key _ hc
theorem pWord_frm {kd a:Nat} (hk:kd = 1 \/ kd = 2) (ha:a <= s.length) {t:Tr} {a1:Nat} (h:pWord s kd a = .ok t a1):Frm t /\ pdt 4 t <= d:=by
 have hg:=pWord_goes ha h
 unfold pWord at h
 cases hb:Nat.beq (scan wordly s a) a with
 | true => rw [hb] at h; cases h
 | false =>
  rw [hb] at h
  cases h
  have hne:sub s a (scan wordly s a) ≠ []:=by
   intro e
   have h3:(sub s a (scan wordly s a)).length = scan wordly s a - a:=by unfold sub; rw [List.length_take,List.length_drop]; omega
   rw [e] at h3
   simp at h3; omega
  refine ⟨by simp only [Frm,Frms]; exact ⟨⟨by omega,fun h => by omega,fun _ => ⟨rfl,hne,sub_wordly⟩,fun h => by omega,fun h => by omega⟩,trivial⟩,?_⟩
  ·have:inn 4 kd = false:=by rcases hk with rfl | rfl <;> rfl
   have h0:dep (.mk kd (sub s a (scan wordly s a)) []) = 0:=by simp only [dep,deps]; rw [if_neg (by omega)]
   show pd (dep (.mk kd (sub s a (scan wordly s a)) [])) 4 kd <= d
   unfold pd; rw [this,h0]; exact Nat.zero_le _
theorem pBr_frm (hA:∀ e,d = e + 1 -> FD s dep e alt) (hd:d <= 16) (hG:Goes s alt) {a:Nat} (ha:a < s.length) {t:Tr} {a1:Nat} (h:pBr s (16 - d) alt a = .ok t a1):Frm t /\ pdt 4 t <= d:=by
 unfold pBr at h
 cases hb:Nat.beq (16 - d) 16 with
 | true => rw [hb] at h; cases h
 | false =>
  have hd0:d ≠ 0:=fun e => by rw [e] at hb; cases hb
  rw [hb] at h
  simp only [cond_false] at h
  have h1:=blk_le (s:=s) (a:=a + 1) ha
  cases hc:hbI s (blk s (a + 1)) == 41 with
  | true =>
   rw [hc] at h
   cases h
   refine ⟨by simp only [Frm,Frms]; exact ⟨⟨by omega,fun _ => ⟨rfl,rfl⟩,fun h => by omega,fun h => by omega,fun h => by omega⟩,trivial⟩,?_⟩
   show pd (dep (.mk 0 [] [])) 4 0 <= d
   have:dep (.mk 0 [] []) = 1:=by simp only [dep,if_true]
   rw [this]
   show 1 <= d
   omega
  | false =>
   rw [hc] at h
   simp only [cond_false] at h
   obtain ⟨t1,a2,h2,h3⟩:=PR.bind_ok h
   obtain ⟨e,rfl⟩:∃ e,d = e + 1:=⟨d - 1,by omega⟩
   obtain ⟨h6,h7⟩:=hA e rfl _ h1 _ _ h2
   cases hd:hbI s a2 == 41 with
   | true =>
    rw [hd] at h3
    cases h3
    exact ⟨h6,Nat.le_trans (pd_le (dep t) 4 t.kind).2 (by omega)⟩
   | false => rw [hd] at h3; cases h3
theorem pAtom_frm (hA:∀ e,d = e + 1 -> FD s dep e alt) (hd:d <= 16) (hG:Goes s alt) {a:Nat} (ha:a <= s.length) {t:Tr} {a1:Nat} (h:pAtom s (16 - d) alt a = .ok t a1):Frm t /\ pdt 4 t <= d:=by
 unfold pAtom at h
 cases h1:hbI s a == 64 with
 | true =>
  rw [h1] at h
  exact pWord_frm (.inr rfl) (hb_lt h1 (by decide)) h
 | false =>
  rw [h1] at h
  simp only [cond_false] at h
  cases h2:hbI s a == 35 with
  | true =>
   rw [h2] at h
   simp only [cond_true] at h
   cases h3:(exN s txtW a).1 with
   | true =>
    rw [h3] at h
    cases h
    refine ⟨by simp only [Frm,Frms]; exact ⟨⟨by omega,fun _ => ⟨rfl,rfl⟩,fun h => by omega,fun h => by omega,fun h => by omega⟩,trivial⟩,?_⟩
    have:dep (.mk 3 [] []) = 0:=by simp only [dep,deps]; rfl
    show pd (dep (.mk 3 [] [])) 4 3 <= d
    rw [this]; exact Nat.zero_le _
   | false => rw [h3] at h; cases h
  | false =>
   rw [h2] at h
   simp only [cond_false] at h
   cases h3:hbI s a == 40 with
   | true =>
    rw [h3] at h
    exact pBr_frm hA hd hG (hb_lt h3 (by decide)) h
   | false =>
    rw [h3] at h
    exact pWord_frm (.inl rfl) ha h
theorem pMarks_frm:∀ (f:Nat) (t:Tr) (a:Nat),a <= s.length -> Frm t -> pdt 4 t <= d -> Frm (pMarks s f t a).1 /\ pdt 4 (pMarks s f t a).1 <= d
 | 0,t,a,ha,hk,hz => ⟨hk,hz⟩
 | f + 1,t,a,ha,hk,hz => by
  unfold pMarks
  cases h:markOf (hbI s a) with
  | none => exact ⟨hk,hz⟩
  | some k =>
   have h1:=markOf_lt h
   refine pMarks_frm f (.mk (7 + k) [] [t]) (blk s (a + 1)) (blk_le h1.1) ?_ ?_
   ·simp only [Frm,Frms]
    exact ⟨⟨by omega,fun h => by omega,fun h => by omega,fun h => by omega,fun _ => ⟨rfl,rfl⟩⟩,hk,trivial⟩
   ·have e1:∀ k',inn (7 + k) k' = inn 4 k':=fun k' => by
     rw [Bool.eq_iff_iff,inn_iff,inn_iff]; omega
    have e2:dep (.mk (7 + k) [] [t]) = pdt 4 t:=by
     simp only [dep,deps]
     rw [if_neg (by omega)]
     unfold pdt pd
     rw [e1]; simp
    have e3:inn 4 (7 + k) = false:=by rw [Bool.eq_false_iff,ne_eq,inn_iff]; omega
    show pd (dep (.mk (7 + k) [] [t])) 4 (7 + k) <= d
    unfold pd
    rw [e3,e2]; exact hz
theorem pItem_frm (hA:∀ e,d = e + 1 -> FD s dep e alt) (hd:d <= 16) (hG:Goes s alt):FD s (pdt 4) d (pItem s (16 - d) alt):=by
 intro a ha t a1 h
 obtain ⟨t1,a2,h1,h2⟩:=PR.bind_ok h
 have h3:=pAtom_goes hG ha h1
 have h5:=pAtom_frm hA hd hG ha h1
 cases h2
 exact pMarks_frm (s.length + 1) t1 (blk s a2) (blk_le h3.2) h5.1 h5.2
theorem rowT_frm {kd:Nat} {m:Tr -> Nat} (hk:kd = 4 \/ kd = 5 \/ kd = 6) (h1:∀ l,m (.mk kd [] l) <= dep (.mk kd [] l)) (h2:∀ t,m t <= pdt kd t) {l:List Tr} (hl:Frms l) (hz:∀ t ∈ l,pdt kd t <= d) (hne:l ≠ []):Frm (rowT kd l) /\ m (rowT kd l) <= d:=by
 match l with
 | [] => exact absurd rfl hne
 | [t] =>
  simp only [Frms] at hl
  exact ⟨hl.1,Nat.le_trans (h2 t) (hz t (by simp))⟩
 | t :: u :: l =>
  refine ⟨?_,?_⟩
  ·simp only [rowT,Frm]
   exact ⟨⟨by omega,fun h => by omega,fun h => by omega,fun _ => ⟨rfl,by simp⟩,fun h => by omega⟩,hl⟩
  ·have e:dep (.mk kd [] (t :: u :: l)) = deps kd (t :: u :: l):=by
    show (if kd = 0 then 1 else deps kd (t :: u :: l)) = _
    rw [if_neg (by omega)]
   refine Nat.le_trans (h1 _) ?_
   rw [e]
   exact deps_le hz
theorem mem_snoc {P:Tr -> Prop} {l:List Tr} {t:Tr} (h:∀ u ∈ l,P u) (ht:P t):∀ u ∈ l ++ [t],P u:=by
 intro u hu
 rcases List.mem_append.1 hu with hu | hu
 ·exact h u hu
 ·simp only [List.mem_singleton] at hu; rw [hu]; exact ht
theorem pSeqs_frm {n:Nat} (hP:FD s (pdt 4) d (pItem s n alt)) (hG:Goes s alt):∀ (f:Nat) (l:List Tr) (a:Nat),a <= s.length -> l ≠ [] -> Frms l -> (∀ t ∈ l,pdt 4 t <= d) -> ∀ t a1,pSeqs s n alt f l a = .ok t a1 -> Frm t /\ pdt 6 t <= d
 | 0,l,a,ha,hne,hk,hz,t,a1,h => by cases h; exact rowT_frm (m:=pdt 6) (.inl rfl) (fun l => Nat.le_refl _) (pd_mono fun k h => by rw [inn_iff] at h ⊢; omega) hk hz hne
 | f + 1,l,a,ha,hne,hk,hz,t,a1,h => by
  unfold pSeqs at h
  cases hb:begins (hbI s a) with
  | false => rw [hb] at h; cases h; exact rowT_frm (m:=pdt 6) (.inl rfl) (fun l => Nat.le_refl _) (pd_mono fun k h => by rw [inn_iff] at h ⊢; omega) hk hz hne
  | true =>
   rw [hb] at h
   obtain ⟨t1,a2,h1,h2⟩:=PR.bind_ok h
   have h3:=pItem_goes hG ha h1
   have h4:=hP a ha _ _ h1
   exact pSeqs_frm hP hG f _ a2 h3.2 (by simp) (hk.snoc h4.1) (mem_snoc hz h4.2) _ _ h2
theorem pSeq_frm {n:Nat} (hP:FD s (pdt 4) d (pItem s n alt)) (hG:Goes s alt):FD s (pdt 6) d (pSeq s n alt):=by
 intro a ha t a1 h
 obtain ⟨t1,a2,h1,h2⟩:=PR.bind_ok h
 have h3:=pItem_goes hG (blk_le ha) h1
 have h4:=hP _ (blk_le ha) _ _ h1
 exact pSeqs_frm hP hG _ [t1] a2 h3.2 (by simp) (by simp only [Frms]; exact ⟨h4.1,trivial⟩) (fun u hu => by simp only [List.mem_singleton] at hu; rw [hu]; exact h4.2) _ _ h2
theorem pJoins_frm {sg:Int} (hs:sg ≠ 0) {kd:Nat} {m:Tr -> Nat} (hk:kd = 4 \/ kd = 5 \/ kd = 6) (e1:∀ l,m (.mk kd [] l) <= dep (.mk kd [] l)) (e2:∀ t,m t <= pdt kd t) {part:Nat -> PR} (hP:FD s (pdt kd) d part) (hG:Goes s part):∀ (f:Nat) (l:List Tr) (a:Nat),a <= s.length -> l ≠ [] -> Frms l -> (∀ t ∈ l,pdt kd t <= d) -> ∀ t a1,pJoins s sg kd part f l a = .ok t a1 -> Frm t /\ m t <= d
 | 0,l,a,ha,hne,hf,hz,t,a1,h => by cases h; exact rowT_frm hk e1 e2 hf hz hne
 | f + 1,l,a,ha,hne,hf,hz,t,a1,h => by
  unfold pJoins at h
  cases hb:hbI s a == sg with
  | false => rw [hb] at h; cases h; exact rowT_frm hk e1 e2 hf hz hne
  | true =>
   rw [hb] at h
   obtain ⟨t1,a2,h1,h2⟩:=PR.bind_ok h
   have hlt:=hb_lt hb hs
   have h3:=hG (a + 1) hlt _ _ h1
   have h4:=hP (a + 1) hlt _ _ h1
   exact pJoins_frm hs hk e1 e2 hP hG f _ a2 h3.2 (by simp) (hf.snoc h4.1) (mem_snoc hz h4.2) _ _ h2
theorem pJoin_frm {sg:Int} (hs:sg ≠ 0) {kd:Nat} {m:Tr -> Nat} (hk:kd = 4 \/ kd = 5 \/ kd = 6) (e1:∀ l,m (.mk kd [] l) <= dep (.mk kd [] l)) (e2:∀ t,m t <= pdt kd t) {part:Nat -> PR} (hP:FD s (pdt kd) d part) (hG:Goes s part):FD s m d (pJoin s sg kd part):=by
 intro a ha t a1 h
 obtain ⟨t1,a2,h1,h2⟩:=PR.bind_ok h
 have h3:=hG a ha _ _ h1
 have h4:=hP a ha _ _ h1
 exact pJoins_frm hs hk e1 e2 hP hG _ [t1] a2 h3.2 (by simp) (by simp only [Frms]; exact ⟨h4.1,trivial⟩) (fun u hu => by simp only [List.mem_singleton] at hu; rw [hu]; exact h4.2) _ _ h2
end
theorem pAltD_frm (s:List UInt8):∀ d,d <= 16 -> FD s dep d (pAltD s (d + 1))
 | d,hd => by
  have hA:∀ e,d = e + 1 -> FD s dep e (pAltD s d):=fun e he => by subst he; exact pAltD_frm s e (by omega)
  have hG:=pAltD_goes (s:=s) d
  have h4:=pItem_frm (d:=d) hA hd hG
  have h6:=pSeq_frm h4 hG
  have h5:FD s (pdt 5) d (pAll s (16 - d) (pAltD s d)):=pJoin_frm (m:=pdt 5) (sg:=38) (by decide) (.inr (.inr rfl)) (fun l => Nat.le_refl _) (pd_mono fun k h => by rw [inn_iff] at h ⊢; omega) h6 (pSeq_goes hG)
  exact pJoin_frm (m:=dep) (sg:=124) (by decide) (.inr (.inl rfl)) (fun l => Nat.le_refl _) (fun t => (pd_le _ _ _).1) h5 (pAll_goes hG)
theorem parse_frm {s:List UInt8} {t:Tr} (h:parse s = .ok t 0):Frm t /\ dep t <= 16:=by
 unfold parse at h
 cases hb:decide (s.length > 256) with
 | true => rw [hb] at h; cases h
 | false =>
  rw [hb] at h
  simp only [cond_false] at h
  obtain ⟨t1,a1,h1,h2⟩:=PR.bind_ok h
  have h3:=pAltD_frm s 16 (Nat.le_refl _) 0 (Nat.zero_le _) _ _ h1
  cases hc:decide (a1 < s.length) with
  | true => rw [hc] at h2; cases h2
  | false => rw [hc] at h2; cases h2; exact h3
theorem kinds {k:Nat} (h:k <= 9):k = 0 \/ k = 1 \/ k = 2 \/ k = 3 \/ k = 4 \/ k = 5 \/ k = 6 \/ ∃ j,j <= 2 /\ k = 7 + j:=by
 rcases Nat.lt_or_ge k 7 with h7 | h7
 ·omega
 ·exact .inr (.inr (.inr (.inr (.inr (.inr (.inr ⟨k - 7,by omega,by omega⟩))))))
def tD:Tr:=.mk 0 [] []
theorem TrNs.at {N:List NE}:∀ (ts:List Tr) (is:List Nat),TrNs N ts is -> ∀ j,j < ts.length -> TrN N (ts.getD j tD) (is.getD j 0)
 | [],_,_,j,hj => by cases hj
 | t :: ts,[],h,j,hj => by simp only [TrNs] at h
 | t :: ts,i :: is,h,0,hj => by simp only [TrNs] at h; exact h.1
 | t :: ts,i :: is,h,j + 1,hj => by
  simp only [TrNs] at h
  exact TrNs.at ts is h.2 j (Nat.lt_of_succ_lt_succ hj)
noncomputable abbrev R6 (R:RR) (is:List Nat):RR:=updR R 6 (kidN is)
def spec16k (ts:List Tr) (is:List Nat) (N:List NE):CallSpecX:=fun args h k => match args with
 | [.ptr false 0 0 0,.int .i64 i] => fun F => ∃ (j:Nat) (root:Int),j < ts.length /\ i = (is.getD j 0:Nat) /\ NF F N /\ h.live 0 = some (trow 1 N.length root) /\ h.live 1 = some (arow N) /\ ∀ F',Up F F' -> k (.int .i64 (size (ts.getD j tD):Nat)) (h ++ [none,none]) F'
 | _ => botX
noncomputable abbrev env16 (R:RR) (ts:List Tr) (is:List Nat) (N:List NE):EnvX:=(bx (R6 R is)).addCall 16 (spec16k ts is N)
noncomputable abbrev tm16 (i acc j:Nat):List AV:=[.ptr false 0 0 0,.int .i64 (i:Nat),.any,.any,.any,.int .i64 (acc:Nat),.int .i64 (j:Nat),.any,.any,.any,.any,.any,.any,.any,.any,.any,.any,.any,.any,.any,.any,.any,.any,.any,.any,.any,.any,.any,.any,.any,.any,.any,.any,.any,.any,.any]
noncomputable abbrev fam16 (i acc j:Nat) (root:Int) (N:List NE):St:=⟨tm16 i acc j,[some (trow 1 N.length root),some (arow N)]⟩
noncomputable abbrev tm16s (i acc j n:Nat):List AV:=[.ptr false 0 0 0,.int .i64 (i:Nat),.any,.any,.any,.any,.int .i64 (j:Nat),.any,.any,.any,.any,.any,.any,.any,.any,.any,.any,.any,.any,.any,.int .i64 (acc:Nat),.ptr false 0 0 0,.any,.any,.any,.any,.any,.any,.any,.sl true 6 0 n .no,.any,.any,.any,.any,.any,.any]
noncomputable abbrev fam16s (i acc j n:Nat) (root:Int) (N:List NE):St:=⟨tm16s i acc j n,[some (trow 1 N.length root),some (arow N)]⟩
def lpB16 (ts:List Tr) (i j a0:Nat) (N:List NE):LoopSpX:=fun st k F => j < ts.length /\ a0 + size (ts.getD j tD) <= 20000000 /\ st.tmps.length = 36 /\ nthV st.tmps 0 = .ptr false 0 0 0 /\ nthV st.tmps 1 = .int .i64 (i:Nat) /\ nthV st.tmps 5 = .int .i64 (a0:Nat) /\ nthV st.tmps 6 = .int .i64 (j:Nat) /\
 ∃ root,st.rows = [some (trow 1 N.length root),some (arow N)] /\ NF F N /\ ∀ F',Up F F' -> k .normal (fam16 i (a0 + size (ts.getD j tD)) j root N) F'
def lp16 (i n sz:Nat) (N:List NE):LoopSpX:=fun st k F => st.tmps.length = 36 /\ nthV st.tmps 0 = .ptr false 0 0 0 /\ nthV st.tmps 1 = .int .i64 (i:Nat) /\ nthV st.tmps 5 = .int .i64 1 /\ nthV st.tmps 6 = .int .i64 0 /\
 ∃ root,st.rows = [some (trow 1 N.length root),some (arow N)] /\ NF F N /\ ∀ F',Up F F' -> k .normal (fam16 i sz n root N) F'
def opsR:Code -> Array Oper
 | .region _ ops _ => ops
 | _ => #[]
def ridR:Code -> Nat
 | .region i _ _ => i
 | _ => 0
noncomputable def blkOf (fi:FI) (id:Nat):Code:=match blockOf fi id with | some b => b | none => .skip
noncomputable abbrev ops16:Array Oper:=opsR (blkOf fi16 1)
noncomputable abbrev tm16t (i acc j n x:Nat):List AV:=[.ptr false 0 0 0,.int .i64 (i:Nat),.any,.any,.any,.any,.int .i64 (j:Nat),.any,.any,.any,.any,.any,.any,.any,.any,.any,.any,.any,.any,.any,.int .i64 (acc:Nat),.ptr false 0 0 0,.any,.any,.any,.any,.any,.any,.any,.sl true (x + 15) 0 n .no,.any,.any,.any,.any,.any,.any]
theorem vr16 (R:RR) (ts:List Tr) (is:List Nat) (root:Int) (N:List NE) (i acc j:Nat) (k:Exit -> St -> Fz -> Prop) (F:Fz):rnx ((bx R).addLoop 16 1 (lpB16 ts i j acc N)) 1000 16 (loopOf fi16 0) (fam16 i acc j root N) k F = (bif true && decide ((↑i:Int) < (↑N.length:Int)) then bif decide (0 + (↑i:Int).toNat < N.length) then bif decide ((↑j:Int) < (↑(N.getD (0 + (↑i:Int).toNat) dN).kids.length:Int)) then j.succ.le ts.length /\ (acc + size (ts.getD j tD)).le 20000000 /\ 36 = 36 /\ AV.ptr false 0 0 0 = AV.ptr false 0 0 0 /\ iI (↑i:Int) = iI (↑i:Int) /\ iI (↑acc:Int) = iI (↑acc:Int) /\ iI (↑j:Int) = iI (↑j:Int) /\ ∃ (root_1:Int),[some (Row.lst 35 2 [AV.agg [AV.sl false 1 0 N.length Cp.no,iI root]]),some (Row.gen 62 3 N.length fun (i:Nat) => neV (N.getD i dN))] = [some (Row.lst 35 2 [AV.agg [AV.sl false 1 0 N.length Cp.no,iI root_1]]),some (Row.gen 62 3 N.length fun (i:Nat) => neV (N.getD i dN))] /\ NF F N /\ ∀ (F':Fz),Up F F' -> k Exit.normal (St.mk [AV.ptr false 0 0 0,iI (↑i:Int),AV.any,AV.any,AV.any,iI (↑(acc + size (ts.getD j tD)):Int),iI (IntKind.i64.wrap ((↑j:Int) + 1)),AV.any,AV.any,AV.any,AV.any,AV.any,AV.any,AV.any,AV.any,AV.any,AV.any,AV.any,iI (↑j:Int),iI (IntKind.i64.wrap ((↑j:Int) + 1)),AV.any,AV.any,AV.any,AV.any,AV.any,AV.any,AV.any,AV.any,AV.any,AV.any,AV.any,AV.any,AV.any,AV.any,AV.any,AV.any] [some (Row.lst 35 2 [AV.agg [AV.sl false 1 0 N.length Cp.no,iI root_1]]),some (Row.gen 62 3 N.length fun (i:Nat) => neV (N.getD i dN))]) F' else k (Exit.exit 0) (St.mk [AV.ptr false 0 0 0,iI (↑i:Int),AV.any,AV.any,AV.any,iI (↑acc:Int),iI (↑j:Int),iI (↑j:Int),AV.ptr false 0 0 0,AV.ptr false 0 0 0,AV.ptr false 0 0 0,AV.sl false 1 0 N.length Cp.no,iI (↑i:Int),AV.ptr false 1 (0 + (↑i:Int).toNat) 0,AV.ptr false 1 (0 + (↑i:Int).toNat) 2,AV.sl true ((N.getD (0 + (↑i:Int).toNat) dN).x + 15) 0 (N.getD (0 + (↑i:Int).toNat) dN).kids.length Cp.no,iI (↑(N.getD (0 + (↑i:Int).toNat) dN).kids.length:Int),AV.bool false,AV.any,AV.any,AV.any,AV.any,AV.any,AV.any,AV.any,AV.any,AV.any,AV.any,AV.any,AV.any,AV.any,AV.any,AV.any,AV.any,AV.any,AV.any] [some (Row.lst 35 2 [AV.agg [AV.sl false 1 0 N.length Cp.no,iI root]]),some (Row.gen 62 3 N.length fun (i:Nat) => neV (N.getD i dN))]) F else False else False):=by kernel_rfl
theorem vp16 (R:RR) (ts:List Tr) (is:List Nat) (root:Int) (N:List NE) (i acc j:Nat) (K:Nat -> AV -> AV -> AV -> AV -> AV -> AV -> Rows -> Fz -> Prop) (F:Fz):runOpsB ansX (bx R) (callE (bx R)) ops16.toList (ops16.toList.take 10) (fam16 i acc j root N) (fun st F => K st.tmps.length (nthV st.tmps 0) (nthV st.tmps 1) (nthV st.tmps 6) (nthV st.tmps 20) (nthV st.tmps 21) (nthV st.tmps 29) st.rows F) F = (bif true && decide ((↑i:Int) < (↑N.length:Int)) then bif decide (0 + (↑i:Int).toNat < N.length) then K 36 (AV.ptr false 0 0 0) (iI (↑i:Int)) (iI (↑j:Int)) (iI (↑acc:Int)) (AV.ptr false 0 0 0) (AV.sl true ((N.getD (0 + (↑i:Int).toNat) dN).x + 15) 0 (N.getD (0 + (↑i:Int).toNat) dN).kids.length Cp.no) [some (Row.lst 35 2 [AV.agg [AV.sl false 1 0 N.length Cp.no,iI root]]),some (Row.gen 62 3 N.length fun (i:Nat) => neV (N.getD i dN))] F else False else False):=by kernel_rfl
theorem vs16 (R:RR) (ts:List Tr) (is:List Nat) (root:Int) (N:List NE) (i acc j n:Nat) (k:St -> Fz -> Prop) (F:Fz):runOpsB ansX (env16 R ts is N) (callE (env16 R ts is N)) ops16.toList (ops16.toList.drop 10) (fam16s i acc j n root N) k F = (bif true && decide ((↑j:Int) < (↑n:Int)) then bif decide (0 + (↑j:Int).toNat < ((env16 R ts is N).R 6).n) then ∃ (j_1:Nat),∃ (root_1:Int),j_1.succ.le ts.length /\ (↑(is.getD (0 + (↑j:Int).toNat) 0):Int) = (↑(is.getD j_1 0):Int) /\ NF F N /\ some (Row.lst 35 2 [AV.agg [AV.sl false 1 0 N.length Cp.no,iI root]]) = some (Row.lst 35 2 [AV.agg [AV.sl false 1 0 N.length Cp.no,iI root_1]]) /\ some (Row.gen 62 3 N.length fun (i:Nat) => neV (N.getD i dN)) = some (Row.gen 62 3 N.length fun (i:Nat) => neV (N.getD i dN)) /\ ∀ (F':Fz),Up F F' -> k (St.mk [AV.ptr false 0 0 0,iI (↑i:Int),AV.any,AV.any,AV.any,iI (IntKind.i64.wrap ((↑acc:Int) + (↑(size (ts.getD j_1 tD)):Int))),iI (↑j:Int),AV.any,AV.any,AV.any,AV.any,AV.any,AV.any,AV.any,AV.any,AV.any,AV.any,AV.any,AV.any,AV.any,iI (↑acc:Int),AV.ptr false 0 0 0,AV.any,AV.any,AV.any,AV.any,AV.any,AV.any,AV.any,AV.sl true 6 0 n Cp.no,iI (↑j:Int),AV.ptr true 6 (0 + (↑j:Int).toNat) 0,iI (↑(is.getD (0 + (↑j:Int).toNat) 0):Int),iI (↑(size (ts.getD j_1 tD)):Int),iI (IntKind.i64.wrap ((↑acc:Int) + (↑(size (ts.getD j_1 tD)):Int))),AV.any] [some (Row.lst 35 2 [AV.agg [AV.sl false 1 0 N.length Cp.no,iI root]]),some (Row.gen 62 3 N.length fun (i:Nat) => neV (N.getD i dN)),none,none]) F' else False else False):=by kernel_rfl
theorem vc16 (R:RR) (ts:List Tr) (is:List Nat) (root:Int) (N:List NE) (i n sz:Nat) (k:AV -> Rows -> Fz -> Prop) (F:Fz):vcx ((bx R).addLoop 16 0 (lp16 i n sz N)) 1000 16 fi16 [.ptr false 0 0 0,.int .i64 (i:Nat)] [some (trow 1 N.length root),some (arow N)] k F = (36 = 36 /\ AV.ptr false 0 0 0 = AV.ptr false 0 0 0 /\ iI (↑i:Int) = iI (↑i:Int) /\ iI (1:Int) = iI 1 /\ iI (0:Int) = iI 0 /\ ∃ (root_1:Int),[some (Row.lst 35 2 [AV.agg [AV.sl false 1 0 N.length Cp.no,iI root]]),some (Row.gen 62 3 N.length fun (i:Nat) => neV (N.getD i dN))] = [some (Row.lst 35 2 [AV.agg [AV.sl false 1 0 N.length Cp.no,iI root_1]]),some (Row.gen 62 3 N.length fun (i:Nat) => neV (N.getD i dN))] /\ NF F N /\ ∀ (F':Fz),Up F F' -> k (iI (↑sz:Int)) [some (Row.lst 35 2 [AV.agg [AV.sl false 1 0 N.length Cp.no,iI root_1]]),some (Row.gen 62 3 N.length fun (i:Nat) => neV (N.getD i dN))] F'):=by kernel_rfl
def SizeN (t:Tr):Prop:=∀ (R:RR),Free6 R -> ∀ (i:Nat) (root:Int) (N:List NE) (F:Fz) (k HP:AV -> Rows -> Fz -> Prop),NF F N -> TrN N t i -> (∀ F',Up F F' -> k (.int .i64 (size t:Nat)) [some (trow 1 N.length root),some (arow N)] F') -> SafeCallX Try.prog R 16 [.ptr false 0 0 0,.int .i64 (i:Nat)] [some (trow 1 N.length root),some (arow N)] F k HP
theorem atTree {R:RR} {fn:FuncId} {zs:List AV} {v:AV} {root:Int} {N:List NE} {F:Fz} {h:Rows} {b c:Nat} {k HP:AV -> Rows -> Fz -> Prop} (ha:gndL zs = true) (hv:∀ g,ren g v = v) (hb:h.live b = some (trow c N.length root)) (hc:h.live c = some (arow N))
  (hs:SafeCallX Try.prog R fn (.ptr false 0 0 0 :: zs) [some (trow 1 N.length root),some (arow N)] F (fun v' h' F' => v' = v /\ h' = [some (trow 1 N.length root),some (arow N)] /\ Up F F') (fun _ _ _ => False)) (hk:∀ F',Up F F' -> k v (h ++ [none,none]) F'):SafeCallX Try.prog R fn (.ptr false b 0 0 :: zs) h F k HP:=by
 have ne:b ≠ c:=fun e => by rw [e,hc] at hb; cases hb
 refine (SafeCallX.atN (Q:=fun v' os tl F' => v' = v /\ os = [some (trow 1 N.length root),some (arow N)] /\ tl = [] /\ Up F F') (HP:=fun _ _ _ _ => False) [b,c] (hL:=[some (trow 1 N.length root),some (arow N)]) (argsL:=.ptr false 0 0 0 :: zs) rfl (by simp [ne]) (fun e he => by
   simp only [List.mem_cons,List.not_mem_nil,or_false] at he
   rcases he with rfl | rfl
   ·exact live_lt hb
   ·exact live_lt hc) (fun e q he => by
   match e with
   | 0 => cases he; exact ⟨b,_,rfl,hb,trow_v rfl (by simp)⟩
   | 1 => cases he; exact ⟨c,_,rfl,hc,(arow_g N).vw _ _⟩
   | e + 2 => simp [Rows.live] at he) (VwL.cons (Vw.ptrI (by simp) rfl) (gndL_vw _ _ _ ha)) (hs.mono ?_ ?_)).mono ?_ ?_
 ·rintro v h' F' _ ⟨rfl,rfl,hu⟩
  exact ⟨[some (trow 1 N.length root),some (arow N)],[],rfl,rfl,rfl,rfl,rfl,hu⟩
 ·rintro v h' F' _ h; exact h.elim
 ·rintro v' h' F' _ ⟨v0,os,tl,rfl,rfl,rfl,rfl,rfl,hu⟩
  rw [hv]
  show k _ ((h.set b (some (trow c N.length root))).set c (some (arow N)) ++ [none,none]) F'
  rw [live_set_self hb,live_set_self hc]
  exact hk F' hu
 ·rintro v h' F' _ ⟨v0,os,tl,_,_,h⟩; exact h.elim
theorem rows2_v {N:List NE} {root:Int}:∀ c r,Rows.live [some (trow 1 N.length root),some (arow N)] c = some r -> RowV some 2 r r:=by
 intro c r h
 match c with
 | 0 => cases h; exact trow_v rfl (by simp)
 | 1 => cases h; exact (arow_g N).vw _ _
 | c + 2 => simp [Rows.live] at h
theorem fit2 {R:RR} {T TM:List AV} {N:List NE} {root:Int} {tl:Rows} {F:Fz} {S:St -> Fz -> Prop} (hT:VwL some 2 T TM) (hS:S ⟨T,[some (trow 1 N.length root),some (arow N)]⟩ F):ToX R [] 2 ⟨TM,[some (trow 1 N.length root),some (arow N)] ++ tl⟩ F S :=
 ToX.fit (stE:=⟨T,[some (trow 1 N.length root),some (arow N)]⟩) (Fit.pre (L:=[some (trow 1 N.length root),some (arow N)]) rows2_v hT) (ToX.here hS)
theorem spec16k_ok {R:RR} (hR:Free6 R) {ts:List Tr} {is:List Nat} {N:List NE} (hs:∀ t ∈ ts,SizeN t) (hT:TrNs N ts is) (HP:HPt):∀ args h k F,spec16k ts is N args h k F -> SafeCallX Try.prog (R6 R is) 16 args h F k HP:=by
 intro args h k F hk
 unfold spec16k at hk
 split at hk
 ·obtain ⟨j,root,hj,rfl,hN,hb,hc,hk⟩:=hk
  have hm:ts.getD j tD ∈ ts:=by rw [List.getD_eq_getElem?_getD,List.getElem?_eq_getElem hj]; exact List.getElem_mem hj
  refine atTree (zs:=[.int .i64 (is.getD j 0:Nat)]) rfl (fun g => rfl) hb hc ?_ hk
  refine SafeCallX.unread (k:=6) (R:=R) (Q:=fun v h' F' => v = .int .i64 (size (ts.getD j tD):Nat) /\ h' = [some (trow 1 N.length root),some (arow N)] /\ Up F F') (HP:=fun _ _ _ => False) (by decide) hR.n hR.q (by kernel_rfl) (by kernel_rfl) (hs _ hm R hR _ root N F _ _ hN (hT.at ts is j hj) fun F' hu => ⟨rfl,rfl,hu⟩) ?_ ?_
  ·rintro v h' F' _ ⟨rfl,rfl,hu⟩; exact ⟨rfl,by kernel_rfl,rfl,rfl,hu⟩
  ·rintro v h' F' _ h; exact h.elim
 ·exact hk.elim
theorem env16_ok {R:RR} (hR:Free6 R) {ts:List Tr} {is:List Nat} {N:List NE} (hs:∀ t ∈ ts,SizeN t) (hT:TrNs N ts is) (HP:HPt):OKX Try.prog (env16 R ts is N) [] HP :=
 (bx_ok _ [] HP).addCall (f:=16) (fi:=fi16) (by kernel_rfl) (spec16k_ok hR hs hT HP)
theorem tm16_spr (i acc j:Nat):tm16 i acc j = spr [(0,.ptr false 0 0 0),(1,.int .i64 (i:Nat)),(5,.int .i64 (acc:Nat)),(6,.int .i64 (j:Nat))] 0 36:=by kernel_rfl
theorem tm16t_spr (i acc j n x:Nat):tm16t i acc j n x = spr [(0,.ptr false 0 0 0),(1,.int .i64 (i:Nat)),(6,.int .i64 (j:Nat)),(20,.int .i64 (acc:Nat)),(21,.ptr false 0 0 0),(29,.sl true (x + 15) 0 n .no)] 0 36:=by kernel_rfl
theorem blk16:blkOf fi16 1 = .region (ridR (blkOf fi16 1)) ops16 false:=by kernel_rfl
theorem getN {N:List NE} {i:Nat} {e:NE} (he:N[i]? = some e):N.getD (0 + ((i:Nat):Int).toNat) dN = e:=by
 rw [show 0 + ((i:Nat):Int).toNat = i by simp,List.getD_eq_getElem?_getD,he]; rfl
theorem kid16 {R : Nat → RoRow} (hR : Free6 R) {ts : List Tr} {e : NE} {N : List NE} {i j acc : Nat} (hs : ∀ t ∈ ts, SizeN t) (he : N[i]? = some e) (hT : TrNs N ts e.kids) (HP : HPt) :
    ∀ st k F, lpB16 ts i j acc N st k F → SafeX Try.prog R [] (.block 1 (blkOf fi16 1)) st F k HP := by
  rintro ⟨TM, rows⟩ k F ⟨hj, hz, h0, h1, h2, h3, h4, root, hr, hN, hk⟩
  simp only at h0 h1 h2 h3 h4 hr
  subst hr
  have hlt : i < N.length := (List.getElem?_eq_some_iff.1 he).1
  have hlen : ts.length = e.kids.length := hT.len
  have hfr := hN.is e (List.mem_of_getElem? he)
  have s1 : SafeO Try.prog (R6 R e.kids) [] ops16 (ops16.toList.drop 10) (fam16s i acc j e.kids.length root N) F (fun x st' F' => x = .normal ∧ st' = fam16 i (acc + size (ts.getD j tD)) j root N ∧ Up F F') (fun _ _ _ => False) := by
    refine SafeO.post (SafeO.run (k := fun st' F' => ∃ TM', st' = ⟨TM', [some (trow 1 N.length root), some (arow N)] ++ [none, none]⟩ ∧ VwL some 2 (tm16 i (acc + size (ts.getD j tD)) j) TM' ∧ Up F F') (env16_ok hR hs hT _) (Eq.mpr (vs16 R ts e.kids root N i acc j e.kids.length _ F) ?_)) ?_
    · refine hcT (by rw [decide_eq_true (show ((j : Nat) : Int) < (e.kids.length : Int) by omega)]; rfl) (hcT (decide_eq_true (show 0 + ((j : Nat) : Int).toNat < e.kids.length by simp; omega)) ⟨j, root, hj, by simp, hN, rfl, rfl, fun F' hu => ?_⟩)
      rw [wrapI64 _ (by omega) (by omega)]
      exact ⟨_, rfl, by have e2 : (acc : Int) + (size (ts.getD j tD) : Int) = ((acc + size (ts.getD j tD) : Nat) : Int) := by omega
                        rw [e2]; (repeat' (first | with_reducible exact VwL.nil | with_reducible refine VwL.cons ?_ ?_ | with_reducible exact Vw.anyI | with_reducible exact Vw.strI | with_reducible exact Vw.boolI | with_reducible exact Vw.intI | with_reducible exact Vw.nilsI | exact Vw.ptrI (by simp) rfl | exact Vw.slI (by simp) rfl | with_reducible refine Vw.aggI ?_ | exact Vw.gndI rfl)), hu⟩
    · rintro x st' F' _ ⟨rfl, TM', rfl, hv, hu⟩
      exact fit2 hv ⟨rfl, rfl, hu⟩
  have s2 := SafeO.swap (R := R) (k := 6) (x := e.x) (by decide) hfr hR.n hR.q s1 (Q1 := fun x st' F' => x = .normal ∧ st' = fam16 i (acc + size (ts.getD j tD)) j root N ∧ Up F F') (HP1 := HP) (by rintro x st' F' _ ⟨rfl, rfl, hu⟩; exact ⟨by kernel_rfl, rfl, rfl, hu⟩) (fun v h' F' _ h => h.elim)
  have e0 : nmSt 6 e.x (fam16s i acc j e.kids.length root N) = ⟨tm16t i acc j e.kids.length e.x, [some (trow 1 N.length root), some (arow N)]⟩ := by kernel_rfl
  rw [e0] at s2
  have s3 : SafeO Try.prog R [] ops16 (ops16.toList.take 10 ++ ops16.toList.drop 10) (fam16 i acc j root N) F (fun x st' F' => x = .normal ∧ st' = fam16 i (acc + size (ts.getD j tD)) j root N ∧ Up F F') HP := by
    refine SafeO.pre (K := fun st1 F1 => F1 = F ∧ st1.tmps.length = 36 ∧ nthV st1.tmps 0 = .ptr false 0 0 0 ∧ nthV st1.tmps 1 = .int .i64 (i : Nat) ∧ nthV st1.tmps 6 = .int .i64 (j : Nat) ∧ nthV st1.tmps 20 = .int .i64 (acc : Nat) ∧ nthV st1.tmps 21 = .ptr false 0 0 0 ∧ nthV st1.tmps 29 = .sl true (e.x + 15) 0 e.kids.length .no ∧ st1.rows = [some (trow 1 N.length root), some (arow N)]) (bx_ok R [] HP) ?_ ?_
    · refine Eq.mpr (vp16 R ts e.kids root N i acc j (fun n a b c d f g rows F1 => F1 = F ∧ n = 36 ∧ a = .ptr false 0 0 0 ∧ b = .int .i64 (i : Nat) ∧ c = .int .i64 (j : Nat) ∧ d = .int .i64 (acc : Nat) ∧ f = .ptr false 0 0 0 ∧ g = .sl true (e.x + 15) 0 e.kids.length .no ∧ rows = [some (trow 1 N.length root), some (arow N)]) F) ?_
      refine hcT (by rw [decide_eq_true (show ((i : Nat) : Int) < (N.length : Int) by omega)]; rfl) (hcT (decide_eq_true (by simpa using hlt)) ⟨rfl, rfl, rfl, rfl, rfl, rfl, rfl, ?_, rfl⟩)
      rw [getN he]
    · rintro ⟨TM1, rows1⟩ F1 ⟨rfl, g1, g2, g3, g4, g5, g6, g7, g8⟩
      simp only at g1 g2 g3 g4 g5 g6 g7 g8
      subst g8
      refine SafeO.to (fit2 (tl := []) (T := tm16t i acc j e.kids.length e.x) ?_ s2)
      rw [tm16t_spr]
      exact VwL.ofKnown g1 ⟨by rw [g2]; exact Vw.ptrI (by simp) rfl, by rw [g3]; exact Vw.intI, by rw [g4]; exact Vw.intI, by rw [g5]; exact Vw.intI, by rw [g6]; exact Vw.ptrI (by simp) rfl, by rw [g7]; exact Vw.gndI rfl, trivial⟩
  rw [List.take_append_drop] at s3
  have s4 : SafeX Try.prog R [] (blkOf fi16 1) (fam16 i acc j root N) F (fun x st' F' => x = .normal ∧ st' = fam16 i (acc + size (ts.getD j tD)) j root N ∧ Up F F') HP := blk16 ▸ SafeX.ofO s3
  refine SafeX.pre (fit2 (tl := []) (T := tm16 i acc j) ?_ (SafeX.blockN (s4.mono ?_ fun _ _ _ h => h)))
  · rw [tm16_spr]
    exact VwL.ofKnown h0 ⟨by rw [h1]; exact Vw.ptrI (by simp) rfl, by rw [h2]; exact Vw.intI, by rw [h3]; exact Vw.intI, by rw [h4]; exact Vw.intI, trivial⟩
  · rintro x st' F' ⟨rfl, rfl, hu⟩
    exact ⟨rfl, hk F' hu⟩
theorem acc16 (ts:List Tr):∀ j,j < ts.length -> 1 + sizes (ts.take (j + 1)) = 1 + sizes (ts.take j) + size (ts.getD j tD):=fun j hj => by
 rw [List.take_add_one,List.getElem?_eq_getElem hj]
 show 1 + sizes (_ ++ [_]) = _
 rw [sizes_app,List.getD_eq_getElem?_getD,List.getElem?_eq_getElem hj]
 show 1 + (_ + size ts[j]) = _ + size ts[j]
 omega
theorem take_sz (ts:List Tr):∀ j,j <= ts.length -> sizes (ts.take j) <= sizes ts:=fun j hj => by
 have key:∀ (l m:List Tr),sizes (l ++ m) = sizes l + sizes m:=by
  intro l
  induction l with
  | nil => intro m; simp [sizes]
  | cons t l ih => intro m; simp only [List.cons_append,sizes,ih m]; omega
 have:=key (ts.take j) (ts.drop j)
 rw [List.take_append_drop] at this
 omega
theorem loop16 {R:RR} (hR:Free6 R) {ts:List Tr} {e:NE} {N:List NE} {i:Nat} (hs:∀ t ∈ ts,SizeN t) (he:N[i]? = some e) (hT:TrNs N ts e.kids) (hz:sizes ts <= 10000000) (HP:HPt) :
  ∀ st k F,lp16 i e.kids.length (1 + sizes ts) N st k F -> SafeX Try.prog R [] (.block 0 (.loop (loopOf fi16 0))) st F k HP:=by
 rintro ⟨TM,rows⟩ k F ⟨h0,h1,h2,h3,h4,root,hr,hN,hk⟩
 simp only at h0 h1 h2 h3 h4 hr
 subst hr
 have hlt:i < N.length:=(List.getElem?_eq_some_iff.1 he).1
 have hlen:ts.length = e.kids.length:=hT.len
 have htl:=sizes_len ts
 refine SafeX.loop_block (Inv:=fun m st F' => Up F F' /\ ∃ j,j <= ts.length /\ m = ts.length - j /\ st = fam16 i (1 + sizes (ts.take j)) j root N) ?_ ?_
 ·refine fit2 (tl:=[]) (T:=tm16 i 1 0) ?_ ⟨_,Up.refl F,0,Nat.zero_le _,rfl,rfl⟩
  rw [tm16_spr]
  exact VwL.ofKnown h0 ⟨by rw [h1]; exact Vw.ptrI (by simp) rfl,by rw [h2]; exact Vw.intI,by rw [h3]; exact Vw.intI,by rw [h4]; exact Vw.intI,trivial⟩
 ·rintro m st' F' ⟨hu,j,hj,rfl,rfl⟩
  have hb1:=take_sz ts j hj
  refine SafeX.by mixed ((bx_ok R [] HP).addLoop (f:=16) (fi:=fi16) (by kernel_rfl) (i:=1) (body:=blkOf fi16 1) (by kernel_rfl) (kid16 hR (i:=i) (j:=j) (acc:=1 + sizes (ts.take j)) hs he hT HP)) (f:=16) (fi:=fi16) (i:=0) (by kernel_rfl) (b:=.loop (loopOf fi16 0)) (by kernel_rfl) (subs_loop _) 1000 (vr16 R ts e.kids root N i _ j _ F') ?_
  refine hcT (by rw [decide_eq_true (show ((i:Nat):Int) < (N.length:Int) by omega)]; rfl) (hcT (decide_eq_true (by simpa using hlt)) (hcB (fun h => ?_) fun h => ?_))
  ·rw [getN he] at h
   have hl:j < ts.length:=by have:=of_decide_eq_true h; omega
   have ha:=acc16 ts j hl
   have hb2:=take_sz ts (j + 1) hl
   refine ⟨hl,show _ <= 20000000 by omega,rfl,rfl,rfl,rfl,rfl,root,rfl,hN.le hu,fun F2 hu2 => ?_⟩
   rw [wrapSucc j (by omega),<- ha]
   exact fit2 (tl:=[]) (T:=tm16 i (1 + sizes (ts.take (j + 1))) (j + 1)) (by (repeat' (first | with_reducible exact VwL.nil | with_reducible refine VwL.cons ?_ ?_ | with_reducible exact Vw.anyI | with_reducible exact Vw.strI | with_reducible exact Vw.boolI | with_reducible exact Vw.intI | with_reducible exact Vw.nilsI | exact Vw.ptrI (by simp) rfl | exact Vw.slI (by simp) rfl | with_reducible refine Vw.aggI ?_ | exact Vw.gndI rfl))) ⟨ts.length - (j + 1),by omega,hu.trans hu2,j + 1,hl,rfl,rfl⟩
  ·rw [getN he] at h
   have hj':j = ts.length:=by have:=of_decide_eq_false h; omega
   subst hj'
   rw [List.take_length]
   refine fit2 (tl:=[]) (T:=tm16 i (1 + sizes ts) e.kids.length) (by rw [<- hlen]; (repeat' (first | with_reducible exact VwL.nil | with_reducible refine VwL.cons ?_ ?_ | with_reducible exact Vw.anyI | with_reducible exact Vw.strI | with_reducible exact Vw.boolI | with_reducible exact Vw.intI | with_reducible exact Vw.nilsI | exact Vw.ptrI (by simp) rfl | exact Vw.slI (by simp) rfl | with_reducible refine Vw.aggI ?_ | exact Vw.gndI rfl))) (hk F' hu)
theorem size_stepN (kd:Nat) (w:List UInt8) (ts:List Tr) (hz:sizes ts <= 10000000) (hs:∀ t ∈ ts,SizeN t):SizeN (.mk kd w ts):=by
 intro R hR i root N F k HP hN ht hk
 simp only [TrN] at ht
 obtain ⟨e,he,hkd,hw,hT⟩:=ht
 refine SafeCallX.by mixed ((bx_ok R [] HP).addLoop (f:=16) (fi:=fi16) (by kernel_rfl) (i:=0) (body:=.loop (loopOf fi16 0)) (by kernel_rfl) (loop16 hR hs he hT hz HP)) (f:=16) (fi:=fi16) (by kernel_rfl) 1000 (vc16 R ts e.kids root N i e.kids.length (1 + sizes ts) k F) ?_
 exact ⟨rfl,rfl,rfl,rfl,rfl,root,rfl,hN,fun F' hu => by have:=hk F' hu; simpa only [size] using this⟩
mutual
theorem sizeN:∀ (t:Tr),size t <= 10000000 -> SizeN t
 | .mk k w ts,h => size_stepN k w ts (by simp only [size] at h; omega) (sizeNs ts (by simp only [size] at h; omega))
theorem sizeNs:∀ (ts:List Tr),sizes ts <= 10000000 -> ∀ u ∈ ts,SizeN u
 | [],_,u,h => by cases h
 | t :: ts,hl,u,h => by
  simp only [sizes] at hl
  rcases List.mem_cons.1 h with e | h
  ·rw [e]; exact sizeN t (by omega)
  ·exact sizeNs ts (by omega) u h
end
def spec16:CallSpecX:=fun args h k => match args with
 | [.ptr false b 0 0,.int .i64 i] => atT botX h b fun c n root => fun F => ∃ t N i0,n = N.length /\ h.live c = some (arow N) /\ i = (i0:Nat) /\ NF F N /\ TrA N t i0 /\ size t <= 10000000 /\ ∀ F',Up F F' -> k (.int .i64 (size t:Nat)) (h ++ [none,none]) F'
 | _ => botX
def ords:Nat -> List (List Nat)
 | 0 => [[]]
 | n + 1 => (List.range (n + 1)).flatMap fun f => (ords n).map fun r => f :: r.map fun j => if f <= j then j + 1 else j
def outAll (ks:List Tr):Tr:=.mk 5 [] ((ords ks.length).map fun o => .mk 4 [] (o.map fun i => ks.getD i tD))
def chk:Option Tr -> Option Tr
 | none => none
 | some t => if size t > 4096 then none else some t
def outOf (k:Nat) (w:List UInt8) (ks:List Tr):Option Tr:=if k = 6 then (if ks.length > 4 then none else some (outAll ks)) else some (.mk k w ks)
mutual
/-- The expression without Alls,if it is not too big. -/
def spr:Tr -> Option Tr
 | .mk k w kids => match sprs kids with | none => none | some ks => chk (outOf k w ks)
def sprs:List Tr -> Option (List Tr)
 | [] => some []
 | t :: ts => match spr t with | none => none | some u => match sprs ts with | none => none | some us => some (u :: us)
end
structure SprIs (t:Tr) (o:Option Tr):Prop where
 is:spr t = o
structure SprsIs (t:List Tr) (o:Option (List Tr)):Prop where
 is:sprs t = o
abbrev zV:AV:=.agg [.int .i64 0,.str [],.nils]
def spec18k (l:List (Tr × Nat)):CallSpecX:=fun args h k => match args with
 | [a] => fun F => ∃ j:Nat,j < l.length /\ a = exprV (l.getD j dT).1 (l.getD j dT).2 /\ TAts F l /\ (∀ t',SprIs (l.getD j dT).1 (some t') -> ∀ x' F',Up F F' -> TAt F' t' x' -> k (.tup [exprV t' x',.int .i64 0]) h F') /\ (SprIs (l.getD j dT).1 none -> ∀ F',Up F F' -> k (.tup [zV,.int .i64 6]) h F')
 | _ => botX
noncomputable abbrev R5 (R:RR) (l:List (Tr × Nat)):RR:=updR R 5 (kidR l)
noncomputable abbrev env18 (R:RR) (l:List (Tr × Nat)):EnvX:=(bx (R5 R l)).addCall 18 (spec18k l)
noncomputable abbrev tm18 (n j:Nat):List AV:=[.any,.ptr false 0 0 0,.ptr false 1 0 0,.any,.ptr false 2 0 0,.any,.any,.any,.any,.any,.any,.any,.any,.any,.any,.any,.any,.any,.any,.any,.any,.sl true 5 0 n .no,.int .i64 (n:Nat),.int .i64 (j:Nat),.any,.any,.any,.any,.any,.any,.any,.any,.any,.any,.any,.any,.any,.any,.any,.any,.any,.any,.any,.any,.any,.any,.any,.any,.any,.any,.any,.any,.any,.any,.any,.any,.any,.any,.any,.any,.any,.any,.any,.any,.any,.any,.any,.any,.any,.any,.any,.any,.any,.any,.any,.any,.any,.any,.any,.any,.any,.any,.any,.any,.any,.any,.any,.any,.any,.any,.any,.any]
abbrev e5r (kd:Int) (w:List UInt8) (n:Nat):Row:=.lst 25 3 [.agg [.int .i64 kd,.str w,.sl true 5 0 n .no]]
abbrev o5r (kd:Int) (w:List UInt8) (c n:Nat):Row:=.lst 25 3 [.agg [.int .i64 kd,.str w,.sl false c 0 n .no]]
noncomputable abbrev fam18 (kd:Int) (w:List UInt8) (n j:Nat) (l':List (Tr × Nat)):St:=⟨tm18 n j,[some (e5r kd w n),some (.lst 25 3 [.agg [.int .i64 0,.str [],.nils]]),some (o5r kd w 3 l'.length),some (krow l')]⟩
noncomputable abbrev bad18:St:=⟨[.any,.any,.ptr false 1 0 0,.int .i64 6,.any,.any,.any,.any,.any,.any,.any,.any,.any,.any,.any,.any,.any,.any,.any,.any,.any,.any,.any,.any,.any,.any,.any,.any,.any,.any,.any,.any,.any,.any,.any,.any,.any,.any,.any,.any,.any,.any,.any,.any,.any,.any,.any,.any,.any,.any,.any,.any,.any,.any,.any,.any,.any,.any,.any,.any,.any,.any,.any,.any,.any,.any,.any,.any,.any,.any,.any,.any,.any,.any,.any,.any,.any,.any,.any,.any,.any,.any,.any,.any,.any,.any,.any,.any,.any,.any,.any,.any],[none,some (.lst 25 3 [.agg [.int .i64 0,.str [],.nils]]),none]⟩
def lp18 (kd:Int) (w:List UInt8) (l:List (Tr × Nat)):LoopSpX:=fun st k F => st.tmps.length = 92 /\ nthV st.tmps 1 = .ptr false 0 0 0 /\ nthV st.tmps 2 = .ptr false 1 0 0 /\ nthV st.tmps 4 = .ptr false 2 0 0 /\ nthV st.tmps 21 = .sl true 5 0 l.length .no /\ nthV st.tmps 22 = .int .i64 (l.length:Nat) /\ nthV st.tmps 23 = .int .i64 0 /\
 st.rows = [some (e5r kd w l.length),some (.lst 25 3 [.agg [.int .i64 0,.str [],.nils]]),some (.lst 25 3 [.agg [.int .i64 kd,.str w,.nils]])] /\ TAts F l /\
 (∀ ks,SprsIs (l.map Prod.fst) (some ks) -> ∀ (l':List (Tr × Nat)) F',l'.map Prod.fst = ks -> Up F F' -> TAts F' l' -> k .normal (fam18 kd w l.length l.length l') F') /\ (SprsIs (l.map Prod.fst) none -> ∀ F',Up F F' -> k .ret bad18 F')
theorem vr18 (R:RR) (kd:Int) (w:List UInt8) (l l2:List (Tr × Nat)) (j:Nat) (q:Exit -> Nat -> List AV -> Rows -> Fz -> Prop) (F:Fz):rnx (env18 R l) 1000 18 (loopOf fi18 0) (fam18 kd w l.length j l2) (fun e st => q e st.tmps.length [nthV st.tmps 1,nthV st.tmps 2,nthV st.tmps 3,nthV st.tmps 4,nthV st.tmps 21,nthV st.tmps 22,nthV st.tmps 23] st.rows) F = (bif decide ((↑j:Int) < (↑l.length:Int)) then bif true && decide ((↑j:Int) < (↑l.length:Int)) then bif decide (0 + (↑j:Int).toNat < ((env18 R l).R 5).n) then ∃ (j_1:Nat),j_1.succ.le l.length /\ AV.agg [iI (↑(l.getD (0 + (↑j:Int).toNat) dT).fst.kind:Int),AV.str (l.getD (0 + (↑j:Int).toNat) dT).fst.word,AV.sl true ((l.getD (0 + (↑j:Int).toNat) dT).snd + 15) 0 (l.getD (0 + (↑j:Int).toNat) dT).fst.kids.length Cp.no] = AV.agg [iI (↑(l.getD j_1 dT).fst.kind:Int),AV.str (l.getD j_1 dT).fst.word,AV.sl true ((l.getD j_1 dT).snd + 15) 0 (l.getD j_1 dT).fst.kids.length Cp.no] /\ TAts F l /\ (∀ (t':Tr),SprIs (l.getD j_1 dT).fst (some t') -> ∀ (x':Nat) (F':Fz),Up F F' -> TAt F' t' x' -> bif decide (0 + l2.length <= l2.length) && (true && (true && decide (((Src.gen l2.length fun (j:Nat) => exprV (l2.getD (0 + j) dT).fst (l2.getD (0 + j) dT).snd).len + 1) * 48 <= 140737488355328))) then q Exit.normal 92 [AV.ptr false 0 0 0,AV.ptr false 1 0 0,AV.any,AV.ptr false 2 0 0,AV.sl true 5 0 l.length Cp.no,iI (↑l.length:Int),iI (IntKind.i64.wrap ((↑j:Int) + 1))] [some (Row.lst 25 3 [AV.agg [iI kd,AV.str w,AV.sl true 5 0 l.length Cp.no]]),some (Row.lst 25 3 [AV.agg [iI 0,AV.str [],AV.nils]]),some (Row.lst 25 3 [AV.agg [iI kd,AV.str w,AV.sl false 7 0 ((Src.gen l2.length fun (j:Nat) => exprV (l2.getD (0 + j) dT).fst (l2.getD (0 + j) dT).snd).len + 1) Cp.no]]),none,some (Row.lst 25 3 [AV.agg [iI (↑(l.getD (0 + (↑j:Int).toNat) dT).fst.kind:Int),AV.str (l.getD (0 + (↑j:Int).toNat) dT).fst.word,AV.sl true ((l.getD (0 + (↑j:Int).toNat) dT).snd + 15) 0 (l.getD (0 + (↑j:Int).toNat) dT).fst.kids.length Cp.no]]),some (Row.lst 25 3 [AV.agg [iI (↑t'.kind:Int),AV.str t'.word,AV.sl true (x' + 15) 0 t'.kids.length Cp.no]]),some (Row.lst 25 3 [AV.agg [iI (↑t'.kind:Int),AV.str t'.word,AV.sl true (x' + 15) 0 t'.kids.length Cp.no]]),some (Row.gen 25 3 ((Src.gen l2.length fun (j:Nat) => exprV (l2.getD (0 + j) dT).fst (l2.getD (0 + j) dT).snd).len + 1) fun (j:Nat) => bif j.blt (Src.gen l2.length fun (j:Nat) => exprV (l2.getD (0 + j) dT).fst (l2.getD (0 + j) dT).snd).len then AV.agg [iI (↑(l2.getD (0 + j) dT).fst.kind:Int),AV.str (l2.getD (0 + j) dT).fst.word,AV.sl true ((l2.getD (0 + j) dT).snd + 15) 0 (l2.getD (0 + j) dT).fst.kids.length Cp.no] else (Src.lst [AV.agg [iI (↑t'.kind:Int),AV.str t'.word,AV.sl true (x' + 15) 0 t'.kids.length Cp.no]]).at_ (j - (Src.gen l2.length fun (j:Nat) => exprV (l2.getD (0 + j) dT).fst (l2.getD (0 + j) dT).snd).len))] F' else False) /\ (SprIs (l.getD j_1 dT).fst none -> ∀ (F':Fz),Up F F' -> q Exit.ret 92 [AV.ptr false 0 0 0,AV.ptr false 1 0 0,iI 6,AV.ptr false 2 0 0,AV.sl true 5 0 l.length Cp.no,iI (↑l.length:Int),iI (↑j:Int)] [some (Row.lst 25 3 [AV.agg [iI kd,AV.str w,AV.sl true 5 0 l.length Cp.no]]),some (Row.lst 25 3 [AV.agg [iI 0,AV.str [],AV.nils]]),some (Row.lst 25 3 [AV.agg [iI kd,AV.str w,AV.sl false 3 0 l2.length Cp.no]]),some (Row.gen 25 3 l2.length fun (i:Nat) => exprV (l2.getD i dT).fst (l2.getD i dT).snd),some (Row.lst 25 3 [AV.agg [iI (↑(l.getD (0 + (↑j:Int).toNat) dT).fst.kind:Int),AV.str (l.getD (0 + (↑j:Int).toNat) dT).fst.word,AV.sl true ((l.getD (0 + (↑j:Int).toNat) dT).snd + 15) 0 (l.getD (0 + (↑j:Int).toNat) dT).fst.kids.length Cp.no]]),some (Row.lst 25 3 [AV.agg [iI 0,AV.str [],AV.nils]])] F') else False else False else q (Exit.exit 0) 92 [AV.ptr false 0 0 0,AV.ptr false 1 0 0,AV.any,AV.ptr false 2 0 0,AV.sl true 5 0 l.length Cp.no,iI (↑l.length:Int),iI (↑j:Int)] [some (Row.lst 25 3 [AV.agg [iI kd,AV.str w,AV.sl true 5 0 l.length Cp.no]]),some (Row.lst 25 3 [AV.agg [iI 0,AV.str [],AV.nils]]),some (Row.lst 25 3 [AV.agg [iI kd,AV.str w,AV.sl false 3 0 l2.length Cp.no]]),some (Row.gen 25 3 l2.length fun (i:Nat) => exprV (l2.getD i dT).fst (l2.getD i dT).snd)] F):=by kernel_rfl
theorem o5_v {f:Nat -> Option Nat} {m c d n:Nat} {kd:Int} {w:List UInt8} (hf:f c = some d) (hc:c < m):RowV f m (o5r kd w c n) (o5r kd w d n):=.lst1 rfl (Vw.aggI (VwL.cons Vw.intI (VwL.cons Vw.strI (VwL.cons (Vw.slI hc hf) VwL.nil))))
def thF (o:Option Nat):Nat -> Option Nat:=fun c => bif Nat.beq c 3 then o else some c
theorem rows18 {kd:Int} {w:List UInt8} {n:Nat} {l:List (Tr × Nat)} {c:Nat} {r:Row} (h:Rows.live [some (e5r kd w n),some (.lst 25 3 [.agg [.int .i64 0,.str [],.nils]]),some (o5r kd w 3 l.length),some (krow l)] c = some r):(c = 0 /\ r = e5r kd w n) \/ (c = 1 /\ r = .lst 25 3 [zV]) \/ (c = 2 /\ r = o5r kd w 3 l.length) \/ (c = 3 /\ r = krow l):=by
 match c,h with
 | 0,h => cases h; exact .inl ⟨rfl,rfl⟩
 | 1,h => cases h; exact .inr (.inl ⟨rfl,rfl⟩)
 | 2,h => cases h; exact .inr (.inr (.inl ⟨rfl,rfl⟩))
 | 3,h => cases h; exact .inr (.inr (.inr ⟨rfl,rfl⟩))
 | c + 4,h => simp [Rows.live] at h
theorem toF18 {R:RR} {T TM:List AV} {h:Rows} {kd:Int} {w:List UInt8} {n:Nat} {l:List (Tr × Nat)} {o:Option Nat} {F:Fz} {S:St -> Fz -> Prop} (h0:h.live 0 = some (e5r kd w n)) (h1:h.live 1 = some (.lst 25 3 [zV]))
  (h3:(o = none /\ l = [] /\ h.live 2 = some (.lst 25 3 [.agg [.int .i64 kd,.str w,.nils]])) \/ ∃ q r,o = some q /\ 3 <= q /\ h.live 2 = some (o5r kd w q l.length) /\ h.live q = some r /\ RowV (thF o) 4 (krow l) r)
  (hT:VwL (thF o) 4 T TM) (hS:S ⟨T,[some (e5r kd w n),some (.lst 25 3 [.agg [.int .i64 0,.str [],.nils]]),some (o5r kd w 3 l.length),some (krow l)]⟩ F):ToX R [] 3 ⟨TM,h⟩ F S:=by
 refine ToX.fitW (stE:=⟨T,[some (e5r kd w n),some (.lst 25 3 [.agg [.int .i64 0,.str [],.nils]]),some (o5r kd w 3 l.length),some (krow l)]⟩) (thF o) ⟨fun c c' b r r' hc hc' e e' => ?_,fun c r hc => ?_⟩ hT (fun c hc => ?_) (by simp) (ToX.here hS)
 ·have key:∀ c r,Rows.live [some (e5r kd w n),some (.lst 25 3 [.agg [.int .i64 0,.str [],.nils]]),some (o5r kd w 3 l.length),some (krow l)] c = some r -> ∀ b,thF o c = some b -> (c = b /\ c < 3) \/ (c = 3 /\ 3 <= b):=by
   intro c r hc b e
   rcases rows18 hc with ⟨rfl,_⟩ | ⟨rfl,_⟩ | ⟨rfl,_⟩ | ⟨rfl,_⟩
   ·cases e; exact .inl ⟨rfl,by decide⟩
   ·cases e; exact .inl ⟨rfl,by decide⟩
   ·cases e; exact .inl ⟨rfl,by decide⟩
   ·rcases h3 with ⟨rfl,_⟩ | ⟨q,r,rfl,hq,_⟩
    ·cases e
    ·cases e; exact .inr ⟨rfl,hq⟩
  have a:=key c r hc b e
  have a':=key c' r' hc' b e'
  omega
 ·rcases rows18 hc with ⟨rfl,rfl⟩ | ⟨rfl,rfl⟩ | ⟨rfl,rfl⟩ | ⟨rfl,rfl⟩
  ·exact .inl ⟨0,_,rfl,h0,(e5row_g _ _ _).vw _ _⟩
  ·exact .inl ⟨1,_,rfl,h1,(RowG.lst1' rfl rfl).vw _ _⟩
  ·rcases h3 with ⟨rfl,rfl,hq⟩ | ⟨q,r,rfl,hq,h2,h3,hv⟩
   ·exact .inl ⟨2,_,rfl,hq,.lst1 rfl (Vw.aggI (VwL.cons Vw.intI (VwL.cons Vw.strI (VwL.cons (Vw.slN (b:=3) (by simp) rfl) VwL.nil))))⟩
   ·exact .inl ⟨2,_,rfl,h2,o5_v rfl (by simp)⟩
  ·rcases h3 with ⟨rfl,rfl,hq⟩ | ⟨q,r,rfl,hq,h2,h3,hv⟩
   ·exact .inr ⟨rfl,rfl⟩
   ·exact .inl ⟨q,r,rfl,h3,hv⟩
 ·match c,hc with
  | 0,_ => rfl
  | 1,_ => rfl
  | 2,_ => rfl
theorem tm18_spr (n j:Nat):tm18 n j = Dc.spr [(1,.ptr false 0 0 0),(2,.ptr false 1 0 0),(4,.ptr false 2 0 0),(21,.sl true 5 0 n .no),(22,.int .i64 (n:Nat)),(23,.int .i64 (j:Nat))] 0 92:=by kernel_rfl
def SprOK (t:Tr):Prop:=∀ (R:RR),Free R -> ∀ (x:Nat) (F:Fz) (k HP:AV -> Rows -> Fz -> Prop),IsT F t x -> (∀ t',spr t = some t' -> ∀ x' F',Up F F' -> TAt F' t' x' -> k (.tup [exprV t' x',.int .i64 0]) [] F') -> (spr t = none -> ∀ F',Up F F' -> k (.tup [zV,.int .i64 6]) [] F') -> SafeCallX Try.prog R 18 [exprV t x] [] F k HP
inductive Spr (t:Tr) (F:Fz):AV -> Fz -> Prop
 | ok (t':Tr) (x':Nat) (F':Fz) (h:spr t = some t') (hu:Up F F') (ht:TAt F' t' x'):Spr t F (.tup [exprV t' x',.int .i64 0]) F'
 | big (F':Fz) (h:spr t = none) (hu:Up F F'):Spr t F (.tup [zV,.int .i64 6]) F'
theorem Spr.gnd {t:Tr} {F F':Fz} {v:AV} (h:Spr t F v F'):gnd v = true:=by cases h <;> rfl
theorem Spr.nm {t:Tr} {F F':Fz} {v:AV} (h:Spr t F v F'):nm 5 0 v = v:=by cases h <;> kernel_rfl
theorem spr_any {t:Tr} (hs:SprOK t) {R:RR} (hR:Free R) {x:Nat} {F:Fz} (hx:IsT F t x) (HP:HPt):SafeCallX Try.prog R 18 [exprV t x] [] F (fun v h' F' => Spr t F v F' /\ h' = []) HP :=
 hs R hR x F _ _ hx (fun t' h x' F' hu ht => ⟨.ok t' x' F' h hu ht,rfl⟩) (fun h F' hu => ⟨.big F' h hu,rfl⟩)
theorem spec18k_ok {R:RR} (hR:Free R) {l:List (Tr × Nat)} (hs:∀ p ∈ l,SprOK p.1) (HP:HPt):∀ args h k F,spec18k l args h k F -> SafeCallX Try.prog (R5 R l) 18 args h F k HP:=by
 intro args h k F hk
 unfold spec18k at hk
 split at hk
 ·obtain ⟨j,hj,rfl,hts,hok,hbad⟩:=hk
  have hm:=getD_mem hj
  have h0:SafeCallX Try.prog (R5 R l) 18 [exprV (l.getD j dT).1 (l.getD j dT).2] [] F (fun v h' F' => gnd v = true /\ Spr (l.getD j dT).1 F v F') (fun v h' F' => gnd v = true /\ False):=by
   refine SafeCallX.unread (Q:=fun v h' F' => Spr (l.getD j dT).1 F v F' /\ h' = []) (HP:=fun _ _ _ => False) (by decide) hR.n hR.q nm_expr rfl (spr_any (hs _ hm) hR (hts.is _ hm) _) ?_ ?_
   ·rintro v h' F' _ ⟨ho,rfl⟩; exact ⟨ho.nm,rfl,ho.gnd,ho⟩
   ·rintro v h' F' _ h; exact h.elim
  refine (SafeCallX.at0 rfl h0).mono ?_ ?_
  ·rintro v h' F' _ ⟨rfl,ho⟩
   cases ho with
   | ok t' x' _ h hu ht => exact hok t' ⟨h⟩ x' F' hu ht
   | big _ h hu => exact hbad ⟨h⟩ F' hu
  ·rintro v h' F' _ ⟨_,h⟩; exact h.elim
 ·exact hk.elim
theorem env18_ok {R:RR} (hR:Free R) {l:List (Tr × Nat)} (hs:∀ p ∈ l,SprOK p.1) (HP:HPt):OKX Try.prog (env18 R l) [] HP :=
 (bx_ok _ [] HP).addCall (f:=18) (fi:=fi18) (by kernel_rfl) (spec18k_ok hR hs HP)
theorem sprs_cons {t:Tr} {ts:List Tr} {u:Tr} (h:spr t = some u):sprs (t :: ts) = (sprs ts).map (u :: ·):=by
 simp only [sprs,h]
 cases sprs ts <;> rfl
theorem sprs_bad {t:Tr} {ts:List Tr} (h:spr t = none):sprs (t :: ts) = none:=by simp only [sprs,h]
theorem drop_getD {l:List (Tr × Nat)} {j:Nat} (h:j < l.length):l.drop j = l.getD j dT :: l.drop (j + 1):=by
 rw [List.drop_eq_getElem_cons h,List.getD_eq_getElem?_getD,List.getElem?_eq_getElem h]; rfl
theorem capK {l:List (Tr × Nat)} (h:l.length <= 100000):(decide (0 + l.length <= l.length) && (true && (true && decide (((Src.gen l.length fun (j:Nat) => exprV (l.getD (0 + j) dT).1 (l.getD (0 + j) dT).2).len + 1) * 48 <= 140737488355328)))) = true:=by
 have h1:(Src.gen l.length fun (j:Nat) => exprV (l.getD (0 + j) dT).1 (l.getD (0 + j) dT).2).len = l.length:=rfl
 rw [h1]
 simp only [Bool.and_eq_true,decide_eq_true_eq]
 exact ⟨by omega,trivial,trivial,by omega⟩
theorem bad18_spr:bad18.tmps = Dc.spr [(2,.ptr false 1 0 0),(3,.int .i64 6)] 0 92:=by kernel_rfl
theorem loop18 {R:RR} (hR:Free R) (kd:Int) (w:List UInt8) {l:List (Tr × Nat)} (hs:∀ p ∈ l,SprOK p.1) (hn:l.length <= 100000) (HP:HPt) :
  ∀ st k F,lp18 kd w l st k F -> SafeX Try.prog (R5 R l) [] (.block 0 (.loop (loopOf fi18 0))) st F k HP:=by
 rintro ⟨TM,rows⟩ k F ⟨h0,h1,h2,h3,h4,h5,h6,h7,hts,hok,hbad⟩
 simp only at h0 h1 h2 h3 h4 h5 h6 h7
 subst h7
 refine SafeX.loop_block (Inv:=fun m st F' => ∃ j l',j <= l.length /\ m = l.length - j /\ l'.length = j /\ Up F F' /\ TAts F' l' /\ sprs (l.map Prod.fst) = (sprs ((l.drop j).map Prod.fst)).map (fun us => l'.map Prod.fst ++ us) /\ st = fam18 kd w l.length j l') ?_ ?_
 ·refine toF18 (kd:=kd) (w:=w) (n:=l.length) (l:=[]) (o:=none) rfl rfl (.inl ⟨rfl,rfl,rfl⟩) (T:=tm18 l.length 0) ?_ ⟨_,0,[],Nat.zero_le _,rfl,rfl,Up.refl F,⟨fun p hp => by cases hp⟩,?_,rfl⟩
  ·rw [tm18_spr]
   exact VwL.ofKnown h0 ⟨by rw [h1]; exact Vw.ptrI (by simp) rfl,by rw [h2]; exact Vw.ptrI (by simp) rfl,by rw [h3]; exact Vw.ptrI (by simp) rfl,by rw [h4]; exact Vw.gndI rfl,by rw [h5]; exact Vw.intI,by rw [h6]; exact Vw.intI,trivial⟩
  ·rw [List.drop_zero]
   cases sprs (l.map Prod.fst) <;> rfl
 ·rintro m st' F' ⟨j,l',hj,rfl,hl',hu,hts',hW,rfl⟩
  have main:SafeX Try.prog (R5 R l) [] (loopOf fi18 0) (fam18 kd w l.length j l') F' (fun e st F2 => st.tmps.length = 92 /\ nthV st.tmps 1 = .ptr false 0 0 0 /\ nthV st.tmps 2 = .ptr false 1 0 0 /\ nthV st.tmps 4 = .ptr false 2 0 0 /\ nthV st.tmps 21 = .sl true 5 0 l.length .no /\ nthV st.tmps 22 = .int .i64 (l.length:Nat) /\ st.rows.live 0 = some (e5r kd w l.length) /\ st.rows.live 1 = some (.lst 25 3 [zV]) /\
    ((e = .exit 0 /\ j = l.length /\ F2 = F' /\ nthV st.tmps 23 = .int .i64 (j:Nat) /\ st.rows = (fam18 kd w l.length j l').rows) \/ (e = .ret /\ spr (l.getD j dT).1 = none /\ j < l.length /\ Up F' F2 /\ nthV st.tmps 3 = .int .i64 6) \/
     (e = .normal /\ j < l.length /\ ∃ t' x',spr (l.getD j dT).1 = some t' /\ TAt F2 t' x' /\ Up F' F2 /\ nthV st.tmps 23 = .int .i64 ((j + 1:Nat):Int) /\ st.rows.live 2 = some (o5r kd w 7 (l' ++ [(t',x')]).length) /\ ∃ r,st.rows.live 7 = some r /\ ∀ f n,RowV f n (krow (l' ++ [(t',x')])) r))) HP:=by
   refine (SafeX.by mixed (env18_ok hR hs HP) (f:=18) (fi:=fi18) (i:=0) (by kernel_rfl) (b:=.loop (loopOf fi18 0)) (by kernel_rfl) (subs_loop _) 1000 (vr18 R kd w l l' j (fun e n T rows F2 => n = 92 /\ nthV T 0 = .ptr false 0 0 0 /\ nthV T 1 = .ptr false 1 0 0 /\ nthV T 3 = .ptr false 2 0 0 /\ nthV T 4 = .sl true 5 0 l.length .no /\ nthV T 5 = .int .i64 (l.length:Nat) /\ rows.live 0 = some (e5r kd w l.length) /\ rows.live 1 = some (.lst 25 3 [zV]) /\
    ((e = .exit 0 /\ j = l.length /\ F2 = F' /\ nthV T 6 = .int .i64 (j:Nat) /\ rows = (fam18 kd w l.length j l').rows) \/ (e = .ret /\ spr (l.getD j dT).1 = none /\ j < l.length /\ Up F' F2 /\ nthV T 2 = .int .i64 6) \/
     (e = .normal /\ j < l.length /\ ∃ t' x',spr (l.getD j dT).1 = some t' /\ TAt F2 t' x' /\ Up F' F2 /\ nthV T 6 = .int .i64 ((j + 1:Nat):Int) /\ rows.live 2 = some (o5r kd w 7 (l' ++ [(t',x')]).length) /\ ∃ r,rows.live 7 = some r /\ ∀ f n,RowV f n (krow (l' ++ [(t',x')])) r))) F') ?_)
   have e2:0 + ((j:Nat):Int).toNat = j:=by simp
   refine hcB (fun h => hcT (by rw [h]; rfl) (hcT ?_ ?_)) fun h => ⟨rfl,rfl,rfl,rfl,rfl,rfl,rfl,rfl,.inl ⟨rfl,by have:=of_decide_eq_false h; omega,rfl,rfl,rfl⟩⟩
   ·have:=of_decide_eq_true h
    rw [e2]; exact decide_eq_true (show j < l.length by omega)
   ·have hlt:j < l.length:=by have:=of_decide_eq_true h; omega
    refine ⟨j,hlt,by rw [e2],hts.le hu,?_,?_⟩
    ·intro t' ht x' F2 hu2 hx
     rw [capK (by omega),wrapSucc j (by omega)]
     refine ⟨rfl,rfl,rfl,rfl,rfl,rfl,rfl,rfl,.inr (.inr ⟨rfl,hlt,t',x',ht.is,hx,hu2,rfl,by rw [List.length_append]; rfl,_,rfl,fun f n => krow_app l' t' x'⟩)⟩
    ·intro hb F2 hu2
     exact ⟨rfl,rfl,rfl,rfl,rfl,rfl,rfl,rfl,.inr (.inl ⟨rfl,hb.is,hlt,hu2,rfl⟩)⟩
  refine main.mono ?_ fun _ _ _ h => h
  rintro e ⟨TM2,rows2⟩ F2 ⟨g0,g1,g2,g3,g4,g5,g6,g7,hx⟩
  simp only at g0 g1 g2 g3 g4 g5 g6 g7 hx
  rcases hx with ⟨rfl,hje,rfl,g8,g9⟩ | ⟨rfl,hb,hlt,hu2,g8⟩ | ⟨rfl,hlt,t',x',ht,hx,hu2,g8,g9,r,g10,g11⟩
  ·subst g9
   have hW2:sprs (l.map Prod.fst) = some (l'.map Prod.fst):=by
    rw [hW,hje,List.drop_length]; show some (_ ++ []) = _; rw [List.append_nil]
   refine toF18 (kd:=kd) (w:=w) (n:=l.length) (l:=l') (o:=some 3) rfl rfl (.inr ⟨3,_,rfl,Nat.le_refl _,rfl,rfl,(krow_g l').vw _ _⟩) (T:=tm18 l.length l.length) ?_ (hok _ ⟨hW2⟩ l' F2 rfl hu hts')
   rw [tm18_spr]
   exact VwL.ofKnown g0 ⟨by rw [g1]; exact Vw.ptrI (by simp) rfl,by rw [g2]; exact Vw.ptrI (by simp) rfl,by rw [g3]; exact Vw.ptrI (by simp) rfl,by rw [g4]; exact Vw.gndI rfl,by rw [g5]; exact Vw.intI,by rw [g8,hje]; exact Vw.intI,trivial⟩
  ·have hW2:sprs (l.map Prod.fst) = none:=by
    rw [hW,drop_getD hlt,List.map_cons,sprs_bad hb]; rfl
   refine ToX.fitW (stE:=bad18) some ⟨fun c c' b r r' _ _ h h' => by cases h; cases h'; rfl,fun c r hc => ?_⟩ ?_ (fun _ _ => rfl) ?_ (ToX.here (hbad ⟨hW2⟩ F2 (hu.trans hu2)))
   ·match c with
    | 0 => cases hc
    | 1 => cases hc; exact .inl ⟨1,_,rfl,g7,(RowG.lst1' rfl rfl).vw _ _⟩
    | 2 => cases hc
    | c + 3 => simp [Rows.live] at hc
   ·rw [bad18_spr]
    exact VwL.ofKnown g0 ⟨by rw [g2]; exact Vw.ptrI (by simp) rfl,by rw [g8]; exact Vw.intI,trivial⟩
   ·exact Nat.le_refl _
  ·refine toF18 (kd:=kd) (w:=w) (n:=l.length) (l:=l' ++ [(t',x')]) (o:=some 7) g6 g7 (.inr ⟨7,r,rfl,by decide,g9,g10,g11 _ _⟩) (T:=tm18 l.length (j + 1)) ?_ ⟨l.length - (j + 1),by omega,j + 1,l' ++ [(t',x')],hlt,rfl,by simp [hl'],hu.trans hu2,(hts'.le hu2).snoc hx,?_,rfl⟩
   ·rw [tm18_spr]
    exact VwL.ofKnown g0 ⟨by rw [g1]; exact Vw.ptrI (by simp) rfl,by rw [g2]; exact Vw.ptrI (by simp) rfl,by rw [g3]; exact Vw.ptrI (by simp) rfl,by rw [g4]; exact Vw.gndI rfl,by rw [g5]; exact Vw.intI,by rw [g8]; exact Vw.intI,trivial⟩
   ·rw [hW,drop_getD hlt,List.map_cons,sprs_cons ht]
    cases sprs ((l.drop (j + 1)).map Prod.fst) with
    | none => rfl
    | some us => simp
theorem lstV {f:Nat -> Option Nat} {n t z:Nat} {l l':List AV} (h1:(l.all ones) = true) (h2:VwL f n l l'):RowV f n (.lst t z l) (.lst t z l') where
 ty:=rfl
 esz:=rfl
 len:=h2.length
 get:=fun i x hx => by
  simp only [Row.get?] at hx ⊢
  obtain ⟨b,hb,hv⟩:=h2.get hx
  exact ⟨ones_mem (List.all_eq_true.1 h1 x (List.mem_of_getElem? hx)),b,hb,hv⟩
theorem inj27 {l:List Nat} (h:l.Nodup) {c c' b:Nat} (e:l[c]? = some b) (e':l[c']? = some b):c = c':=nodup_inj h c c' b e e'
theorem vc27_2 (R:RR) (q:AV -> Option Row -> Option Row -> Option Row -> Nat -> Fz -> Prop) (F:Fz):vcx (bx R) 1000 27 fi27 [.int .i64 2] [] (fun v h F => q v (h.live 17) (h.live 6) (h.live 15) h.length F) F = (q (.sl false 17 0 2 .no) (some (.lst 60 1 [.sl false 6 0 2 .no,.sl false 15 0 2 .no])) (some (.lst 3 1 [.int .i64 0,.int .i64 1])) (some (.lst 3 1 [.int .i64 1,.int .i64 0])) 18 F):=by kernel_rfl
def f27_2:Nat -> Option Nat:=fun c => [17,6,15][c]?
theorem safe27_2 (R:RR) (F:Fz):SafeCallX Try.prog R 27 [.int .i64 2] [] F (fun v h F' => F' = F /\ v = .sl false 0 0 2 .no /\ h = [some (.lst 60 1 [.sl false 1 0 2 .no,.sl false 2 0 2 .no]),some (.lst 3 1 [.int .i64 0,.int .i64 1]),some (.lst 3 1 [.int .i64 1,.int .i64 0])]) (fun _ _ _ => False):=by
 refine SafeCallX.post (Q:=fun v h F' => F' = F /\ v = .sl false 17 0 2 .no /\ h.length = 18 /\ h.live 17 = some (.lst 60 1 [.sl false 6 0 2 .no,.sl false 15 0 2 .no]) /\ h.live 6 = some (.lst 3 1 [.int .i64 0,.int .i64 1]) /\ h.live 15 = some (.lst 3 1 [.int .i64 1,.int .i64 0])) (HP:=fun _ _ _ => False) ?_ ?_ (fun v h' F' _ h => h.elim)
 ·refine SafeCallX.by mixed (bx_ok R [] _) (f:=27) (fi:=fi27) (by kernel_rfl) 1000 (vc27_2 R (fun v r0 r1 r2 m F' => F' = F /\ v = .sl false 17 0 2 .no /\ m = 18 /\ r0 = some (.lst 60 1 [.sl false 6 0 2 .no,.sl false 15 0 2 .no]) /\ r1 = some (.lst 3 1 [.int .i64 0,.int .i64 1]) /\ r2 = some (.lst 3 1 [.int .i64 1,.int .i64 0])) F) ?_
  exact ⟨rfl,rfl,rfl,rfl,rfl,rfl⟩
 ·rintro v h' F' _ ⟨rfl,rfl,hl,g0,g1,g2⟩
  refine ToV.fitW (vE:=.sl false 0 0 2 .no) (hE:=[some (.lst 60 1 [.sl false 1 0 2 .no,.sl false 2 0 2 .no]),some (.lst 3 1 [.int .i64 0,.int .i64 1]),some (.lst 3 1 [.int .i64 1,.int .i64 0])]) f27_2 ⟨fun c c' b r r' hc hc' e e' => ?_,fun c r hc => ?_⟩ (Vw.slE (by simp) rfl) (fun c hc => absurd hc (Nat.not_lt_zero _)) (Nat.zero_le _) (ToV.here ⟨rfl,rfl,rfl⟩)
  ·exact inj27 (l:=[17,6,15]) (by decide) e e'
  ·match c with
   | 0 => cases hc; exact .inl ⟨17,_,rfl,g0,lstV (by decide) (VwL.cons (Vw.slE (by simp) rfl) (VwL.cons (Vw.slE (by simp) rfl) (VwL.nil)))⟩
   | 1 => cases hc; exact .inl ⟨6,_,rfl,g1,lstV (by decide) (gndL_vw _ _ _ rfl)⟩
   | 2 => cases hc; exact .inl ⟨15,_,rfl,g2,lstV (by decide) (gndL_vw _ _ _ rfl)⟩
   | c + 3 => simp [Rows.live] at hc
def sp27_2:CallSpecX:=fun args h k => match args with
 | [.int .i64 2] => fun F => k (.sl false h.length 0 2 .no) (h ++ [some (.lst 60 1 [.sl false (h.length + 1) 0 2 .no,.sl false (h.length + 2) 0 2 .no]),some (.lst 3 1 [.int .i64 0,.int .i64 1]),some (.lst 3 1 [.int .i64 1,.int .i64 0])]) F
 | _ => botX
theorem sp27_2_ok (R:RR) (HP:HPt):∀ args h k F,sp27_2 args h k F -> SafeCallX Try.prog R 27 args h F k HP:=by
 intro args h k F hk
 unfold sp27_2 at hk
 split at hk
 ·have hV:View noView [] h:=⟨fun c b hc => absurd hc (Nat.not_lt_zero _),fun c c' b hc => absurd hc (Nat.not_lt_zero _),fun c r hc => by simp [Rows.live] at hc⟩
  refine (SafeCallX.focus hV (argsL:=[.int .i64 2]) (VwL.cons Vw.intI VwL.nil) (safe27_2 R F)).mono ?_ ?_
  ·rintro v h' F' _ ⟨v0,h1,⟨rfl,rfl,rfl⟩,rfl,rfl⟩
   show k (ren (ext noView 0 h.length) (.sl false 0 0 2 .no)) (merged noView 0 0 h [some (.lst 60 1 [.sl false 1 0 2 .no,.sl false 2 0 2 .no]),some (.lst 3 1 [.int .i64 0,.int .i64 1]),some (.lst 3 1 [.int .i64 1,.int .i64 0])]) F'
   rw [merged_nil,ext_nil]
   exact hk
  ·rintro v h' F' _ ⟨_,_,h,_⟩; exact h.elim
 ·exact hk.elim
def hdC:Code -> Code
 | .seq x _ => x
 | c => c
noncomputable abbrev tm18e:List AV:=[.any,.any,.ptr false 1 0 0,.any,.ptr false 2 0 0,.any,.any,.any,.any,.any,.any,.any,.any,.any,.any,.any,.any,.any,.any,.any,.any,.any,.any,.any,.any,.any,.any,.any,.any,.any,.any,.any,.any,.any,.any,.any,.any,.any,.any,.any,.any,.any,.any,.any,.any,.any,.any,.any,.any,.any,.any,.any,.any,.any,.any,.any,.any,.any,.any,.any,.any,.any,.any,.any,.any,.any,.any,.any,.any,.any,.any,.any,.any,.any,.any,.any,.any,.any,.any,.any,.any,.any,.any,.any,.any,.any,.any,.any,.any,.any,.any,.any]
noncomputable abbrev famE (L:List (Tr × Nat)):St:=⟨tm18e,[none,some (.lst 25 3 [zV]),some (o5r 5 [] 4 L.length),none,some (krow L)]⟩
theorem krow_lst {f:Nat -> Option Nat} {n:Nat} (L:List (Tr × Nat)):RowV f n (krow L) (.lst 25 3 (L.map fun p => exprV p.1 p.2)) where
 ty:=rfl
 esz:=rfl
 len:=by simp [Row.len]
 get:=fun i e he => by
  simp only [Row.get?] at he ⊢
  cases hb:Nat.blt i L.length with
  | false => rw [hb] at he; cases he
  | true =>
   rw [hb] at he
   simp only [cond_true,Option.some.injEq] at he
   subst he
   have hi:i < L.length:=by simpa [Nat.blt_eq] using hb
   refine ⟨ones_mem (by rfl),exprV (L.getD i dT).1 (L.getD i dT).2,?_,gnd_vw _ _ _ rfl⟩
   rw [List.getElem?_map,List.getD_eq_getElem?_getD,List.getElem?_eq_getElem hi]; rfl
theorem TAts.pick {F:Fz} {l l':List (Tr × Nat)} (h:TAts F l) (hm:∀ p ∈ l',p ∈ l):TAts F l':=⟨fun p hp => h.is p (hm p hp)⟩
theorem tm18e_spr:tm18e = Dc.spr [(2,.ptr false 1 0 0),(4,.ptr false 2 0 0)] 0 92:=by kernel_rfl
theorem tm18e_vw {T:List AV} {n:Nat} (h:T = tm18e) (hn:3 <= n):VwL some n tm18e T:=by
 rw [h,tm18e_spr]
 exact VwL.ofKnown (T:=Dc.spr [(2,.ptr false 1 0 0),(4,.ptr false 2 0 0)] 0 92) (by kernel_rfl) ⟨Vw.ptrI (by omega) rfl,Vw.ptrI (by omega) rfl,trivial⟩
def spec15f:CallSpecX:=fun args h k => match args with
 | [.agg [.int .i64 kk,.str w,.sl false d 0 m _]] => fun F => ∃ (l:List (Tr × Nat)) (kd:Nat),h.live d = some (krow l) /\ m = l.length /\ kk = (kd:Nat) /\ TAts F l /\ size (.mk kd w (l.map Prod.fst)) <= 10000000 /\ ∀ F' x,Up F F' -> TAt F' (.mk kd w (l.map Prod.fst)) x -> k (.int .i64 (size (.mk kd w (l.map Prod.fst)):Nat)) ((tkRows d x h).set d none) F'
 | _ => botX
noncomputable abbrev env18e (R:RR) (l:List (Tr × Nat)):EnvX:=((bx (R5 R l)).addCall 15 spec15f).addCall 27 fun _ _ _ => botX
abbrev st18 (kd:Int) (w:List UInt8) (n:Nat):St:=⟨[.any,.ptr false 0 0 0,.ptr false 1 0 0,.any,.ptr false 2 0 0,.any,.any,.any,.any,.any,.any,.any,.any,.any,.any,.any,.any,.any,.any,.any,.any,.any,.any,.any,.any,.any,.any,.any,.any,.any,.any,.any,.any,.any,.any,.any,.any,.any,.any,.any,.any,.any,.any,.any,.any,.any,.any,.any,.any,.any,.any,.any,.any,.any,.any,.any,.any,.any,.any,.any,.any,.any,.any,.any,.any,.any,.any,.any,.any,.any,.any,.any,.any,.any,.any,.any,.any,.any,.any,.any,.any,.any,.any,.any,.any,.any,.any,.any,.any,.any,.any,.any],[some (e5r kd w n),some (.lst 25 3 [.agg [.int .i64 0,.str [],.nils]]),some (.lst 25 3 [.agg [.int .i64 kd,.str w,.nils]])]⟩
noncomputable abbrev endS (c:Int) (v:AV):St:=⟨[.any,.any,.ptr false 1 0 0,.int .i64 c,.any,.any,.any,.any,.any,.any,.any,.any,.any,.any,.any,.any,.any,.any,.any,.any,.any,.any,.any,.any,.any,.any,.any,.any,.any,.any,.any,.any,.any,.any,.any,.any,.any,.any,.any,.any,.any,.any,.any,.any,.any,.any,.any,.any,.any,.any,.any,.any,.any,.any,.any,.any,.any,.any,.any,.any,.any,.any,.any,.any,.any,.any,.any,.any,.any,.any,.any,.any,.any,.any,.any,.any,.any,.any,.any,.any,.any,.any,.any,.any,.any,.any,.any,.any,.any,.any,.any,.any],[none,some (.lst 25 3 [v]),none]⟩
noncomputable abbrev famE3 (kd:Int) (w:List UInt8) (L:List (Tr × Nat)):St:=⟨tm18e,[none,some (.lst 25 3 [zV]),some (o5r kd w 3 L.length),some (krow L)]⟩
theorem spec15f_ok {R:RR} (hR:Free R) (l0:List (Tr × Nat)) (HP:HPt):∀ args h k F,spec15f args h k F -> SafeCallX Try.prog (R5 R l0) 15 args h F k HP:=by
 intro args h k F hk
 unfold spec15f at hk
 split at hk
 ·rename_i kk w d m cp
  obtain ⟨l,kd,hd,rfl,rfl,hts,hz,hk⟩:=hk
  refine SafeCallX.freeze d hd (RoOf.kids l) fun F' x hle hfr => ?_
  have ht:TAt F' (.mk kd w (l.map Prod.fst)) x:=⟨IsT.of l hfr (hts.le ⟨hle⟩).is⟩
  have e:[AV.agg [.int .i64 ((kd:Nat):Int),.str w,.sl false d 0 l.length cp]].map (tk2 d x) = [exprV (.mk kd w (l.map Prod.fst)) x]:=by
   show [AV.agg [.int .i64 ((kd:Nat):Int),.str w,tk1 d x (.sl false d 0 l.length cp)]] = [AV.agg [.int .i64 ((kd:Nat):Int),.str w,tok x (l.map Prod.fst).length]]
   unfold tk1
   simp only [Nat.beq_refl,cond_true,List.length_map]
  rw [e]
  exact size_un (sizeOK _ hz) hR ht.is _ k HP fun F2 hu => hk F2 x (Up.trans ⟨hle⟩ hu) (ht.le hu)
 ·exact hk.elim
theorem env18e_ok {R:RR} (hR:Free R) (l:List (Tr × Nat)) (HP:HPt):OKX Try.prog (env18e R l) [] HP :=
 ((bx_ok _ [] HP).addCall (f:=15) (fi:=fi15) (by kernel_rfl) (spec15f_ok hR l HP)).addCall (f:=27) (fi:=fi27) (by kernel_rfl) fun _ _ _ _ h => h.elim
theorem vq18 (R:RR) (kd:Int) (w:List UInt8) (l l2:List (Tr × Nat)) (k:Exit -> St -> Fz -> Prop) (F:Fz):rnx ((env18 R l).addLoop 18 0 (lp18 kd w l)) 1000 18 (hdC (tailC 2 fi18.body)) (st18 kd w l.length) k F = (92 = 92 /\ AV.ptr false 0 0 0 = AV.ptr false 0 0 0 /\ AV.ptr false 1 0 0 = AV.ptr false 1 0 0 /\ AV.ptr false 2 0 0 = AV.ptr false 2 0 0 /\ AV.sl true 5 0 l.length Cp.no = AV.sl true 5 0 l.length Cp.no /\ iI (↑l.length:Int) = iI (↑l.length:Int) /\ iI (0:Int) = iI 0 /\ [some (Row.lst 25 3 [AV.agg [iI kd,AV.str w,AV.sl true 5 0 l.length Cp.no]]),some (Row.lst 25 3 [AV.agg [iI 0,AV.str [],AV.nils]]),some (Row.lst 25 3 [AV.agg [iI kd,AV.str w,AV.nils]])] = [some (Row.lst 25 3 [AV.agg [iI kd,AV.str w,AV.sl true 5 0 l.length Cp.no]]),some (Row.lst 25 3 [AV.agg [iI 0,AV.str [],AV.nils]]),some (Row.lst 25 3 [AV.agg [iI kd,AV.str w,AV.nils]])] /\ TAts F l /\ (∀ (ks:List Tr),SprsIs (List.map Prod.fst l) (some ks) -> ∀ (l':List (Tr × Nat)) (F':Fz),List.map Prod.fst l' = ks -> Up F F' -> TAts F' l' -> k Exit.normal (St.mk [AV.any,AV.ptr false 0 0 0,AV.ptr false 1 0 0,AV.any,AV.ptr false 2 0 0,AV.any,AV.any,AV.any,AV.any,AV.any,AV.any,AV.any,AV.any,AV.any,AV.any,AV.any,AV.any,AV.any,AV.any,AV.any,AV.any,AV.sl true 5 0 l.length Cp.no,iI (↑l.length:Int),iI (↑l.length:Int),AV.any,AV.any,AV.any,AV.any,AV.any,AV.any,AV.any,AV.any,AV.any,AV.any,AV.any,AV.any,AV.any,AV.any,AV.any,AV.any,AV.any,AV.any,AV.any,AV.any,AV.any,AV.any,AV.any,AV.any,AV.any,AV.any,AV.any,AV.any,AV.any,AV.any,AV.any,AV.any,AV.any,AV.any,AV.any,AV.any,AV.any,AV.any,AV.any,AV.any,AV.any,AV.any,AV.any,AV.any,AV.any,AV.any,AV.any,AV.any,AV.any,AV.any,AV.any,AV.any,AV.any,AV.any,AV.any,AV.any,AV.any,AV.any,AV.any,AV.any,AV.any,AV.any,AV.any,AV.any,AV.any,AV.any,AV.any,AV.any] [some (Row.lst 25 3 [AV.agg [iI kd,AV.str w,AV.sl true 5 0 l.length Cp.no]]),some (Row.lst 25 3 [AV.agg [iI 0,AV.str [],AV.nils]]),some (Row.lst 25 3 [AV.agg [iI kd,AV.str w,AV.sl false 3 0 l'.length Cp.no]]),some (Row.gen 25 3 l'.length fun (i:Nat) => exprV (l'.getD i dT).fst (l'.getD i dT).snd)]) F') /\ (SprsIs (List.map Prod.fst l) none -> ∀ (F':Fz),Up F F' -> k Exit.ret (St.mk [AV.any,AV.any,AV.ptr false 1 0 0,iI 6,AV.any,AV.any,AV.any,AV.any,AV.any,AV.any,AV.any,AV.any,AV.any,AV.any,AV.any,AV.any,AV.any,AV.any,AV.any,AV.any,AV.any,AV.any,AV.any,AV.any,AV.any,AV.any,AV.any,AV.any,AV.any,AV.any,AV.any,AV.any,AV.any,AV.any,AV.any,AV.any,AV.any,AV.any,AV.any,AV.any,AV.any,AV.any,AV.any,AV.any,AV.any,AV.any,AV.any,AV.any,AV.any,AV.any,AV.any,AV.any,AV.any,AV.any,AV.any,AV.any,AV.any,AV.any,AV.any,AV.any,AV.any,AV.any,AV.any,AV.any,AV.any,AV.any,AV.any,AV.any,AV.any,AV.any,AV.any,AV.any,AV.any,AV.any,AV.any,AV.any,AV.any,AV.any,AV.any,AV.any,AV.any,AV.any,AV.any,AV.any,AV.any,AV.any,AV.any,AV.any,AV.any,AV.any,AV.any,AV.any] [none,some (Row.lst 25 3 [AV.agg [iI 0,AV.str [],AV.nils]]),none]) F')):=by kernel_rfl
theorem vp18 (R:RR) (kd:Int) (w:List UInt8) (l l2:List (Tr × Nat)) (j:Nat) (q:Exit -> Nat -> AV -> AV -> AV -> Rows -> Fz -> Prop) (F:Fz):rnx (env18e R l) 1000 18 (hdC (tailC 3 fi18.body)) (fam18 kd w l.length j l2) (fun e st => q e st.tmps.length (nthV st.tmps 2) (nthV st.tmps 3) (nthV st.tmps 4) st.rows) F = (bif kd == 6 then bif decide ((↑l.length:Int) > 4) then q Exit.ret 92 (AV.ptr false 1 0 0) (iI 6) (AV.ptr false 2 0 0) [some (Row.lst 25 3 [AV.agg [iI kd,AV.str w,AV.sl true 5 0 l.length Cp.no]]),some (Row.lst 25 3 [AV.agg [iI 0,AV.str [],AV.nils]]),some (Row.lst 25 3 [AV.agg [iI kd,AV.str w,AV.sl false 3 0 l2.length Cp.no]]),some (Row.gen 25 3 l2.length fun (i:Nat) => exprV (l2.getD i dT).fst (l2.getD i dT).snd)] F else False else q Exit.normal 92 (AV.ptr false 1 0 0) AV.any (AV.ptr false 2 0 0) [some (Row.lst 25 3 [AV.agg [iI kd,AV.str w,AV.sl true 5 0 l.length Cp.no]]),some (Row.lst 25 3 [AV.agg [iI 0,AV.str [],AV.nils]]),some (Row.lst 25 3 [AV.agg [iI kd,AV.str w,AV.sl false 3 0 l2.length Cp.no]]),some (Row.gen 25 3 l2.length fun (i:Nat) => exprV (l2.getD i dT).fst (l2.getD i dT).snd)] F):=by kernel_rfl
theorem ve18 (R:RR) (kd:Int) (w:List UInt8) (l l2:List (Tr × Nat)) (q:Exit -> Nat -> AV -> AV -> Option Row -> Nat -> Fz -> Prop) (F:Fz):rnx (env18e R l) 1000 18 (tailC 4 fi18.body) (famE3 kd w l2) (fun e st => q e st.tmps.length (nthV st.tmps 2) (nthV st.tmps 3) (st.rows.live 1) st.rows.length) F = (∃ (l:List (Tr × Nat)),∃ (kd_1:Nat),some (Row.gen 25 3 l2.length fun (i:Nat) => exprV (l2.getD i dT).fst (l2.getD i dT).snd) = some (Row.gen 25 3 l.length fun (i:Nat) => exprV (l.getD i dT).fst (l.getD i dT).snd) /\ l2.length = l.length /\ kd = (↑kd_1:Int) /\ TAts F l /\ (size (Tr.mk kd_1 w (List.map Prod.fst l))).le 10000000 /\ ∀ (F':Fz) (x:Nat),Up F F' -> TAt F' (Tr.mk kd_1 w (List.map Prod.fst l)) x -> bif decide ((↑(size (Tr.mk kd_1 w (List.map Prod.fst l))):Int) > 4096) then q Exit.ret 92 (AV.ptr false 1 0 0) (iI 6) (some (Row.lst 25 3 [AV.agg [iI 0,AV.str [],AV.nils]])) 4 F' else q Exit.ret 92 (AV.ptr false 1 0 0) (iI 0) (some (Row.lst 25 3 [AV.agg [iI kd,AV.str w,AV.sl true (x + 15) 0 l2.length Cp.no]])) 4 F'):=by kernel_rfl
theorem vf18 (R:RR) (l l2:List (Tr × Nat)) (q:Exit -> Nat -> AV -> AV -> Option Row -> Nat -> Fz -> Prop) (F:Fz):rnx (env18e R l) 1000 18 (tailC 4 fi18.body) (famE l2) (fun e st => q e st.tmps.length (nthV st.tmps 2) (nthV st.tmps 3) (st.rows.live 1) st.rows.length) F = (∃ (l:List (Tr × Nat)),∃ (kd:Nat),some (Row.gen 25 3 l2.length fun (i:Nat) => exprV (l2.getD i dT).fst (l2.getD i dT).snd) = some (Row.gen 25 3 l.length fun (i:Nat) => exprV (l.getD i dT).fst (l.getD i dT).snd) /\ l2.length = l.length /\ 5 = (↑kd:Int) /\ TAts F l /\ (size (Tr.mk kd [] (List.map Prod.fst l))).le 10000000 /\ ∀ (F':Fz) (x:Nat),Up F F' -> TAt F' (Tr.mk kd [] (List.map Prod.fst l)) x -> bif decide ((↑(size (Tr.mk kd [] (List.map Prod.fst l))):Int) > 4096) then q Exit.ret 92 (AV.ptr false 1 0 0) (iI 6) (some (Row.lst 25 3 [AV.agg [iI 0,AV.str [],AV.nils]])) 5 F' else q Exit.ret 92 (AV.ptr false 1 0 0) (iI 0) (some (Row.lst 25 3 [AV.agg [iI 5,AV.str [],AV.sl true (x + 15) 0 l2.length Cp.no]])) 5 F'):=by kernel_rfl
theorem va18_2 (R:RR) (w:List UInt8) (t0 t1:Tr) (x0 x1:Nat) (q:Exit -> Nat -> AV -> AV -> Option Row -> Option Row -> Option Row -> Option Row -> Option Row -> Nat -> Fz -> Prop) (F:Fz):rnx ((bx R).addCall 27 sp27_2) 1000 18 (hdC (tailC 3 fi18.body)) (fam18 6 w 2 2 [(t0,x0),(t1,x1)]) (fun e st F => q e st.tmps.length (nthV st.tmps 2) (nthV st.tmps 4) (st.rows.live 1) (st.rows.live 2) (st.rows.live 21) (st.rows.live 12) (st.rows.live 19) st.rows.length F) F = (AV.nils = AV.nils /\ AV.sl false 10 0 1 Cp.no = AV.sl false 10 0 1 Cp.no /\ AV.nils = AV.nils /\ AV.sl false 17 0 1 Cp.no = AV.sl false 17 0 1 Cp.no /\ q .normal 92 (.ptr false 1 0 0) (.ptr false 2 0 0) (some (.lst 25 3 [zV])) (some (o5r 5 [] 21 2)) (some (.lst 25 3 [.agg [.int .i64 4,.str [],.sl false 12 0 2 .no],.agg [.int .i64 4,.str [],.sl false 19 0 2 .no]])) (some (.lst 25 3 [exprV t0 x0,exprV t1 x1])) (some (.lst 25 3 [exprV t1 x1,exprV t0 x0])) 22 F):=by kernel_rfl
def f18_2:Nat -> Option Nat:=fun c => [0,1,2,3,21,12,19][c]?
theorem vw18_2 {t0 t1:Tr} {x0 x1:Nat} {h:Rows} (h1:h.live 1 = some (.lst 25 3 [zV])) (h2:h.live 2 = some (o5r 5 [] 21 2)) (h3:h.live 21 = (some (.lst 25 3 [.agg [.int .i64 4,.str [],.sl false 12 0 2 .no],.agg [.int .i64 4,.str [],.sl false 19 0 2 .no]]))) (h4:h.live 12 = (some (.lst 25 3 [exprV t0 x0,exprV t1 x1]))) (h5:h.live 19 = (some (.lst 25 3 [exprV t1 x1,exprV t0 x0]))):ViewW f18_2 [none,some (.lst 25 3 [zV]),some (o5r 5 [] 4 2),none,some (.lst 25 3 [.agg [.int .i64 4,.str [],.sl false 5 0 2 .no],.agg [.int .i64 4,.str [],.sl false 6 0 2 .no]]),some (krow [(t0,x0),(t1,x1)]),some (krow [(t1,x1),(t0,x0)])] h :=
 ⟨fun c c' b r r' hc hc' e e' => inj27 (l:=[0,1,2,3,21,12,19]) (by decide) e e',fun c r hc => by
  match c with
  | 0 => cases hc
  | 1 => cases hc; exact .inl ⟨1,_,rfl,h1,(RowG.lst1' rfl rfl).vw _ _⟩
  | 2 => cases hc; exact .inl ⟨2,_,rfl,h2,o5_v rfl (by simp)⟩
  | 3 => cases hc
  | 4 => cases hc; exact .inl ⟨21,_,rfl,h3,lstV rfl (VwL.cons (Vw.aggI (VwL.cons Vw.intI (VwL.cons Vw.strI (VwL.cons (Vw.slE (by simp) rfl) VwL.nil)))) (VwL.cons (Vw.aggI (VwL.cons Vw.intI (VwL.cons Vw.strI (VwL.cons (Vw.slE (by simp) rfl) VwL.nil)))) (VwL.nil)))⟩
  | 5 => cases hc; exact .inl ⟨12,_,rfl,h4,krow_lst [(t0,x0),(t1,x1)]⟩
  | 6 => cases hc; exact .inl ⟨19,_,rfl,h5,krow_lst [(t1,x1),(t0,x0)]⟩
  | c + 7 => simp [Rows.live] at hc⟩
theorem fz18_2 {R:RR} {t0 t1:Tr} {x0 x1:Nat} {F:Fz} {S:St -> Fz -> Prop} (hts:TAts F [(t0,x0),(t1,x1)]) (hS:∀ L F',L.map Prod.fst = (ords 2).map (fun o => Tr.mk 4 [] (o.map fun i => [t0,t1].getD i tD)) -> Up F F' -> TAts F' L -> S (famE L) F'):ToX R [] 4 ⟨tm18e,[none,some (.lst 25 3 [zV]),some (o5r 5 [] 4 2),none,some (.lst 25 3 [.agg [.int .i64 4,.str [],.sl false 5 0 2 .no],.agg [.int .i64 4,.str [],.sl false 6 0 2 .no]]),some (krow [(t0,x0),(t1,x1)]),some (krow [(t1,x1),(t0,x0)])]⟩ F S:=by
 refine ToX.freeze 5 (r:=krow [(t0,x0),(t1,x1)]) (by kernel_rfl) (RoOf.kids [(t0,x0),(t1,x1)]) fun F0 y0 l0 z0 => ?_
 have c0:TAts F0 [(t0,x0),(t1,x1)]:=hts.le ⟨l0⟩
 have a0:TAts F0 [(.mk 4 [] [t0,t1],y0)]:=TAts.snoc (l:=[]) ⟨fun p hp => by cases hp⟩ ⟨IsT.of (k:=4) (w:=[]) [(t0,x0),(t1,x1)] z0 (TAts.pick c0 (by intro p hp; simp only [List.mem_cons,List.not_mem_nil,or_false] at hp ⊢; rcases hp with rfl | rfl <;> simp)).is⟩
 have u0:Up F F0:=⟨l0⟩
 refine ToX.freeze 6 (r:=krow [(t1,x1),(t0,x0)]) (by kernel_rfl) (RoOf.kids [(t1,x1),(t0,x0)]) fun F1 y1 l1 z1 => ?_
 have c1:TAts F1 [(t0,x0),(t1,x1)]:=c0.le ⟨l1⟩
 have a1:TAts F1 [(.mk 4 [] [t0,t1],y0),(.mk 4 [] [t1,t0],y1)]:=(a0.le ⟨l1⟩).snoc ⟨IsT.of (k:=4) (w:=[]) [(t1,x1),(t0,x0)] z1 (TAts.pick c1 (by intro p hp; simp only [List.mem_cons,List.not_mem_nil,or_false] at hp ⊢; rcases hp with rfl | rfl <;> simp)).is⟩
 have u1:Up F F1:=u0.trans ⟨l1⟩
 refine ToX.fitW (stE:=famE [(.mk 4 [] [t0,t1],y0),(.mk 4 [] [t1,t0],y1)]) some ⟨fun c c' b r r' _ _ h h' => by cases h; cases h'; rfl,fun c r hc => ?_⟩ ?_ (fun _ _ => rfl) (by simp) (ToX.here (hS _ F1 rfl u1 a1))
 ·match c with
  | 0 => cases hc
  | 1 => cases hc; exact .inl ⟨1,_,rfl,by kernel_rfl,(RowG.lst1' rfl rfl).vw _ _⟩
  | 2 => cases hc; exact .inl ⟨2,_,rfl,by kernel_rfl,o5_v rfl (by simp)⟩
  | 3 => cases hc
  | 4 => cases hc; exact .inl ⟨4,.lst 25 3 ([(.mk 4 [] [t0,t1],y0),(.mk 4 [] [t1,t0],y1)].map fun p => exprV p.1 p.2),rfl,by kernel_rfl,krow_lst _⟩
  | c + 5 => simp [Rows.live] at hc
 ·exact tm18e_vw (by kernel_rfl) (by simp)
theorem vc27_3 (R:RR) (q:AV -> Option Row -> Option Row -> Option Row -> Option Row -> Option Row -> Option Row -> Option Row -> Nat -> Fz -> Prop) (F:Fz):vcx (bx R) 1000 27 fi27 [.int .i64 3] [] (fun v h F => q v (h.live 95) (h.live 22) (h.live 29) (h.live 54) (h.live 61) (h.live 86) (h.live 93) h.length F) F = (q (.sl false 95 0 6 .no) (some (.lst 60 1 [.sl false 22 0 3 .no,.sl false 29 0 3 .no,.sl false 54 0 3 .no,.sl false 61 0 3 .no,.sl false 86 0 3 .no,.sl false 93 0 3 .no])) (some (.lst 3 1 [.int .i64 0,.int .i64 1,.int .i64 2])) (some (.lst 3 1 [.int .i64 0,.int .i64 2,.int .i64 1])) (some (.lst 3 1 [.int .i64 1,.int .i64 0,.int .i64 2])) (some (.lst 3 1 [.int .i64 1,.int .i64 2,.int .i64 0])) (some (.lst 3 1 [.int .i64 2,.int .i64 0,.int .i64 1])) (some (.lst 3 1 [.int .i64 2,.int .i64 1,.int .i64 0])) 96 F):=by kernel_rfl
def f27_3:Nat -> Option Nat:=fun c => [95,22,29,54,61,86,93][c]?
theorem safe27_3 (R:RR) (F:Fz):SafeCallX Try.prog R 27 [.int .i64 3] [] F (fun v h F' => F' = F /\ v = .sl false 0 0 6 .no /\ h = [some (.lst 60 1 [.sl false 1 0 3 .no,.sl false 2 0 3 .no,.sl false 3 0 3 .no,.sl false 4 0 3 .no,.sl false 5 0 3 .no,.sl false 6 0 3 .no]),some (.lst 3 1 [.int .i64 0,.int .i64 1,.int .i64 2]),some (.lst 3 1 [.int .i64 0,.int .i64 2,.int .i64 1]),some (.lst 3 1 [.int .i64 1,.int .i64 0,.int .i64 2]),some (.lst 3 1 [.int .i64 1,.int .i64 2,.int .i64 0]),some (.lst 3 1 [.int .i64 2,.int .i64 0,.int .i64 1]),some (.lst 3 1 [.int .i64 2,.int .i64 1,.int .i64 0])]) (fun _ _ _ => False):=by
 refine SafeCallX.post (Q:=fun v h F' => F' = F /\ v = .sl false 95 0 6 .no /\ h.length = 96 /\ h.live 95 = some (.lst 60 1 [.sl false 22 0 3 .no,.sl false 29 0 3 .no,.sl false 54 0 3 .no,.sl false 61 0 3 .no,.sl false 86 0 3 .no,.sl false 93 0 3 .no]) /\ h.live 22 = some (.lst 3 1 [.int .i64 0,.int .i64 1,.int .i64 2]) /\ h.live 29 = some (.lst 3 1 [.int .i64 0,.int .i64 2,.int .i64 1]) /\ h.live 54 = some (.lst 3 1 [.int .i64 1,.int .i64 0,.int .i64 2]) /\ h.live 61 = some (.lst 3 1 [.int .i64 1,.int .i64 2,.int .i64 0]) /\ h.live 86 = some (.lst 3 1 [.int .i64 2,.int .i64 0,.int .i64 1]) /\ h.live 93 = some (.lst 3 1 [.int .i64 2,.int .i64 1,.int .i64 0])) (HP:=fun _ _ _ => False) ?_ ?_ (fun v h' F' _ h => h.elim)
 ·refine SafeCallX.by mixed (bx_ok R [] _) (f:=27) (fi:=fi27) (by kernel_rfl) 1000 (vc27_3 R (fun v r0 r1 r2 r3 r4 r5 r6 m F' => F' = F /\ v = .sl false 95 0 6 .no /\ m = 96 /\ r0 = some (.lst 60 1 [.sl false 22 0 3 .no,.sl false 29 0 3 .no,.sl false 54 0 3 .no,.sl false 61 0 3 .no,.sl false 86 0 3 .no,.sl false 93 0 3 .no]) /\ r1 = some (.lst 3 1 [.int .i64 0,.int .i64 1,.int .i64 2]) /\ r2 = some (.lst 3 1 [.int .i64 0,.int .i64 2,.int .i64 1]) /\ r3 = some (.lst 3 1 [.int .i64 1,.int .i64 0,.int .i64 2]) /\ r4 = some (.lst 3 1 [.int .i64 1,.int .i64 2,.int .i64 0]) /\ r5 = some (.lst 3 1 [.int .i64 2,.int .i64 0,.int .i64 1]) /\ r6 = some (.lst 3 1 [.int .i64 2,.int .i64 1,.int .i64 0])) F) ?_
  exact ⟨rfl,rfl,rfl,rfl,rfl,rfl,rfl,rfl,rfl,rfl⟩
 ·rintro v h' F' _ ⟨rfl,rfl,hl,g0,g1,g2,g3,g4,g5,g6⟩
  refine ToV.fitW (vE:=.sl false 0 0 6 .no) (hE:=[some (.lst 60 1 [.sl false 1 0 3 .no,.sl false 2 0 3 .no,.sl false 3 0 3 .no,.sl false 4 0 3 .no,.sl false 5 0 3 .no,.sl false 6 0 3 .no]),some (.lst 3 1 [.int .i64 0,.int .i64 1,.int .i64 2]),some (.lst 3 1 [.int .i64 0,.int .i64 2,.int .i64 1]),some (.lst 3 1 [.int .i64 1,.int .i64 0,.int .i64 2]),some (.lst 3 1 [.int .i64 1,.int .i64 2,.int .i64 0]),some (.lst 3 1 [.int .i64 2,.int .i64 0,.int .i64 1]),some (.lst 3 1 [.int .i64 2,.int .i64 1,.int .i64 0])]) f27_3 ⟨fun c c' b r r' hc hc' e e' => ?_,fun c r hc => ?_⟩ (Vw.slE (by simp) rfl) (fun c hc => absurd hc (Nat.not_lt_zero _)) (Nat.zero_le _) (ToV.here ⟨rfl,rfl,rfl⟩)
  ·exact inj27 (l:=[95,22,29,54,61,86,93]) (by decide) e e'
  ·match c with
   | 0 => cases hc; exact .inl ⟨95,_,rfl,g0,lstV (by decide) (VwL.cons (Vw.slE (by simp) rfl) (VwL.cons (Vw.slE (by simp) rfl) (VwL.cons (Vw.slE (by simp) rfl) (VwL.cons (Vw.slE (by simp) rfl) (VwL.cons (Vw.slE (by simp) rfl) (VwL.cons (Vw.slE (by simp) rfl) (VwL.nil)))))))⟩
   | 1 => cases hc; exact .inl ⟨22,_,rfl,g1,lstV (by decide) (gndL_vw _ _ _ rfl)⟩
   | 2 => cases hc; exact .inl ⟨29,_,rfl,g2,lstV (by decide) (gndL_vw _ _ _ rfl)⟩
   | 3 => cases hc; exact .inl ⟨54,_,rfl,g3,lstV (by decide) (gndL_vw _ _ _ rfl)⟩
   | 4 => cases hc; exact .inl ⟨61,_,rfl,g4,lstV (by decide) (gndL_vw _ _ _ rfl)⟩
   | 5 => cases hc; exact .inl ⟨86,_,rfl,g5,lstV (by decide) (gndL_vw _ _ _ rfl)⟩
   | 6 => cases hc; exact .inl ⟨93,_,rfl,g6,lstV (by decide) (gndL_vw _ _ _ rfl)⟩
   | c + 7 => simp [Rows.live] at hc
def sp27_3:CallSpecX:=fun args h k => match args with
 | [.int .i64 3] => fun F => k (.sl false h.length 0 6 .no) (h ++ [some (.lst 60 1 [.sl false (h.length + 1) 0 3 .no,.sl false (h.length + 2) 0 3 .no,.sl false (h.length + 3) 0 3 .no,.sl false (h.length + 4) 0 3 .no,.sl false (h.length + 5) 0 3 .no,.sl false (h.length + 6) 0 3 .no]),some (.lst 3 1 [.int .i64 0,.int .i64 1,.int .i64 2]),some (.lst 3 1 [.int .i64 0,.int .i64 2,.int .i64 1]),some (.lst 3 1 [.int .i64 1,.int .i64 0,.int .i64 2]),some (.lst 3 1 [.int .i64 1,.int .i64 2,.int .i64 0]),some (.lst 3 1 [.int .i64 2,.int .i64 0,.int .i64 1]),some (.lst 3 1 [.int .i64 2,.int .i64 1,.int .i64 0])]) F
 | _ => botX
theorem sp27_3_ok (R:RR) (HP:HPt):∀ args h k F,sp27_3 args h k F -> SafeCallX Try.prog R 27 args h F k HP:=by
 intro args h k F hk
 unfold sp27_3 at hk
 split at hk
 ·have hV:View noView [] h:=⟨fun c b hc => absurd hc (Nat.not_lt_zero _),fun c c' b hc => absurd hc (Nat.not_lt_zero _),fun c r hc => by simp [Rows.live] at hc⟩
  refine (SafeCallX.focus hV (argsL:=[.int .i64 3]) (VwL.cons Vw.intI VwL.nil) (safe27_3 R F)).mono ?_ ?_
  ·rintro v h' F' _ ⟨v0,h1,⟨rfl,rfl,rfl⟩,rfl,rfl⟩
   show k (ren (ext noView 0 h.length) (.sl false 0 0 6 .no)) (merged noView 0 0 h [some (.lst 60 1 [.sl false 1 0 3 .no,.sl false 2 0 3 .no,.sl false 3 0 3 .no,.sl false 4 0 3 .no,.sl false 5 0 3 .no,.sl false 6 0 3 .no]),some (.lst 3 1 [.int .i64 0,.int .i64 1,.int .i64 2]),some (.lst 3 1 [.int .i64 0,.int .i64 2,.int .i64 1]),some (.lst 3 1 [.int .i64 1,.int .i64 0,.int .i64 2]),some (.lst 3 1 [.int .i64 1,.int .i64 2,.int .i64 0]),some (.lst 3 1 [.int .i64 2,.int .i64 0,.int .i64 1]),some (.lst 3 1 [.int .i64 2,.int .i64 1,.int .i64 0])]) F'
   rw [merged_nil,ext_nil]
   exact hk
  ·rintro v h' F' _ ⟨_,_,h,_⟩; exact h.elim
 ·exact hk.elim
theorem va18_3 (R:RR) (w:List UInt8) (t0 t1 t2:Tr) (x0 x1 x2:Nat) (q:Exit -> Nat -> AV -> AV -> Option Row -> Option Row -> Option Row -> Option Row -> Option Row -> Option Row -> Option Row -> Option Row -> Option Row -> Nat -> Fz -> Prop) (F:Fz):rnx ((bx R).addCall 27 sp27_3) 1000 18 (hdC (tailC 3 fi18.body)) (fam18 6 w 3 3 [(t0,x0),(t1,x1),(t2,x2)]) (fun e st F => q e st.tmps.length (nthV st.tmps 2) (nthV st.tmps 4) (st.rows.live 1) (st.rows.live 2) (st.rows.live 65) (st.rows.live 18) (st.rows.live 27) (st.rows.live 36) (st.rows.live 45) (st.rows.live 54) (st.rows.live 63) st.rows.length F) F = (AV.nils = AV.nils /\ AV.sl false 14 0 1 Cp.no = AV.sl false 14 0 1 Cp.no /\ AV.sl false 16 0 2 Cp.no = AV.sl false 16 0 2 Cp.no /\ AV.nils = AV.nils /\ AV.sl false 23 0 1 Cp.no = AV.sl false 23 0 1 Cp.no /\ AV.sl false 25 0 2 Cp.no = AV.sl false 25 0 2 Cp.no /\ AV.nils = AV.nils /\ AV.sl false 32 0 1 Cp.no = AV.sl false 32 0 1 Cp.no /\ AV.sl false 34 0 2 Cp.no = AV.sl false 34 0 2 Cp.no /\ AV.nils = AV.nils /\ AV.sl false 41 0 1 Cp.no = AV.sl false 41 0 1 Cp.no /\ AV.sl false 43 0 2 Cp.no = AV.sl false 43 0 2 Cp.no /\ AV.nils = AV.nils /\ AV.sl false 50 0 1 Cp.no = AV.sl false 50 0 1 Cp.no /\ AV.sl false 52 0 2 Cp.no = AV.sl false 52 0 2 Cp.no /\ AV.nils = AV.nils /\ AV.sl false 59 0 1 Cp.no = AV.sl false 59 0 1 Cp.no /\ AV.sl false 61 0 2 Cp.no = AV.sl false 61 0 2 Cp.no /\ q .normal 92 (.ptr false 1 0 0) (.ptr false 2 0 0) (some (.lst 25 3 [zV])) (some (o5r 5 [] 65 6)) (some (.lst 25 3 [.agg [.int .i64 4,.str [],.sl false 18 0 3 .no],.agg [.int .i64 4,.str [],.sl false 27 0 3 .no],.agg [.int .i64 4,.str [],.sl false 36 0 3 .no],.agg [.int .i64 4,.str [],.sl false 45 0 3 .no],.agg [.int .i64 4,.str [],.sl false 54 0 3 .no],.agg [.int .i64 4,.str [],.sl false 63 0 3 .no]])) (some (.lst 25 3 [exprV t0 x0,exprV t1 x1,exprV t2 x2])) (some (.lst 25 3 [exprV t0 x0,exprV t2 x2,exprV t1 x1])) (some (.lst 25 3 [exprV t1 x1,exprV t0 x0,exprV t2 x2])) (some (.lst 25 3 [exprV t1 x1,exprV t2 x2,exprV t0 x0])) (some (.lst 25 3 [exprV t2 x2,exprV t0 x0,exprV t1 x1])) (some (.lst 25 3 [exprV t2 x2,exprV t1 x1,exprV t0 x0])) 66 F):=by kernel_rfl
def f18_3:Nat -> Option Nat:=fun c => [0,1,2,3,65,18,27,36,45,54,63][c]?
theorem vw18_3 {t0 t1 t2:Tr} {x0 x1 x2:Nat} {h:Rows} (h1:h.live 1 = some (.lst 25 3 [zV])) (h2:h.live 2 = some (o5r 5 [] 65 6)) (h3:h.live 65 = (some (.lst 25 3 [.agg [.int .i64 4,.str [],.sl false 18 0 3 .no],.agg [.int .i64 4,.str [],.sl false 27 0 3 .no],.agg [.int .i64 4,.str [],.sl false 36 0 3 .no],.agg [.int .i64 4,.str [],.sl false 45 0 3 .no],.agg [.int .i64 4,.str [],.sl false 54 0 3 .no],.agg [.int .i64 4,.str [],.sl false 63 0 3 .no]]))) (h4:h.live 18 = (some (.lst 25 3 [exprV t0 x0,exprV t1 x1,exprV t2 x2]))) (h5:h.live 27 = (some (.lst 25 3 [exprV t0 x0,exprV t2 x2,exprV t1 x1]))) (h6:h.live 36 = (some (.lst 25 3 [exprV t1 x1,exprV t0 x0,exprV t2 x2]))) (h7:h.live 45 = (some (.lst 25 3 [exprV t1 x1,exprV t2 x2,exprV t0 x0]))) (h8:h.live 54 = (some (.lst 25 3 [exprV t2 x2,exprV t0 x0,exprV t1 x1]))) (h9:h.live 63 = (some (.lst 25 3 [exprV t2 x2,exprV t1 x1,exprV t0 x0]))):ViewW f18_3 [none,some (.lst 25 3 [zV]),some (o5r 5 [] 4 6),none,some (.lst 25 3 [.agg [.int .i64 4,.str [],.sl false 5 0 3 .no],.agg [.int .i64 4,.str [],.sl false 6 0 3 .no],.agg [.int .i64 4,.str [],.sl false 7 0 3 .no],.agg [.int .i64 4,.str [],.sl false 8 0 3 .no],.agg [.int .i64 4,.str [],.sl false 9 0 3 .no],.agg [.int .i64 4,.str [],.sl false 10 0 3 .no]]),some (krow [(t0,x0),(t1,x1),(t2,x2)]),some (krow [(t0,x0),(t2,x2),(t1,x1)]),some (krow [(t1,x1),(t0,x0),(t2,x2)]),some (krow [(t1,x1),(t2,x2),(t0,x0)]),some (krow [(t2,x2),(t0,x0),(t1,x1)]),some (krow [(t2,x2),(t1,x1),(t0,x0)])] h :=
 ⟨fun c c' b r r' hc hc' e e' => inj27 (l:=[0,1,2,3,65,18,27,36,45,54,63]) (by decide) e e',fun c r hc => by
  match c with
  | 0 => cases hc
  | 1 => cases hc; exact .inl ⟨1,_,rfl,h1,(RowG.lst1' rfl rfl).vw _ _⟩
  | 2 => cases hc; exact .inl ⟨2,_,rfl,h2,o5_v rfl (by simp)⟩
  | 3 => cases hc
  | 4 => cases hc; exact .inl ⟨65,_,rfl,h3,lstV rfl (VwL.cons (Vw.aggI (VwL.cons Vw.intI (VwL.cons Vw.strI (VwL.cons (Vw.slE (by simp) rfl) VwL.nil)))) (VwL.cons (Vw.aggI (VwL.cons Vw.intI (VwL.cons Vw.strI (VwL.cons (Vw.slE (by simp) rfl) VwL.nil)))) (VwL.cons (Vw.aggI (VwL.cons Vw.intI (VwL.cons Vw.strI (VwL.cons (Vw.slE (by simp) rfl) VwL.nil)))) (VwL.cons (Vw.aggI (VwL.cons Vw.intI (VwL.cons Vw.strI (VwL.cons (Vw.slE (by simp) rfl) VwL.nil)))) (VwL.cons (Vw.aggI (VwL.cons Vw.intI (VwL.cons Vw.strI (VwL.cons (Vw.slE (by simp) rfl) VwL.nil)))) (VwL.cons (Vw.aggI (VwL.cons Vw.intI (VwL.cons Vw.strI (VwL.cons (Vw.slE (by simp) rfl) VwL.nil)))) (VwL.nil)))))))⟩
  | 5 => cases hc; exact .inl ⟨18,_,rfl,h4,krow_lst [(t0,x0),(t1,x1),(t2,x2)]⟩
  | 6 => cases hc; exact .inl ⟨27,_,rfl,h5,krow_lst [(t0,x0),(t2,x2),(t1,x1)]⟩
  | 7 => cases hc; exact .inl ⟨36,_,rfl,h6,krow_lst [(t1,x1),(t0,x0),(t2,x2)]⟩
  | 8 => cases hc; exact .inl ⟨45,_,rfl,h7,krow_lst [(t1,x1),(t2,x2),(t0,x0)]⟩
  | 9 => cases hc; exact .inl ⟨54,_,rfl,h8,krow_lst [(t2,x2),(t0,x0),(t1,x1)]⟩
  | 10 => cases hc; exact .inl ⟨63,_,rfl,h9,krow_lst [(t2,x2),(t1,x1),(t0,x0)]⟩
  | c + 11 => simp [Rows.live] at hc⟩
theorem fz18_3 {R:RR} {t0 t1 t2:Tr} {x0 x1 x2:Nat} {F:Fz} {S:St -> Fz -> Prop} (hts:TAts F [(t0,x0),(t1,x1),(t2,x2)]) (hS:∀ L F',L.map Prod.fst = (ords 3).map (fun o => Tr.mk 4 [] (o.map fun i => [t0,t1,t2].getD i tD)) -> Up F F' -> TAts F' L -> S (famE L) F'):ToX R [] 4 ⟨tm18e,[none,some (.lst 25 3 [zV]),some (o5r 5 [] 4 6),none,some (.lst 25 3 [.agg [.int .i64 4,.str [],.sl false 5 0 3 .no],.agg [.int .i64 4,.str [],.sl false 6 0 3 .no],.agg [.int .i64 4,.str [],.sl false 7 0 3 .no],.agg [.int .i64 4,.str [],.sl false 8 0 3 .no],.agg [.int .i64 4,.str [],.sl false 9 0 3 .no],.agg [.int .i64 4,.str [],.sl false 10 0 3 .no]]),some (krow [(t0,x0),(t1,x1),(t2,x2)]),some (krow [(t0,x0),(t2,x2),(t1,x1)]),some (krow [(t1,x1),(t0,x0),(t2,x2)]),some (krow [(t1,x1),(t2,x2),(t0,x0)]),some (krow [(t2,x2),(t0,x0),(t1,x1)]),some (krow [(t2,x2),(t1,x1),(t0,x0)])]⟩ F S:=by
 refine ToX.freeze 5 (r:=krow [(t0,x0),(t1,x1),(t2,x2)]) (by kernel_rfl) (RoOf.kids [(t0,x0),(t1,x1),(t2,x2)]) fun F0 y0 l0 z0 => ?_
 have c0:TAts F0 [(t0,x0),(t1,x1),(t2,x2)]:=hts.le ⟨l0⟩
 have a0:TAts F0 [(.mk 4 [] [t0,t1,t2],y0)]:=TAts.snoc (l:=[]) ⟨fun p hp => by cases hp⟩ ⟨IsT.of (k:=4) (w:=[]) [(t0,x0),(t1,x1),(t2,x2)] z0 (TAts.pick c0 (by intro p hp; simp only [List.mem_cons,List.not_mem_nil,or_false] at hp ⊢; rcases hp with rfl | rfl | rfl <;> simp)).is⟩
 have u0:Up F F0:=⟨l0⟩
 refine ToX.freeze 6 (r:=krow [(t0,x0),(t2,x2),(t1,x1)]) (by kernel_rfl) (RoOf.kids [(t0,x0),(t2,x2),(t1,x1)]) fun F1 y1 l1 z1 => ?_
 have c1:TAts F1 [(t0,x0),(t1,x1),(t2,x2)]:=c0.le ⟨l1⟩
 have a1:TAts F1 [(.mk 4 [] [t0,t1,t2],y0),(.mk 4 [] [t0,t2,t1],y1)]:=(a0.le ⟨l1⟩).snoc ⟨IsT.of (k:=4) (w:=[]) [(t0,x0),(t2,x2),(t1,x1)] z1 (TAts.pick c1 (by intro p hp; simp only [List.mem_cons,List.not_mem_nil,or_false] at hp ⊢; rcases hp with rfl | rfl | rfl <;> simp)).is⟩
 have u1:Up F F1:=u0.trans ⟨l1⟩
 refine ToX.freeze 7 (r:=krow [(t1,x1),(t0,x0),(t2,x2)]) (by kernel_rfl) (RoOf.kids [(t1,x1),(t0,x0),(t2,x2)]) fun F2 y2 l2 z2 => ?_
 have c2:TAts F2 [(t0,x0),(t1,x1),(t2,x2)]:=c1.le ⟨l2⟩
 have a2:TAts F2 [(.mk 4 [] [t0,t1,t2],y0),(.mk 4 [] [t0,t2,t1],y1),(.mk 4 [] [t1,t0,t2],y2)]:=(a1.le ⟨l2⟩).snoc ⟨IsT.of (k:=4) (w:=[]) [(t1,x1),(t0,x0),(t2,x2)] z2 (TAts.pick c2 (by intro p hp; simp only [List.mem_cons,List.not_mem_nil,or_false] at hp ⊢; rcases hp with rfl | rfl | rfl <;> simp)).is⟩
 have u2:Up F F2:=u1.trans ⟨l2⟩
 refine ToX.freeze 8 (r:=krow [(t1,x1),(t2,x2),(t0,x0)]) (by kernel_rfl) (RoOf.kids [(t1,x1),(t2,x2),(t0,x0)]) fun F3 y3 l3 z3 => ?_
 have c3:TAts F3 [(t0,x0),(t1,x1),(t2,x2)]:=c2.le ⟨l3⟩
 have a3:TAts F3 [(.mk 4 [] [t0,t1,t2],y0),(.mk 4 [] [t0,t2,t1],y1),(.mk 4 [] [t1,t0,t2],y2),(.mk 4 [] [t1,t2,t0],y3)]:=(a2.le ⟨l3⟩).snoc ⟨IsT.of (k:=4) (w:=[]) [(t1,x1),(t2,x2),(t0,x0)] z3 (TAts.pick c3 (by intro p hp; simp only [List.mem_cons,List.not_mem_nil,or_false] at hp ⊢; rcases hp with rfl | rfl | rfl <;> simp)).is⟩
 have u3:Up F F3:=u2.trans ⟨l3⟩
 refine ToX.freeze 9 (r:=krow [(t2,x2),(t0,x0),(t1,x1)]) (by kernel_rfl) (RoOf.kids [(t2,x2),(t0,x0),(t1,x1)]) fun F4 y4 l4 z4 => ?_
 have c4:TAts F4 [(t0,x0),(t1,x1),(t2,x2)]:=c3.le ⟨l4⟩
 have a4:TAts F4 [(.mk 4 [] [t0,t1,t2],y0),(.mk 4 [] [t0,t2,t1],y1),(.mk 4 [] [t1,t0,t2],y2),(.mk 4 [] [t1,t2,t0],y3),(.mk 4 [] [t2,t0,t1],y4)]:=(a3.le ⟨l4⟩).snoc ⟨IsT.of (k:=4) (w:=[]) [(t2,x2),(t0,x0),(t1,x1)] z4 (TAts.pick c4 (by intro p hp; simp only [List.mem_cons,List.not_mem_nil,or_false] at hp ⊢; rcases hp with rfl | rfl | rfl <;> simp)).is⟩
 have u4:Up F F4:=u3.trans ⟨l4⟩
 refine ToX.freeze 10 (r:=krow [(t2,x2),(t1,x1),(t0,x0)]) (by kernel_rfl) (RoOf.kids [(t2,x2),(t1,x1),(t0,x0)]) fun F5 y5 l5 z5 => ?_
 have c5:TAts F5 [(t0,x0),(t1,x1),(t2,x2)]:=c4.le ⟨l5⟩
 have a5:TAts F5 [(.mk 4 [] [t0,t1,t2],y0),(.mk 4 [] [t0,t2,t1],y1),(.mk 4 [] [t1,t0,t2],y2),(.mk 4 [] [t1,t2,t0],y3),(.mk 4 [] [t2,t0,t1],y4),(.mk 4 [] [t2,t1,t0],y5)]:=(a4.le ⟨l5⟩).snoc ⟨IsT.of (k:=4) (w:=[]) [(t2,x2),(t1,x1),(t0,x0)] z5 (TAts.pick c5 (by intro p hp; simp only [List.mem_cons,List.not_mem_nil,or_false] at hp ⊢; rcases hp with rfl | rfl | rfl <;> simp)).is⟩
 have u5:Up F F5:=u4.trans ⟨l5⟩
 refine ToX.fitW (stE:=famE [(.mk 4 [] [t0,t1,t2],y0),(.mk 4 [] [t0,t2,t1],y1),(.mk 4 [] [t1,t0,t2],y2),(.mk 4 [] [t1,t2,t0],y3),(.mk 4 [] [t2,t0,t1],y4),(.mk 4 [] [t2,t1,t0],y5)]) some ⟨fun c c' b r r' _ _ h h' => by cases h; cases h'; rfl,fun c r hc => ?_⟩ ?_ (fun _ _ => rfl) (by simp) (ToX.here (hS _ F5 rfl u5 a5))
 ·match c with
  | 0 => cases hc
  | 1 => cases hc; exact .inl ⟨1,_,rfl,by kernel_rfl,(RowG.lst1' rfl rfl).vw _ _⟩
  | 2 => cases hc; exact .inl ⟨2,_,rfl,by kernel_rfl,o5_v rfl (by simp)⟩
  | 3 => cases hc
  | 4 => cases hc; exact .inl ⟨4,.lst 25 3 ([(.mk 4 [] [t0,t1,t2],y0),(.mk 4 [] [t0,t2,t1],y1),(.mk 4 [] [t1,t0,t2],y2),(.mk 4 [] [t1,t2,t0],y3),(.mk 4 [] [t2,t0,t1],y4),(.mk 4 [] [t2,t1,t0],y5)].map fun p => exprV p.1 p.2),rfl,by kernel_rfl,krow_lst _⟩
  | c + 5 => simp [Rows.live] at hc
 ·exact tm18e_vw (by kernel_rfl) (by simp)
theorem vc27_4 (R:RR) (q:AV -> Option Row -> Option Row -> Option Row -> Option Row -> Option Row -> Option Row -> Option Row -> Option Row -> Option Row -> Option Row -> Option Row -> Option Row -> Option Row -> Option Row -> Option Row -> Option Row -> Option Row -> Option Row -> Option Row -> Option Row -> Option Row -> Option Row -> Option Row -> Option Row -> Option Row -> Nat -> Fz -> Prop) (F:Fz):vcx ((bx R).addCall 27 sp27_3) 1000 27 fi27 [.int .i64 4] [] (fun v h F => q v (h.live 243) (h.live 13) (h.live 22) (h.live 31) (h.live 40) (h.live 49) (h.live 58) (h.live 74) (h.live 83) (h.live 92) (h.live 101) (h.live 110) (h.live 119) (h.live 135) (h.live 144) (h.live 153) (h.live 162) (h.live 171) (h.live 180) (h.live 196) (h.live 205) (h.live 214) (h.live 223) (h.live 232) (h.live 241) h.length F) F = (q (.sl false 243 0 24 .no) (some (.lst 60 1 [.sl false 13 0 4 .no,.sl false 22 0 4 .no,.sl false 31 0 4 .no,.sl false 40 0 4 .no,.sl false 49 0 4 .no,.sl false 58 0 4 .no,.sl false 74 0 4 .no,.sl false 83 0 4 .no,.sl false 92 0 4 .no,.sl false 101 0 4 .no,.sl false 110 0 4 .no,.sl false 119 0 4 .no,.sl false 135 0 4 .no,.sl false 144 0 4 .no,.sl false 153 0 4 .no,.sl false 162 0 4 .no,.sl false 171 0 4 .no,.sl false 180 0 4 .no,.sl false 196 0 4 .no,.sl false 205 0 4 .no,.sl false 214 0 4 .no,.sl false 223 0 4 .no,.sl false 232 0 4 .no,.sl false 241 0 4 .no])) (some (.lst 3 1 [.int .i64 0,.int .i64 1,.int .i64 2,.int .i64 3])) (some (.lst 3 1 [.int .i64 0,.int .i64 1,.int .i64 3,.int .i64 2])) (some (.lst 3 1 [.int .i64 0,.int .i64 2,.int .i64 1,.int .i64 3])) (some (.lst 3 1 [.int .i64 0,.int .i64 2,.int .i64 3,.int .i64 1])) (some (.lst 3 1 [.int .i64 0,.int .i64 3,.int .i64 1,.int .i64 2])) (some (.lst 3 1 [.int .i64 0,.int .i64 3,.int .i64 2,.int .i64 1])) (some (.lst 3 1 [.int .i64 1,.int .i64 0,.int .i64 2,.int .i64 3])) (some (.lst 3 1 [.int .i64 1,.int .i64 0,.int .i64 3,.int .i64 2])) (some (.lst 3 1 [.int .i64 1,.int .i64 2,.int .i64 0,.int .i64 3])) (some (.lst 3 1 [.int .i64 1,.int .i64 2,.int .i64 3,.int .i64 0])) (some (.lst 3 1 [.int .i64 1,.int .i64 3,.int .i64 0,.int .i64 2])) (some (.lst 3 1 [.int .i64 1,.int .i64 3,.int .i64 2,.int .i64 0])) (some (.lst 3 1 [.int .i64 2,.int .i64 0,.int .i64 1,.int .i64 3])) (some (.lst 3 1 [.int .i64 2,.int .i64 0,.int .i64 3,.int .i64 1])) (some (.lst 3 1 [.int .i64 2,.int .i64 1,.int .i64 0,.int .i64 3])) (some (.lst 3 1 [.int .i64 2,.int .i64 1,.int .i64 3,.int .i64 0])) (some (.lst 3 1 [.int .i64 2,.int .i64 3,.int .i64 0,.int .i64 1])) (some (.lst 3 1 [.int .i64 2,.int .i64 3,.int .i64 1,.int .i64 0])) (some (.lst 3 1 [.int .i64 3,.int .i64 0,.int .i64 1,.int .i64 2])) (some (.lst 3 1 [.int .i64 3,.int .i64 0,.int .i64 2,.int .i64 1])) (some (.lst 3 1 [.int .i64 3,.int .i64 1,.int .i64 0,.int .i64 2])) (some (.lst 3 1 [.int .i64 3,.int .i64 1,.int .i64 2,.int .i64 0])) (some (.lst 3 1 [.int .i64 3,.int .i64 2,.int .i64 0,.int .i64 1])) (some (.lst 3 1 [.int .i64 3,.int .i64 2,.int .i64 1,.int .i64 0])) 244 F):=by kernel_rfl
def f27_4:Nat -> Option Nat:=fun c => [243,13,22,31,40,49,58,74,83,92,101,110,119,135,144,153,162,171,180,196,205,214,223,232,241][c]?
theorem safe27_4 (R:RR) (F:Fz):SafeCallX Try.prog R 27 [.int .i64 4] [] F (fun v h F' => F' = F /\ v = .sl false 0 0 24 .no /\ h = [some (.lst 60 1 [.sl false 1 0 4 .no,.sl false 2 0 4 .no,.sl false 3 0 4 .no,.sl false 4 0 4 .no,.sl false 5 0 4 .no,.sl false 6 0 4 .no,.sl false 7 0 4 .no,.sl false 8 0 4 .no,.sl false 9 0 4 .no,.sl false 10 0 4 .no,.sl false 11 0 4 .no,.sl false 12 0 4 .no,.sl false 13 0 4 .no,.sl false 14 0 4 .no,.sl false 15 0 4 .no,.sl false 16 0 4 .no,.sl false 17 0 4 .no,.sl false 18 0 4 .no,.sl false 19 0 4 .no,.sl false 20 0 4 .no,.sl false 21 0 4 .no,.sl false 22 0 4 .no,.sl false 23 0 4 .no,.sl false 24 0 4 .no]),some (.lst 3 1 [.int .i64 0,.int .i64 1,.int .i64 2,.int .i64 3]),some (.lst 3 1 [.int .i64 0,.int .i64 1,.int .i64 3,.int .i64 2]),some (.lst 3 1 [.int .i64 0,.int .i64 2,.int .i64 1,.int .i64 3]),some (.lst 3 1 [.int .i64 0,.int .i64 2,.int .i64 3,.int .i64 1]),some (.lst 3 1 [.int .i64 0,.int .i64 3,.int .i64 1,.int .i64 2]),some (.lst 3 1 [.int .i64 0,.int .i64 3,.int .i64 2,.int .i64 1]),some (.lst 3 1 [.int .i64 1,.int .i64 0,.int .i64 2,.int .i64 3]),some (.lst 3 1 [.int .i64 1,.int .i64 0,.int .i64 3,.int .i64 2]),some (.lst 3 1 [.int .i64 1,.int .i64 2,.int .i64 0,.int .i64 3]),some (.lst 3 1 [.int .i64 1,.int .i64 2,.int .i64 3,.int .i64 0]),some (.lst 3 1 [.int .i64 1,.int .i64 3,.int .i64 0,.int .i64 2]),some (.lst 3 1 [.int .i64 1,.int .i64 3,.int .i64 2,.int .i64 0]),some (.lst 3 1 [.int .i64 2,.int .i64 0,.int .i64 1,.int .i64 3]),some (.lst 3 1 [.int .i64 2,.int .i64 0,.int .i64 3,.int .i64 1]),some (.lst 3 1 [.int .i64 2,.int .i64 1,.int .i64 0,.int .i64 3]),some (.lst 3 1 [.int .i64 2,.int .i64 1,.int .i64 3,.int .i64 0]),some (.lst 3 1 [.int .i64 2,.int .i64 3,.int .i64 0,.int .i64 1]),some (.lst 3 1 [.int .i64 2,.int .i64 3,.int .i64 1,.int .i64 0]),some (.lst 3 1 [.int .i64 3,.int .i64 0,.int .i64 1,.int .i64 2]),some (.lst 3 1 [.int .i64 3,.int .i64 0,.int .i64 2,.int .i64 1]),some (.lst 3 1 [.int .i64 3,.int .i64 1,.int .i64 0,.int .i64 2]),some (.lst 3 1 [.int .i64 3,.int .i64 1,.int .i64 2,.int .i64 0]),some (.lst 3 1 [.int .i64 3,.int .i64 2,.int .i64 0,.int .i64 1]),some (.lst 3 1 [.int .i64 3,.int .i64 2,.int .i64 1,.int .i64 0])]) (fun _ _ _ => False):=by
 refine SafeCallX.post (Q:=fun v h F' => F' = F /\ v = .sl false 243 0 24 .no /\ h.length = 244 /\ h.live 243 = some (.lst 60 1 [.sl false 13 0 4 .no,.sl false 22 0 4 .no,.sl false 31 0 4 .no,.sl false 40 0 4 .no,.sl false 49 0 4 .no,.sl false 58 0 4 .no,.sl false 74 0 4 .no,.sl false 83 0 4 .no,.sl false 92 0 4 .no,.sl false 101 0 4 .no,.sl false 110 0 4 .no,.sl false 119 0 4 .no,.sl false 135 0 4 .no,.sl false 144 0 4 .no,.sl false 153 0 4 .no,.sl false 162 0 4 .no,.sl false 171 0 4 .no,.sl false 180 0 4 .no,.sl false 196 0 4 .no,.sl false 205 0 4 .no,.sl false 214 0 4 .no,.sl false 223 0 4 .no,.sl false 232 0 4 .no,.sl false 241 0 4 .no]) /\ h.live 13 = some (.lst 3 1 [.int .i64 0,.int .i64 1,.int .i64 2,.int .i64 3]) /\ h.live 22 = some (.lst 3 1 [.int .i64 0,.int .i64 1,.int .i64 3,.int .i64 2]) /\ h.live 31 = some (.lst 3 1 [.int .i64 0,.int .i64 2,.int .i64 1,.int .i64 3]) /\ h.live 40 = some (.lst 3 1 [.int .i64 0,.int .i64 2,.int .i64 3,.int .i64 1]) /\ h.live 49 = some (.lst 3 1 [.int .i64 0,.int .i64 3,.int .i64 1,.int .i64 2]) /\ h.live 58 = some (.lst 3 1 [.int .i64 0,.int .i64 3,.int .i64 2,.int .i64 1]) /\ h.live 74 = some (.lst 3 1 [.int .i64 1,.int .i64 0,.int .i64 2,.int .i64 3]) /\ h.live 83 = some (.lst 3 1 [.int .i64 1,.int .i64 0,.int .i64 3,.int .i64 2]) /\ h.live 92 = some (.lst 3 1 [.int .i64 1,.int .i64 2,.int .i64 0,.int .i64 3]) /\ h.live 101 = some (.lst 3 1 [.int .i64 1,.int .i64 2,.int .i64 3,.int .i64 0]) /\ h.live 110 = some (.lst 3 1 [.int .i64 1,.int .i64 3,.int .i64 0,.int .i64 2]) /\ h.live 119 = some (.lst 3 1 [.int .i64 1,.int .i64 3,.int .i64 2,.int .i64 0]) /\ h.live 135 = some (.lst 3 1 [.int .i64 2,.int .i64 0,.int .i64 1,.int .i64 3]) /\ h.live 144 = some (.lst 3 1 [.int .i64 2,.int .i64 0,.int .i64 3,.int .i64 1]) /\ h.live 153 = some (.lst 3 1 [.int .i64 2,.int .i64 1,.int .i64 0,.int .i64 3]) /\ h.live 162 = some (.lst 3 1 [.int .i64 2,.int .i64 1,.int .i64 3,.int .i64 0]) /\ h.live 171 = some (.lst 3 1 [.int .i64 2,.int .i64 3,.int .i64 0,.int .i64 1]) /\ h.live 180 = some (.lst 3 1 [.int .i64 2,.int .i64 3,.int .i64 1,.int .i64 0]) /\ h.live 196 = some (.lst 3 1 [.int .i64 3,.int .i64 0,.int .i64 1,.int .i64 2]) /\ h.live 205 = some (.lst 3 1 [.int .i64 3,.int .i64 0,.int .i64 2,.int .i64 1]) /\ h.live 214 = some (.lst 3 1 [.int .i64 3,.int .i64 1,.int .i64 0,.int .i64 2]) /\ h.live 223 = some (.lst 3 1 [.int .i64 3,.int .i64 1,.int .i64 2,.int .i64 0]) /\ h.live 232 = some (.lst 3 1 [.int .i64 3,.int .i64 2,.int .i64 0,.int .i64 1]) /\ h.live 241 = some (.lst 3 1 [.int .i64 3,.int .i64 2,.int .i64 1,.int .i64 0])) (HP:=fun _ _ _ => False) ?_ ?_ (fun v h' F' _ h => h.elim)
 ·refine SafeCallX.by mixed ((bx_ok R [] _).addCall (f:=27) (fi:=fi27) (by kernel_rfl) (sp27_3_ok R _)) (f:=27) (fi:=fi27) (by kernel_rfl) 1000 (vc27_4 R (fun v r0 r1 r2 r3 r4 r5 r6 r7 r8 r9 r10 r11 r12 r13 r14 r15 r16 r17 r18 r19 r20 r21 r22 r23 r24 m F' => F' = F /\ v = .sl false 243 0 24 .no /\ m = 244 /\ r0 = some (.lst 60 1 [.sl false 13 0 4 .no,.sl false 22 0 4 .no,.sl false 31 0 4 .no,.sl false 40 0 4 .no,.sl false 49 0 4 .no,.sl false 58 0 4 .no,.sl false 74 0 4 .no,.sl false 83 0 4 .no,.sl false 92 0 4 .no,.sl false 101 0 4 .no,.sl false 110 0 4 .no,.sl false 119 0 4 .no,.sl false 135 0 4 .no,.sl false 144 0 4 .no,.sl false 153 0 4 .no,.sl false 162 0 4 .no,.sl false 171 0 4 .no,.sl false 180 0 4 .no,.sl false 196 0 4 .no,.sl false 205 0 4 .no,.sl false 214 0 4 .no,.sl false 223 0 4 .no,.sl false 232 0 4 .no,.sl false 241 0 4 .no]) /\ r1 = some (.lst 3 1 [.int .i64 0,.int .i64 1,.int .i64 2,.int .i64 3]) /\ r2 = some (.lst 3 1 [.int .i64 0,.int .i64 1,.int .i64 3,.int .i64 2]) /\ r3 = some (.lst 3 1 [.int .i64 0,.int .i64 2,.int .i64 1,.int .i64 3]) /\ r4 = some (.lst 3 1 [.int .i64 0,.int .i64 2,.int .i64 3,.int .i64 1]) /\ r5 = some (.lst 3 1 [.int .i64 0,.int .i64 3,.int .i64 1,.int .i64 2]) /\ r6 = some (.lst 3 1 [.int .i64 0,.int .i64 3,.int .i64 2,.int .i64 1]) /\ r7 = some (.lst 3 1 [.int .i64 1,.int .i64 0,.int .i64 2,.int .i64 3]) /\ r8 = some (.lst 3 1 [.int .i64 1,.int .i64 0,.int .i64 3,.int .i64 2]) /\ r9 = some (.lst 3 1 [.int .i64 1,.int .i64 2,.int .i64 0,.int .i64 3]) /\ r10 = some (.lst 3 1 [.int .i64 1,.int .i64 2,.int .i64 3,.int .i64 0]) /\ r11 = some (.lst 3 1 [.int .i64 1,.int .i64 3,.int .i64 0,.int .i64 2]) /\ r12 = some (.lst 3 1 [.int .i64 1,.int .i64 3,.int .i64 2,.int .i64 0]) /\ r13 = some (.lst 3 1 [.int .i64 2,.int .i64 0,.int .i64 1,.int .i64 3]) /\ r14 = some (.lst 3 1 [.int .i64 2,.int .i64 0,.int .i64 3,.int .i64 1]) /\ r15 = some (.lst 3 1 [.int .i64 2,.int .i64 1,.int .i64 0,.int .i64 3]) /\ r16 = some (.lst 3 1 [.int .i64 2,.int .i64 1,.int .i64 3,.int .i64 0]) /\ r17 = some (.lst 3 1 [.int .i64 2,.int .i64 3,.int .i64 0,.int .i64 1]) /\ r18 = some (.lst 3 1 [.int .i64 2,.int .i64 3,.int .i64 1,.int .i64 0]) /\ r19 = some (.lst 3 1 [.int .i64 3,.int .i64 0,.int .i64 1,.int .i64 2]) /\ r20 = some (.lst 3 1 [.int .i64 3,.int .i64 0,.int .i64 2,.int .i64 1]) /\ r21 = some (.lst 3 1 [.int .i64 3,.int .i64 1,.int .i64 0,.int .i64 2]) /\ r22 = some (.lst 3 1 [.int .i64 3,.int .i64 1,.int .i64 2,.int .i64 0]) /\ r23 = some (.lst 3 1 [.int .i64 3,.int .i64 2,.int .i64 0,.int .i64 1]) /\ r24 = some (.lst 3 1 [.int .i64 3,.int .i64 2,.int .i64 1,.int .i64 0])) F) ?_
  exact ⟨rfl,rfl,rfl,rfl,rfl,rfl,rfl,rfl,rfl,rfl,rfl,rfl,rfl,rfl,rfl,rfl,rfl,rfl,rfl,rfl,rfl,rfl,rfl,rfl,rfl,rfl,rfl,rfl⟩
 ·rintro v h' F' _ ⟨rfl,rfl,hl,g0,g1,g2,g3,g4,g5,g6,g7,g8,g9,g10,g11,g12,g13,g14,g15,g16,g17,g18,g19,g20,g21,g22,g23,g24⟩
  refine ToV.fitW (vE:=.sl false 0 0 24 .no) (hE:=[some (.lst 60 1 [.sl false 1 0 4 .no,.sl false 2 0 4 .no,.sl false 3 0 4 .no,.sl false 4 0 4 .no,.sl false 5 0 4 .no,.sl false 6 0 4 .no,.sl false 7 0 4 .no,.sl false 8 0 4 .no,.sl false 9 0 4 .no,.sl false 10 0 4 .no,.sl false 11 0 4 .no,.sl false 12 0 4 .no,.sl false 13 0 4 .no,.sl false 14 0 4 .no,.sl false 15 0 4 .no,.sl false 16 0 4 .no,.sl false 17 0 4 .no,.sl false 18 0 4 .no,.sl false 19 0 4 .no,.sl false 20 0 4 .no,.sl false 21 0 4 .no,.sl false 22 0 4 .no,.sl false 23 0 4 .no,.sl false 24 0 4 .no]),some (.lst 3 1 [.int .i64 0,.int .i64 1,.int .i64 2,.int .i64 3]),some (.lst 3 1 [.int .i64 0,.int .i64 1,.int .i64 3,.int .i64 2]),some (.lst 3 1 [.int .i64 0,.int .i64 2,.int .i64 1,.int .i64 3]),some (.lst 3 1 [.int .i64 0,.int .i64 2,.int .i64 3,.int .i64 1]),some (.lst 3 1 [.int .i64 0,.int .i64 3,.int .i64 1,.int .i64 2]),some (.lst 3 1 [.int .i64 0,.int .i64 3,.int .i64 2,.int .i64 1]),some (.lst 3 1 [.int .i64 1,.int .i64 0,.int .i64 2,.int .i64 3]),some (.lst 3 1 [.int .i64 1,.int .i64 0,.int .i64 3,.int .i64 2]),some (.lst 3 1 [.int .i64 1,.int .i64 2,.int .i64 0,.int .i64 3]),some (.lst 3 1 [.int .i64 1,.int .i64 2,.int .i64 3,.int .i64 0]),some (.lst 3 1 [.int .i64 1,.int .i64 3,.int .i64 0,.int .i64 2]),some (.lst 3 1 [.int .i64 1,.int .i64 3,.int .i64 2,.int .i64 0]),some (.lst 3 1 [.int .i64 2,.int .i64 0,.int .i64 1,.int .i64 3]),some (.lst 3 1 [.int .i64 2,.int .i64 0,.int .i64 3,.int .i64 1]),some (.lst 3 1 [.int .i64 2,.int .i64 1,.int .i64 0,.int .i64 3]),some (.lst 3 1 [.int .i64 2,.int .i64 1,.int .i64 3,.int .i64 0]),some (.lst 3 1 [.int .i64 2,.int .i64 3,.int .i64 0,.int .i64 1]),some (.lst 3 1 [.int .i64 2,.int .i64 3,.int .i64 1,.int .i64 0]),some (.lst 3 1 [.int .i64 3,.int .i64 0,.int .i64 1,.int .i64 2]),some (.lst 3 1 [.int .i64 3,.int .i64 0,.int .i64 2,.int .i64 1]),some (.lst 3 1 [.int .i64 3,.int .i64 1,.int .i64 0,.int .i64 2]),some (.lst 3 1 [.int .i64 3,.int .i64 1,.int .i64 2,.int .i64 0]),some (.lst 3 1 [.int .i64 3,.int .i64 2,.int .i64 0,.int .i64 1]),some (.lst 3 1 [.int .i64 3,.int .i64 2,.int .i64 1,.int .i64 0])]) f27_4 ⟨fun c c' b r r' hc hc' e e' => ?_,fun c r hc => ?_⟩ (Vw.slE (by simp) rfl) (fun c hc => absurd hc (Nat.not_lt_zero _)) (Nat.zero_le _) (ToV.here ⟨rfl,rfl,rfl⟩)
  ·exact inj27 (l:=[243,13,22,31,40,49,58,74,83,92,101,110,119,135,144,153,162,171,180,196,205,214,223,232,241]) (by decide) e e'
  ·match c with
   | 0 => cases hc; exact .inl ⟨243,_,rfl,g0,lstV (by decide) (VwL.cons (Vw.slE (by simp) rfl) (VwL.cons (Vw.slE (by simp) rfl) (VwL.cons (Vw.slE (by simp) rfl) (VwL.cons (Vw.slE (by simp) rfl) (VwL.cons (Vw.slE (by simp) rfl) (VwL.cons (Vw.slE (by simp) rfl) (VwL.cons (Vw.slE (by simp) rfl) (VwL.cons (Vw.slE (by simp) rfl) (VwL.cons (Vw.slE (by simp) rfl) (VwL.cons (Vw.slE (by simp) rfl) (VwL.cons (Vw.slE (by simp) rfl) (VwL.cons (Vw.slE (by simp) rfl) (VwL.cons (Vw.slE (by simp) rfl) (VwL.cons (Vw.slE (by simp) rfl) (VwL.cons (Vw.slE (by simp) rfl) (VwL.cons (Vw.slE (by simp) rfl) (VwL.cons (Vw.slE (by simp) rfl) (VwL.cons (Vw.slE (by simp) rfl) (VwL.cons (Vw.slE (by simp) rfl) (VwL.cons (Vw.slE (by simp) rfl) (VwL.cons (Vw.slE (by simp) rfl) (VwL.cons (Vw.slE (by simp) rfl) (VwL.cons (Vw.slE (by simp) rfl) (VwL.cons (Vw.slE (by simp) rfl) (VwL.nil)))))))))))))))))))))))))⟩
   | 1 => cases hc; exact .inl ⟨13,_,rfl,g1,lstV (by decide) (gndL_vw _ _ _ rfl)⟩
   | 2 => cases hc; exact .inl ⟨22,_,rfl,g2,lstV (by decide) (gndL_vw _ _ _ rfl)⟩
   | 3 => cases hc; exact .inl ⟨31,_,rfl,g3,lstV (by decide) (gndL_vw _ _ _ rfl)⟩
   | 4 => cases hc; exact .inl ⟨40,_,rfl,g4,lstV (by decide) (gndL_vw _ _ _ rfl)⟩
   | 5 => cases hc; exact .inl ⟨49,_,rfl,g5,lstV (by decide) (gndL_vw _ _ _ rfl)⟩
   | 6 => cases hc; exact .inl ⟨58,_,rfl,g6,lstV (by decide) (gndL_vw _ _ _ rfl)⟩
   | 7 => cases hc; exact .inl ⟨74,_,rfl,g7,lstV (by decide) (gndL_vw _ _ _ rfl)⟩
   | 8 => cases hc; exact .inl ⟨83,_,rfl,g8,lstV (by decide) (gndL_vw _ _ _ rfl)⟩
   | 9 => cases hc; exact .inl ⟨92,_,rfl,g9,lstV (by decide) (gndL_vw _ _ _ rfl)⟩
   | 10 => cases hc; exact .inl ⟨101,_,rfl,g10,lstV (by decide) (gndL_vw _ _ _ rfl)⟩
   | 11 => cases hc; exact .inl ⟨110,_,rfl,g11,lstV (by decide) (gndL_vw _ _ _ rfl)⟩
   | 12 => cases hc; exact .inl ⟨119,_,rfl,g12,lstV (by decide) (gndL_vw _ _ _ rfl)⟩
   | 13 => cases hc; exact .inl ⟨135,_,rfl,g13,lstV (by decide) (gndL_vw _ _ _ rfl)⟩
   | 14 => cases hc; exact .inl ⟨144,_,rfl,g14,lstV (by decide) (gndL_vw _ _ _ rfl)⟩
   | 15 => cases hc; exact .inl ⟨153,_,rfl,g15,lstV (by decide) (gndL_vw _ _ _ rfl)⟩
   | 16 => cases hc; exact .inl ⟨162,_,rfl,g16,lstV (by decide) (gndL_vw _ _ _ rfl)⟩
   | 17 => cases hc; exact .inl ⟨171,_,rfl,g17,lstV (by decide) (gndL_vw _ _ _ rfl)⟩
   | 18 => cases hc; exact .inl ⟨180,_,rfl,g18,lstV (by decide) (gndL_vw _ _ _ rfl)⟩
   | 19 => cases hc; exact .inl ⟨196,_,rfl,g19,lstV (by decide) (gndL_vw _ _ _ rfl)⟩
   | 20 => cases hc; exact .inl ⟨205,_,rfl,g20,lstV (by decide) (gndL_vw _ _ _ rfl)⟩
   | 21 => cases hc; exact .inl ⟨214,_,rfl,g21,lstV (by decide) (gndL_vw _ _ _ rfl)⟩
   | 22 => cases hc; exact .inl ⟨223,_,rfl,g22,lstV (by decide) (gndL_vw _ _ _ rfl)⟩
   | 23 => cases hc; exact .inl ⟨232,_,rfl,g23,lstV (by decide) (gndL_vw _ _ _ rfl)⟩
   | 24 => cases hc; exact .inl ⟨241,_,rfl,g24,lstV (by decide) (gndL_vw _ _ _ rfl)⟩
   | c + 25 => simp [Rows.live] at hc
def sp27_4:CallSpecX:=fun args h k => match args with
 | [.int .i64 4] => fun F => k (.sl false h.length 0 24 .no) (h ++ [some (.lst 60 1 [.sl false (h.length + 1) 0 4 .no,.sl false (h.length + 2) 0 4 .no,.sl false (h.length + 3) 0 4 .no,.sl false (h.length + 4) 0 4 .no,.sl false (h.length + 5) 0 4 .no,.sl false (h.length + 6) 0 4 .no,.sl false (h.length + 7) 0 4 .no,.sl false (h.length + 8) 0 4 .no,.sl false (h.length + 9) 0 4 .no,.sl false (h.length + 10) 0 4 .no,.sl false (h.length + 11) 0 4 .no,.sl false (h.length + 12) 0 4 .no,.sl false (h.length + 13) 0 4 .no,.sl false (h.length + 14) 0 4 .no,.sl false (h.length + 15) 0 4 .no,.sl false (h.length + 16) 0 4 .no,.sl false (h.length + 17) 0 4 .no,.sl false (h.length + 18) 0 4 .no,.sl false (h.length + 19) 0 4 .no,.sl false (h.length + 20) 0 4 .no,.sl false (h.length + 21) 0 4 .no,.sl false (h.length + 22) 0 4 .no,.sl false (h.length + 23) 0 4 .no,.sl false (h.length + 24) 0 4 .no]),some (.lst 3 1 [.int .i64 0,.int .i64 1,.int .i64 2,.int .i64 3]),some (.lst 3 1 [.int .i64 0,.int .i64 1,.int .i64 3,.int .i64 2]),some (.lst 3 1 [.int .i64 0,.int .i64 2,.int .i64 1,.int .i64 3]),some (.lst 3 1 [.int .i64 0,.int .i64 2,.int .i64 3,.int .i64 1]),some (.lst 3 1 [.int .i64 0,.int .i64 3,.int .i64 1,.int .i64 2]),some (.lst 3 1 [.int .i64 0,.int .i64 3,.int .i64 2,.int .i64 1]),some (.lst 3 1 [.int .i64 1,.int .i64 0,.int .i64 2,.int .i64 3]),some (.lst 3 1 [.int .i64 1,.int .i64 0,.int .i64 3,.int .i64 2]),some (.lst 3 1 [.int .i64 1,.int .i64 2,.int .i64 0,.int .i64 3]),some (.lst 3 1 [.int .i64 1,.int .i64 2,.int .i64 3,.int .i64 0]),some (.lst 3 1 [.int .i64 1,.int .i64 3,.int .i64 0,.int .i64 2]),some (.lst 3 1 [.int .i64 1,.int .i64 3,.int .i64 2,.int .i64 0]),some (.lst 3 1 [.int .i64 2,.int .i64 0,.int .i64 1,.int .i64 3]),some (.lst 3 1 [.int .i64 2,.int .i64 0,.int .i64 3,.int .i64 1]),some (.lst 3 1 [.int .i64 2,.int .i64 1,.int .i64 0,.int .i64 3]),some (.lst 3 1 [.int .i64 2,.int .i64 1,.int .i64 3,.int .i64 0]),some (.lst 3 1 [.int .i64 2,.int .i64 3,.int .i64 0,.int .i64 1]),some (.lst 3 1 [.int .i64 2,.int .i64 3,.int .i64 1,.int .i64 0]),some (.lst 3 1 [.int .i64 3,.int .i64 0,.int .i64 1,.int .i64 2]),some (.lst 3 1 [.int .i64 3,.int .i64 0,.int .i64 2,.int .i64 1]),some (.lst 3 1 [.int .i64 3,.int .i64 1,.int .i64 0,.int .i64 2]),some (.lst 3 1 [.int .i64 3,.int .i64 1,.int .i64 2,.int .i64 0]),some (.lst 3 1 [.int .i64 3,.int .i64 2,.int .i64 0,.int .i64 1]),some (.lst 3 1 [.int .i64 3,.int .i64 2,.int .i64 1,.int .i64 0])]) F
 | _ => botX
theorem sp27_4_ok (R:RR) (HP:HPt):∀ args h k F,sp27_4 args h k F -> SafeCallX Try.prog R 27 args h F k HP:=by
 intro args h k F hk
 unfold sp27_4 at hk
 split at hk
 ·have hV:View noView [] h:=⟨fun c b hc => absurd hc (Nat.not_lt_zero _),fun c c' b hc => absurd hc (Nat.not_lt_zero _),fun c r hc => by simp [Rows.live] at hc⟩
  refine (SafeCallX.focus hV (argsL:=[.int .i64 4]) (VwL.cons Vw.intI VwL.nil) (safe27_4 R F)).mono ?_ ?_
  ·rintro v h' F' _ ⟨v0,h1,⟨rfl,rfl,rfl⟩,rfl,rfl⟩
   show k (ren (ext noView 0 h.length) (.sl false 0 0 24 .no)) (merged noView 0 0 h [some (.lst 60 1 [.sl false 1 0 4 .no,.sl false 2 0 4 .no,.sl false 3 0 4 .no,.sl false 4 0 4 .no,.sl false 5 0 4 .no,.sl false 6 0 4 .no,.sl false 7 0 4 .no,.sl false 8 0 4 .no,.sl false 9 0 4 .no,.sl false 10 0 4 .no,.sl false 11 0 4 .no,.sl false 12 0 4 .no,.sl false 13 0 4 .no,.sl false 14 0 4 .no,.sl false 15 0 4 .no,.sl false 16 0 4 .no,.sl false 17 0 4 .no,.sl false 18 0 4 .no,.sl false 19 0 4 .no,.sl false 20 0 4 .no,.sl false 21 0 4 .no,.sl false 22 0 4 .no,.sl false 23 0 4 .no,.sl false 24 0 4 .no]),some (.lst 3 1 [.int .i64 0,.int .i64 1,.int .i64 2,.int .i64 3]),some (.lst 3 1 [.int .i64 0,.int .i64 1,.int .i64 3,.int .i64 2]),some (.lst 3 1 [.int .i64 0,.int .i64 2,.int .i64 1,.int .i64 3]),some (.lst 3 1 [.int .i64 0,.int .i64 2,.int .i64 3,.int .i64 1]),some (.lst 3 1 [.int .i64 0,.int .i64 3,.int .i64 1,.int .i64 2]),some (.lst 3 1 [.int .i64 0,.int .i64 3,.int .i64 2,.int .i64 1]),some (.lst 3 1 [.int .i64 1,.int .i64 0,.int .i64 2,.int .i64 3]),some (.lst 3 1 [.int .i64 1,.int .i64 0,.int .i64 3,.int .i64 2]),some (.lst 3 1 [.int .i64 1,.int .i64 2,.int .i64 0,.int .i64 3]),some (.lst 3 1 [.int .i64 1,.int .i64 2,.int .i64 3,.int .i64 0]),some (.lst 3 1 [.int .i64 1,.int .i64 3,.int .i64 0,.int .i64 2]),some (.lst 3 1 [.int .i64 1,.int .i64 3,.int .i64 2,.int .i64 0]),some (.lst 3 1 [.int .i64 2,.int .i64 0,.int .i64 1,.int .i64 3]),some (.lst 3 1 [.int .i64 2,.int .i64 0,.int .i64 3,.int .i64 1]),some (.lst 3 1 [.int .i64 2,.int .i64 1,.int .i64 0,.int .i64 3]),some (.lst 3 1 [.int .i64 2,.int .i64 1,.int .i64 3,.int .i64 0]),some (.lst 3 1 [.int .i64 2,.int .i64 3,.int .i64 0,.int .i64 1]),some (.lst 3 1 [.int .i64 2,.int .i64 3,.int .i64 1,.int .i64 0]),some (.lst 3 1 [.int .i64 3,.int .i64 0,.int .i64 1,.int .i64 2]),some (.lst 3 1 [.int .i64 3,.int .i64 0,.int .i64 2,.int .i64 1]),some (.lst 3 1 [.int .i64 3,.int .i64 1,.int .i64 0,.int .i64 2]),some (.lst 3 1 [.int .i64 3,.int .i64 1,.int .i64 2,.int .i64 0]),some (.lst 3 1 [.int .i64 3,.int .i64 2,.int .i64 0,.int .i64 1]),some (.lst 3 1 [.int .i64 3,.int .i64 2,.int .i64 1,.int .i64 0])]) F'
   rw [merged_nil,ext_nil]
   exact hk
  ·rintro v h' F' _ ⟨_,_,h,_⟩; exact h.elim
 ·exact hk.elim
theorem va18_4 (R:RR) (w:List UInt8) (t0 t1 t2 t3:Tr) (x0 x1 x2 x3:Nat) (q:Exit -> Nat -> AV -> AV -> Option Row -> Option Row -> Option Row -> Option Row -> Option Row -> Option Row -> Option Row -> Option Row -> Option Row -> Option Row -> Option Row -> Option Row -> Option Row -> Option Row -> Option Row -> Option Row -> Option Row -> Option Row -> Option Row -> Option Row -> Option Row -> Option Row -> Option Row -> Option Row -> Option Row -> Option Row -> Option Row -> Nat -> Fz -> Prop) (F:Fz):rnx ((bx R).addCall 27 sp27_4) 1000 18 (hdC (tailC 3 fi18.body)) (fam18 6 w 4 4 [(t0,x0),(t1,x1),(t2,x2),(t3,x3)]) (fun e st F => q e st.tmps.length (nthV st.tmps 2) (nthV st.tmps 4) (st.rows.live 1) (st.rows.live 2) (st.rows.live 293) (st.rows.live 38) (st.rows.live 49) (st.rows.live 60) (st.rows.live 71) (st.rows.live 82) (st.rows.live 93) (st.rows.live 104) (st.rows.live 115) (st.rows.live 126) (st.rows.live 137) (st.rows.live 148) (st.rows.live 159) (st.rows.live 170) (st.rows.live 181) (st.rows.live 192) (st.rows.live 203) (st.rows.live 214) (st.rows.live 225) (st.rows.live 236) (st.rows.live 247) (st.rows.live 258) (st.rows.live 269) (st.rows.live 280) (st.rows.live 291) st.rows.length F) F = (AV.nils = AV.nils /\ AV.sl false 32 0 1 Cp.no = AV.sl false 32 0 1 Cp.no /\ AV.sl false 34 0 2 Cp.no = AV.sl false 34 0 2 Cp.no /\ AV.sl false 36 0 3 Cp.no = AV.sl false 36 0 3 Cp.no /\ AV.nils = AV.nils /\ AV.sl false 43 0 1 Cp.no = AV.sl false 43 0 1 Cp.no /\ AV.sl false 45 0 2 Cp.no = AV.sl false 45 0 2 Cp.no /\ AV.sl false 47 0 3 Cp.no = AV.sl false 47 0 3 Cp.no /\ AV.nils = AV.nils /\ AV.sl false 54 0 1 Cp.no = AV.sl false 54 0 1 Cp.no /\ AV.sl false 56 0 2 Cp.no = AV.sl false 56 0 2 Cp.no /\ AV.sl false 58 0 3 Cp.no = AV.sl false 58 0 3 Cp.no /\ AV.nils = AV.nils /\ AV.sl false 65 0 1 Cp.no = AV.sl false 65 0 1 Cp.no /\ AV.sl false 67 0 2 Cp.no = AV.sl false 67 0 2 Cp.no /\ AV.sl false 69 0 3 Cp.no = AV.sl false 69 0 3 Cp.no /\ AV.nils = AV.nils /\ AV.sl false 76 0 1 Cp.no = AV.sl false 76 0 1 Cp.no /\ AV.sl false 78 0 2 Cp.no = AV.sl false 78 0 2 Cp.no /\ AV.sl false 80 0 3 Cp.no = AV.sl false 80 0 3 Cp.no /\ AV.nils = AV.nils /\ AV.sl false 87 0 1 Cp.no = AV.sl false 87 0 1 Cp.no /\ AV.sl false 89 0 2 Cp.no = AV.sl false 89 0 2 Cp.no /\ AV.sl false 91 0 3 Cp.no = AV.sl false 91 0 3 Cp.no /\ AV.nils = AV.nils /\ AV.sl false 98 0 1 Cp.no = AV.sl false 98 0 1 Cp.no /\ AV.sl false 100 0 2 Cp.no = AV.sl false 100 0 2 Cp.no /\ AV.sl false 102 0 3 Cp.no = AV.sl false 102 0 3 Cp.no /\ AV.nils = AV.nils /\ AV.sl false 109 0 1 Cp.no = AV.sl false 109 0 1 Cp.no /\ AV.sl false 111 0 2 Cp.no = AV.sl false 111 0 2 Cp.no /\ AV.sl false 113 0 3 Cp.no = AV.sl false 113 0 3 Cp.no /\ AV.nils = AV.nils /\ AV.sl false 120 0 1 Cp.no = AV.sl false 120 0 1 Cp.no /\ AV.sl false 122 0 2 Cp.no = AV.sl false 122 0 2 Cp.no /\ AV.sl false 124 0 3 Cp.no = AV.sl false 124 0 3 Cp.no /\ AV.nils = AV.nils /\ AV.sl false 131 0 1 Cp.no = AV.sl false 131 0 1 Cp.no /\ AV.sl false 133 0 2 Cp.no = AV.sl false 133 0 2 Cp.no /\ AV.sl false 135 0 3 Cp.no = AV.sl false 135 0 3 Cp.no /\ AV.nils = AV.nils /\ AV.sl false 142 0 1 Cp.no = AV.sl false 142 0 1 Cp.no /\ AV.sl false 144 0 2 Cp.no = AV.sl false 144 0 2 Cp.no /\ AV.sl false 146 0 3 Cp.no = AV.sl false 146 0 3 Cp.no /\ AV.nils = AV.nils /\ AV.sl false 153 0 1 Cp.no = AV.sl false 153 0 1 Cp.no /\ AV.sl false 155 0 2 Cp.no = AV.sl false 155 0 2 Cp.no /\ AV.sl false 157 0 3 Cp.no = AV.sl false 157 0 3 Cp.no /\ AV.nils = AV.nils /\ AV.sl false 164 0 1 Cp.no = AV.sl false 164 0 1 Cp.no /\ AV.sl false 166 0 2 Cp.no = AV.sl false 166 0 2 Cp.no /\ AV.sl false 168 0 3 Cp.no = AV.sl false 168 0 3 Cp.no /\ AV.nils = AV.nils /\ AV.sl false 175 0 1 Cp.no = AV.sl false 175 0 1 Cp.no /\ AV.sl false 177 0 2 Cp.no = AV.sl false 177 0 2 Cp.no /\ AV.sl false 179 0 3 Cp.no = AV.sl false 179 0 3 Cp.no /\ AV.nils = AV.nils /\ AV.sl false 186 0 1 Cp.no = AV.sl false 186 0 1 Cp.no /\ AV.sl false 188 0 2 Cp.no = AV.sl false 188 0 2 Cp.no /\ AV.sl false 190 0 3 Cp.no = AV.sl false 190 0 3 Cp.no /\ AV.nils = AV.nils /\ AV.sl false 197 0 1 Cp.no = AV.sl false 197 0 1 Cp.no /\ AV.sl false 199 0 2 Cp.no = AV.sl false 199 0 2 Cp.no /\ AV.sl false 201 0 3 Cp.no = AV.sl false 201 0 3 Cp.no /\ AV.nils = AV.nils /\ AV.sl false 208 0 1 Cp.no = AV.sl false 208 0 1 Cp.no /\ AV.sl false 210 0 2 Cp.no = AV.sl false 210 0 2 Cp.no /\ AV.sl false 212 0 3 Cp.no = AV.sl false 212 0 3 Cp.no /\ AV.nils = AV.nils /\ AV.sl false 219 0 1 Cp.no = AV.sl false 219 0 1 Cp.no /\ AV.sl false 221 0 2 Cp.no = AV.sl false 221 0 2 Cp.no /\ AV.sl false 223 0 3 Cp.no = AV.sl false 223 0 3 Cp.no /\ AV.nils = AV.nils /\ AV.sl false 230 0 1 Cp.no = AV.sl false 230 0 1 Cp.no /\ AV.sl false 232 0 2 Cp.no = AV.sl false 232 0 2 Cp.no /\ AV.sl false 234 0 3 Cp.no = AV.sl false 234 0 3 Cp.no /\ AV.nils = AV.nils /\ AV.sl false 241 0 1 Cp.no = AV.sl false 241 0 1 Cp.no /\ AV.sl false 243 0 2 Cp.no = AV.sl false 243 0 2 Cp.no /\ AV.sl false 245 0 3 Cp.no = AV.sl false 245 0 3 Cp.no /\ AV.nils = AV.nils /\ AV.sl false 252 0 1 Cp.no = AV.sl false 252 0 1 Cp.no /\ AV.sl false 254 0 2 Cp.no = AV.sl false 254 0 2 Cp.no /\ AV.sl false 256 0 3 Cp.no = AV.sl false 256 0 3 Cp.no /\ AV.nils = AV.nils /\ AV.sl false 263 0 1 Cp.no = AV.sl false 263 0 1 Cp.no /\ AV.sl false 265 0 2 Cp.no = AV.sl false 265 0 2 Cp.no /\ AV.sl false 267 0 3 Cp.no = AV.sl false 267 0 3 Cp.no /\ AV.nils = AV.nils /\ AV.sl false 274 0 1 Cp.no = AV.sl false 274 0 1 Cp.no /\ AV.sl false 276 0 2 Cp.no = AV.sl false 276 0 2 Cp.no /\ AV.sl false 278 0 3 Cp.no = AV.sl false 278 0 3 Cp.no /\ AV.nils = AV.nils /\ AV.sl false 285 0 1 Cp.no = AV.sl false 285 0 1 Cp.no /\ AV.sl false 287 0 2 Cp.no = AV.sl false 287 0 2 Cp.no /\ AV.sl false 289 0 3 Cp.no = AV.sl false 289 0 3 Cp.no /\ q .normal 92 (.ptr false 1 0 0) (.ptr false 2 0 0) (some (.lst 25 3 [zV])) (some (o5r 5 [] 293 24)) (some (.lst 25 3 [.agg [.int .i64 4,.str [],.sl false 38 0 4 .no],.agg [.int .i64 4,.str [],.sl false 49 0 4 .no],.agg [.int .i64 4,.str [],.sl false 60 0 4 .no],.agg [.int .i64 4,.str [],.sl false 71 0 4 .no],.agg [.int .i64 4,.str [],.sl false 82 0 4 .no],.agg [.int .i64 4,.str [],.sl false 93 0 4 .no],.agg [.int .i64 4,.str [],.sl false 104 0 4 .no],.agg [.int .i64 4,.str [],.sl false 115 0 4 .no],.agg [.int .i64 4,.str [],.sl false 126 0 4 .no],.agg [.int .i64 4,.str [],.sl false 137 0 4 .no],.agg [.int .i64 4,.str [],.sl false 148 0 4 .no],.agg [.int .i64 4,.str [],.sl false 159 0 4 .no],.agg [.int .i64 4,.str [],.sl false 170 0 4 .no],.agg [.int .i64 4,.str [],.sl false 181 0 4 .no],.agg [.int .i64 4,.str [],.sl false 192 0 4 .no],.agg [.int .i64 4,.str [],.sl false 203 0 4 .no],.agg [.int .i64 4,.str [],.sl false 214 0 4 .no],.agg [.int .i64 4,.str [],.sl false 225 0 4 .no],.agg [.int .i64 4,.str [],.sl false 236 0 4 .no],.agg [.int .i64 4,.str [],.sl false 247 0 4 .no],.agg [.int .i64 4,.str [],.sl false 258 0 4 .no],.agg [.int .i64 4,.str [],.sl false 269 0 4 .no],.agg [.int .i64 4,.str [],.sl false 280 0 4 .no],.agg [.int .i64 4,.str [],.sl false 291 0 4 .no]])) (some (.lst 25 3 [exprV t0 x0,exprV t1 x1,exprV t2 x2,exprV t3 x3])) (some (.lst 25 3 [exprV t0 x0,exprV t1 x1,exprV t3 x3,exprV t2 x2])) (some (.lst 25 3 [exprV t0 x0,exprV t2 x2,exprV t1 x1,exprV t3 x3])) (some (.lst 25 3 [exprV t0 x0,exprV t2 x2,exprV t3 x3,exprV t1 x1])) (some (.lst 25 3 [exprV t0 x0,exprV t3 x3,exprV t1 x1,exprV t2 x2])) (some (.lst 25 3 [exprV t0 x0,exprV t3 x3,exprV t2 x2,exprV t1 x1])) (some (.lst 25 3 [exprV t1 x1,exprV t0 x0,exprV t2 x2,exprV t3 x3])) (some (.lst 25 3 [exprV t1 x1,exprV t0 x0,exprV t3 x3,exprV t2 x2])) (some (.lst 25 3 [exprV t1 x1,exprV t2 x2,exprV t0 x0,exprV t3 x3])) (some (.lst 25 3 [exprV t1 x1,exprV t2 x2,exprV t3 x3,exprV t0 x0])) (some (.lst 25 3 [exprV t1 x1,exprV t3 x3,exprV t0 x0,exprV t2 x2])) (some (.lst 25 3 [exprV t1 x1,exprV t3 x3,exprV t2 x2,exprV t0 x0])) (some (.lst 25 3 [exprV t2 x2,exprV t0 x0,exprV t1 x1,exprV t3 x3])) (some (.lst 25 3 [exprV t2 x2,exprV t0 x0,exprV t3 x3,exprV t1 x1])) (some (.lst 25 3 [exprV t2 x2,exprV t1 x1,exprV t0 x0,exprV t3 x3])) (some (.lst 25 3 [exprV t2 x2,exprV t1 x1,exprV t3 x3,exprV t0 x0])) (some (.lst 25 3 [exprV t2 x2,exprV t3 x3,exprV t0 x0,exprV t1 x1])) (some (.lst 25 3 [exprV t2 x2,exprV t3 x3,exprV t1 x1,exprV t0 x0])) (some (.lst 25 3 [exprV t3 x3,exprV t0 x0,exprV t1 x1,exprV t2 x2])) (some (.lst 25 3 [exprV t3 x3,exprV t0 x0,exprV t2 x2,exprV t1 x1])) (some (.lst 25 3 [exprV t3 x3,exprV t1 x1,exprV t0 x0,exprV t2 x2])) (some (.lst 25 3 [exprV t3 x3,exprV t1 x1,exprV t2 x2,exprV t0 x0])) (some (.lst 25 3 [exprV t3 x3,exprV t2 x2,exprV t0 x0,exprV t1 x1])) (some (.lst 25 3 [exprV t3 x3,exprV t2 x2,exprV t1 x1,exprV t0 x0])) 294 F):=by kernel_rfl
def f18_4:Nat -> Option Nat:=fun c => [0,1,2,3,293,38,49,60,71,82,93,104,115,126,137,148,159,170,181,192,203,214,225,236,247,258,269,280,291][c]?
theorem vw18_4 {t0 t1 t2 t3:Tr} {x0 x1 x2 x3:Nat} {h:Rows} (h1:h.live 1 = some (.lst 25 3 [zV])) (h2:h.live 2 = some (o5r 5 [] 293 24)) (h3:h.live 293 = (some (.lst 25 3 [.agg [.int .i64 4,.str [],.sl false 38 0 4 .no],.agg [.int .i64 4,.str [],.sl false 49 0 4 .no],.agg [.int .i64 4,.str [],.sl false 60 0 4 .no],.agg [.int .i64 4,.str [],.sl false 71 0 4 .no],.agg [.int .i64 4,.str [],.sl false 82 0 4 .no],.agg [.int .i64 4,.str [],.sl false 93 0 4 .no],.agg [.int .i64 4,.str [],.sl false 104 0 4 .no],.agg [.int .i64 4,.str [],.sl false 115 0 4 .no],.agg [.int .i64 4,.str [],.sl false 126 0 4 .no],.agg [.int .i64 4,.str [],.sl false 137 0 4 .no],.agg [.int .i64 4,.str [],.sl false 148 0 4 .no],.agg [.int .i64 4,.str [],.sl false 159 0 4 .no],.agg [.int .i64 4,.str [],.sl false 170 0 4 .no],.agg [.int .i64 4,.str [],.sl false 181 0 4 .no],.agg [.int .i64 4,.str [],.sl false 192 0 4 .no],.agg [.int .i64 4,.str [],.sl false 203 0 4 .no],.agg [.int .i64 4,.str [],.sl false 214 0 4 .no],.agg [.int .i64 4,.str [],.sl false 225 0 4 .no],.agg [.int .i64 4,.str [],.sl false 236 0 4 .no],.agg [.int .i64 4,.str [],.sl false 247 0 4 .no],.agg [.int .i64 4,.str [],.sl false 258 0 4 .no],.agg [.int .i64 4,.str [],.sl false 269 0 4 .no],.agg [.int .i64 4,.str [],.sl false 280 0 4 .no],.agg [.int .i64 4,.str [],.sl false 291 0 4 .no]]))) (h4:h.live 38 = (some (.lst 25 3 [exprV t0 x0,exprV t1 x1,exprV t2 x2,exprV t3 x3]))) (h5:h.live 49 = (some (.lst 25 3 [exprV t0 x0,exprV t1 x1,exprV t3 x3,exprV t2 x2]))) (h6:h.live 60 = (some (.lst 25 3 [exprV t0 x0,exprV t2 x2,exprV t1 x1,exprV t3 x3]))) (h7:h.live 71 = (some (.lst 25 3 [exprV t0 x0,exprV t2 x2,exprV t3 x3,exprV t1 x1]))) (h8:h.live 82 = (some (.lst 25 3 [exprV t0 x0,exprV t3 x3,exprV t1 x1,exprV t2 x2]))) (h9:h.live 93 = (some (.lst 25 3 [exprV t0 x0,exprV t3 x3,exprV t2 x2,exprV t1 x1]))) (h10:h.live 104 = (some (.lst 25 3 [exprV t1 x1,exprV t0 x0,exprV t2 x2,exprV t3 x3]))) (h11:h.live 115 = (some (.lst 25 3 [exprV t1 x1,exprV t0 x0,exprV t3 x3,exprV t2 x2]))) (h12:h.live 126 = (some (.lst 25 3 [exprV t1 x1,exprV t2 x2,exprV t0 x0,exprV t3 x3]))) (h13:h.live 137 = (some (.lst 25 3 [exprV t1 x1,exprV t2 x2,exprV t3 x3,exprV t0 x0]))) (h14:h.live 148 = (some (.lst 25 3 [exprV t1 x1,exprV t3 x3,exprV t0 x0,exprV t2 x2]))) (h15:h.live 159 = (some (.lst 25 3 [exprV t1 x1,exprV t3 x3,exprV t2 x2,exprV t0 x0]))) (h16:h.live 170 = (some (.lst 25 3 [exprV t2 x2,exprV t0 x0,exprV t1 x1,exprV t3 x3]))) (h17:h.live 181 = (some (.lst 25 3 [exprV t2 x2,exprV t0 x0,exprV t3 x3,exprV t1 x1]))) (h18:h.live 192 = (some (.lst 25 3 [exprV t2 x2,exprV t1 x1,exprV t0 x0,exprV t3 x3]))) (h19:h.live 203 = (some (.lst 25 3 [exprV t2 x2,exprV t1 x1,exprV t3 x3,exprV t0 x0]))) (h20:h.live 214 = (some (.lst 25 3 [exprV t2 x2,exprV t3 x3,exprV t0 x0,exprV t1 x1]))) (h21:h.live 225 = (some (.lst 25 3 [exprV t2 x2,exprV t3 x3,exprV t1 x1,exprV t0 x0]))) (h22:h.live 236 = (some (.lst 25 3 [exprV t3 x3,exprV t0 x0,exprV t1 x1,exprV t2 x2]))) (h23:h.live 247 = (some (.lst 25 3 [exprV t3 x3,exprV t0 x0,exprV t2 x2,exprV t1 x1]))) (h24:h.live 258 = (some (.lst 25 3 [exprV t3 x3,exprV t1 x1,exprV t0 x0,exprV t2 x2]))) (h25:h.live 269 = (some (.lst 25 3 [exprV t3 x3,exprV t1 x1,exprV t2 x2,exprV t0 x0]))) (h26:h.live 280 = (some (.lst 25 3 [exprV t3 x3,exprV t2 x2,exprV t0 x0,exprV t1 x1]))) (h27:h.live 291 = (some (.lst 25 3 [exprV t3 x3,exprV t2 x2,exprV t1 x1,exprV t0 x0]))):ViewW f18_4 [none,some (.lst 25 3 [zV]),some (o5r 5 [] 4 24),none,some (.lst 25 3 [.agg [.int .i64 4,.str [],.sl false 5 0 4 .no],.agg [.int .i64 4,.str [],.sl false 6 0 4 .no],.agg [.int .i64 4,.str [],.sl false 7 0 4 .no],.agg [.int .i64 4,.str [],.sl false 8 0 4 .no],.agg [.int .i64 4,.str [],.sl false 9 0 4 .no],.agg [.int .i64 4,.str [],.sl false 10 0 4 .no],.agg [.int .i64 4,.str [],.sl false 11 0 4 .no],.agg [.int .i64 4,.str [],.sl false 12 0 4 .no],.agg [.int .i64 4,.str [],.sl false 13 0 4 .no],.agg [.int .i64 4,.str [],.sl false 14 0 4 .no],.agg [.int .i64 4,.str [],.sl false 15 0 4 .no],.agg [.int .i64 4,.str [],.sl false 16 0 4 .no],.agg [.int .i64 4,.str [],.sl false 17 0 4 .no],.agg [.int .i64 4,.str [],.sl false 18 0 4 .no],.agg [.int .i64 4,.str [],.sl false 19 0 4 .no],.agg [.int .i64 4,.str [],.sl false 20 0 4 .no],.agg [.int .i64 4,.str [],.sl false 21 0 4 .no],.agg [.int .i64 4,.str [],.sl false 22 0 4 .no],.agg [.int .i64 4,.str [],.sl false 23 0 4 .no],.agg [.int .i64 4,.str [],.sl false 24 0 4 .no],.agg [.int .i64 4,.str [],.sl false 25 0 4 .no],.agg [.int .i64 4,.str [],.sl false 26 0 4 .no],.agg [.int .i64 4,.str [],.sl false 27 0 4 .no],.agg [.int .i64 4,.str [],.sl false 28 0 4 .no]]),some (krow [(t0,x0),(t1,x1),(t2,x2),(t3,x3)]),some (krow [(t0,x0),(t1,x1),(t3,x3),(t2,x2)]),some (krow [(t0,x0),(t2,x2),(t1,x1),(t3,x3)]),some (krow [(t0,x0),(t2,x2),(t3,x3),(t1,x1)]),some (krow [(t0,x0),(t3,x3),(t1,x1),(t2,x2)]),some (krow [(t0,x0),(t3,x3),(t2,x2),(t1,x1)]),some (krow [(t1,x1),(t0,x0),(t2,x2),(t3,x3)]),some (krow [(t1,x1),(t0,x0),(t3,x3),(t2,x2)]),some (krow [(t1,x1),(t2,x2),(t0,x0),(t3,x3)]),some (krow [(t1,x1),(t2,x2),(t3,x3),(t0,x0)]),some (krow [(t1,x1),(t3,x3),(t0,x0),(t2,x2)]),some (krow [(t1,x1),(t3,x3),(t2,x2),(t0,x0)]),some (krow [(t2,x2),(t0,x0),(t1,x1),(t3,x3)]),some (krow [(t2,x2),(t0,x0),(t3,x3),(t1,x1)]),some (krow [(t2,x2),(t1,x1),(t0,x0),(t3,x3)]),some (krow [(t2,x2),(t1,x1),(t3,x3),(t0,x0)]),some (krow [(t2,x2),(t3,x3),(t0,x0),(t1,x1)]),some (krow [(t2,x2),(t3,x3),(t1,x1),(t0,x0)]),some (krow [(t3,x3),(t0,x0),(t1,x1),(t2,x2)]),some (krow [(t3,x3),(t0,x0),(t2,x2),(t1,x1)]),some (krow [(t3,x3),(t1,x1),(t0,x0),(t2,x2)]),some (krow [(t3,x3),(t1,x1),(t2,x2),(t0,x0)]),some (krow [(t3,x3),(t2,x2),(t0,x0),(t1,x1)]),some (krow [(t3,x3),(t2,x2),(t1,x1),(t0,x0)])] h :=
 ⟨fun c c' b r r' hc hc' e e' => inj27 (l:=[0,1,2,3,293,38,49,60,71,82,93,104,115,126,137,148,159,170,181,192,203,214,225,236,247,258,269,280,291]) (by decide) e e',fun c r hc => by
  match c with
  | 0 => cases hc
  | 1 => cases hc; exact .inl ⟨1,_,rfl,h1,(RowG.lst1' rfl rfl).vw _ _⟩
  | 2 => cases hc; exact .inl ⟨2,_,rfl,h2,o5_v rfl (by simp)⟩
  | 3 => cases hc
  | 4 => cases hc; exact .inl ⟨293,_,rfl,h3,lstV rfl (VwL.cons (Vw.aggI (VwL.cons Vw.intI (VwL.cons Vw.strI (VwL.cons (Vw.slE (by simp) rfl) VwL.nil)))) (VwL.cons (Vw.aggI (VwL.cons Vw.intI (VwL.cons Vw.strI (VwL.cons (Vw.slE (by simp) rfl) VwL.nil)))) (VwL.cons (Vw.aggI (VwL.cons Vw.intI (VwL.cons Vw.strI (VwL.cons (Vw.slE (by simp) rfl) VwL.nil)))) (VwL.cons (Vw.aggI (VwL.cons Vw.intI (VwL.cons Vw.strI (VwL.cons (Vw.slE (by simp) rfl) VwL.nil)))) (VwL.cons (Vw.aggI (VwL.cons Vw.intI (VwL.cons Vw.strI (VwL.cons (Vw.slE (by simp) rfl) VwL.nil)))) (VwL.cons (Vw.aggI (VwL.cons Vw.intI (VwL.cons Vw.strI (VwL.cons (Vw.slE (by simp) rfl) VwL.nil)))) (VwL.cons (Vw.aggI (VwL.cons Vw.intI (VwL.cons Vw.strI (VwL.cons (Vw.slE (by simp) rfl) VwL.nil)))) (VwL.cons (Vw.aggI (VwL.cons Vw.intI (VwL.cons Vw.strI (VwL.cons (Vw.slE (by simp) rfl) VwL.nil)))) (VwL.cons (Vw.aggI (VwL.cons Vw.intI (VwL.cons Vw.strI (VwL.cons (Vw.slE (by simp) rfl) VwL.nil)))) (VwL.cons (Vw.aggI (VwL.cons Vw.intI (VwL.cons Vw.strI (VwL.cons (Vw.slE (by simp) rfl) VwL.nil)))) (VwL.cons (Vw.aggI (VwL.cons Vw.intI (VwL.cons Vw.strI (VwL.cons (Vw.slE (by simp) rfl) VwL.nil)))) (VwL.cons (Vw.aggI (VwL.cons Vw.intI (VwL.cons Vw.strI (VwL.cons (Vw.slE (by simp) rfl) VwL.nil)))) (VwL.cons (Vw.aggI (VwL.cons Vw.intI (VwL.cons Vw.strI (VwL.cons (Vw.slE (by simp) rfl) VwL.nil)))) (VwL.cons (Vw.aggI (VwL.cons Vw.intI (VwL.cons Vw.strI (VwL.cons (Vw.slE (by simp) rfl) VwL.nil)))) (VwL.cons (Vw.aggI (VwL.cons Vw.intI (VwL.cons Vw.strI (VwL.cons (Vw.slE (by simp) rfl) VwL.nil)))) (VwL.cons (Vw.aggI (VwL.cons Vw.intI (VwL.cons Vw.strI (VwL.cons (Vw.slE (by simp) rfl) VwL.nil)))) (VwL.cons (Vw.aggI (VwL.cons Vw.intI (VwL.cons Vw.strI (VwL.cons (Vw.slE (by simp) rfl) VwL.nil)))) (VwL.cons (Vw.aggI (VwL.cons Vw.intI (VwL.cons Vw.strI (VwL.cons (Vw.slE (by simp) rfl) VwL.nil)))) (VwL.cons (Vw.aggI (VwL.cons Vw.intI (VwL.cons Vw.strI (VwL.cons (Vw.slE (by simp) rfl) VwL.nil)))) (VwL.cons (Vw.aggI (VwL.cons Vw.intI (VwL.cons Vw.strI (VwL.cons (Vw.slE (by simp) rfl) VwL.nil)))) (VwL.cons (Vw.aggI (VwL.cons Vw.intI (VwL.cons Vw.strI (VwL.cons (Vw.slE (by simp) rfl) VwL.nil)))) (VwL.cons (Vw.aggI (VwL.cons Vw.intI (VwL.cons Vw.strI (VwL.cons (Vw.slE (by simp) rfl) VwL.nil)))) (VwL.cons (Vw.aggI (VwL.cons Vw.intI (VwL.cons Vw.strI (VwL.cons (Vw.slE (by simp) rfl) VwL.nil)))) (VwL.cons (Vw.aggI (VwL.cons Vw.intI (VwL.cons Vw.strI (VwL.cons (Vw.slE (by simp) rfl) VwL.nil)))) (VwL.nil)))))))))))))))))))))))))⟩
  | 5 => cases hc; exact .inl ⟨38,_,rfl,h4,krow_lst [(t0,x0),(t1,x1),(t2,x2),(t3,x3)]⟩
  | 6 => cases hc; exact .inl ⟨49,_,rfl,h5,krow_lst [(t0,x0),(t1,x1),(t3,x3),(t2,x2)]⟩
  | 7 => cases hc; exact .inl ⟨60,_,rfl,h6,krow_lst [(t0,x0),(t2,x2),(t1,x1),(t3,x3)]⟩
  | 8 => cases hc; exact .inl ⟨71,_,rfl,h7,krow_lst [(t0,x0),(t2,x2),(t3,x3),(t1,x1)]⟩
  | 9 => cases hc; exact .inl ⟨82,_,rfl,h8,krow_lst [(t0,x0),(t3,x3),(t1,x1),(t2,x2)]⟩
  | 10 => cases hc; exact .inl ⟨93,_,rfl,h9,krow_lst [(t0,x0),(t3,x3),(t2,x2),(t1,x1)]⟩
  | 11 => cases hc; exact .inl ⟨104,_,rfl,h10,krow_lst [(t1,x1),(t0,x0),(t2,x2),(t3,x3)]⟩
  | 12 => cases hc; exact .inl ⟨115,_,rfl,h11,krow_lst [(t1,x1),(t0,x0),(t3,x3),(t2,x2)]⟩
  | 13 => cases hc; exact .inl ⟨126,_,rfl,h12,krow_lst [(t1,x1),(t2,x2),(t0,x0),(t3,x3)]⟩
  | 14 => cases hc; exact .inl ⟨137,_,rfl,h13,krow_lst [(t1,x1),(t2,x2),(t3,x3),(t0,x0)]⟩
  | 15 => cases hc; exact .inl ⟨148,_,rfl,h14,krow_lst [(t1,x1),(t3,x3),(t0,x0),(t2,x2)]⟩
  | 16 => cases hc; exact .inl ⟨159,_,rfl,h15,krow_lst [(t1,x1),(t3,x3),(t2,x2),(t0,x0)]⟩
  | 17 => cases hc; exact .inl ⟨170,_,rfl,h16,krow_lst [(t2,x2),(t0,x0),(t1,x1),(t3,x3)]⟩
  | 18 => cases hc; exact .inl ⟨181,_,rfl,h17,krow_lst [(t2,x2),(t0,x0),(t3,x3),(t1,x1)]⟩
  | 19 => cases hc; exact .inl ⟨192,_,rfl,h18,krow_lst [(t2,x2),(t1,x1),(t0,x0),(t3,x3)]⟩
  | 20 => cases hc; exact .inl ⟨203,_,rfl,h19,krow_lst [(t2,x2),(t1,x1),(t3,x3),(t0,x0)]⟩
  | 21 => cases hc; exact .inl ⟨214,_,rfl,h20,krow_lst [(t2,x2),(t3,x3),(t0,x0),(t1,x1)]⟩
  | 22 => cases hc; exact .inl ⟨225,_,rfl,h21,krow_lst [(t2,x2),(t3,x3),(t1,x1),(t0,x0)]⟩
  | 23 => cases hc; exact .inl ⟨236,_,rfl,h22,krow_lst [(t3,x3),(t0,x0),(t1,x1),(t2,x2)]⟩
  | 24 => cases hc; exact .inl ⟨247,_,rfl,h23,krow_lst [(t3,x3),(t0,x0),(t2,x2),(t1,x1)]⟩
  | 25 => cases hc; exact .inl ⟨258,_,rfl,h24,krow_lst [(t3,x3),(t1,x1),(t0,x0),(t2,x2)]⟩
  | 26 => cases hc; exact .inl ⟨269,_,rfl,h25,krow_lst [(t3,x3),(t1,x1),(t2,x2),(t0,x0)]⟩
  | 27 => cases hc; exact .inl ⟨280,_,rfl,h26,krow_lst [(t3,x3),(t2,x2),(t0,x0),(t1,x1)]⟩
  | 28 => cases hc; exact .inl ⟨291,_,rfl,h27,krow_lst [(t3,x3),(t2,x2),(t1,x1),(t0,x0)]⟩
  | c + 29 => simp [Rows.live] at hc⟩
theorem fz18_4 {R:RR} {t0 t1 t2 t3:Tr} {x0 x1 x2 x3:Nat} {F:Fz} {S:St -> Fz -> Prop} (hts:TAts F [(t0,x0),(t1,x1),(t2,x2),(t3,x3)]) (hS:∀ L F',L.map Prod.fst = (ords 4).map (fun o => Tr.mk 4 [] (o.map fun i => [t0,t1,t2,t3].getD i tD)) -> Up F F' -> TAts F' L -> S (famE L) F'):ToX R [] 4 ⟨tm18e,[none,some (.lst 25 3 [zV]),some (o5r 5 [] 4 24),none,some (.lst 25 3 [.agg [.int .i64 4,.str [],.sl false 5 0 4 .no],.agg [.int .i64 4,.str [],.sl false 6 0 4 .no],.agg [.int .i64 4,.str [],.sl false 7 0 4 .no],.agg [.int .i64 4,.str [],.sl false 8 0 4 .no],.agg [.int .i64 4,.str [],.sl false 9 0 4 .no],.agg [.int .i64 4,.str [],.sl false 10 0 4 .no],.agg [.int .i64 4,.str [],.sl false 11 0 4 .no],.agg [.int .i64 4,.str [],.sl false 12 0 4 .no],.agg [.int .i64 4,.str [],.sl false 13 0 4 .no],.agg [.int .i64 4,.str [],.sl false 14 0 4 .no],.agg [.int .i64 4,.str [],.sl false 15 0 4 .no],.agg [.int .i64 4,.str [],.sl false 16 0 4 .no],.agg [.int .i64 4,.str [],.sl false 17 0 4 .no],.agg [.int .i64 4,.str [],.sl false 18 0 4 .no],.agg [.int .i64 4,.str [],.sl false 19 0 4 .no],.agg [.int .i64 4,.str [],.sl false 20 0 4 .no],.agg [.int .i64 4,.str [],.sl false 21 0 4 .no],.agg [.int .i64 4,.str [],.sl false 22 0 4 .no],.agg [.int .i64 4,.str [],.sl false 23 0 4 .no],.agg [.int .i64 4,.str [],.sl false 24 0 4 .no],.agg [.int .i64 4,.str [],.sl false 25 0 4 .no],.agg [.int .i64 4,.str [],.sl false 26 0 4 .no],.agg [.int .i64 4,.str [],.sl false 27 0 4 .no],.agg [.int .i64 4,.str [],.sl false 28 0 4 .no]]),some (krow [(t0,x0),(t1,x1),(t2,x2),(t3,x3)]),some (krow [(t0,x0),(t1,x1),(t3,x3),(t2,x2)]),some (krow [(t0,x0),(t2,x2),(t1,x1),(t3,x3)]),some (krow [(t0,x0),(t2,x2),(t3,x3),(t1,x1)]),some (krow [(t0,x0),(t3,x3),(t1,x1),(t2,x2)]),some (krow [(t0,x0),(t3,x3),(t2,x2),(t1,x1)]),some (krow [(t1,x1),(t0,x0),(t2,x2),(t3,x3)]),some (krow [(t1,x1),(t0,x0),(t3,x3),(t2,x2)]),some (krow [(t1,x1),(t2,x2),(t0,x0),(t3,x3)]),some (krow [(t1,x1),(t2,x2),(t3,x3),(t0,x0)]),some (krow [(t1,x1),(t3,x3),(t0,x0),(t2,x2)]),some (krow [(t1,x1),(t3,x3),(t2,x2),(t0,x0)]),some (krow [(t2,x2),(t0,x0),(t1,x1),(t3,x3)]),some (krow [(t2,x2),(t0,x0),(t3,x3),(t1,x1)]),some (krow [(t2,x2),(t1,x1),(t0,x0),(t3,x3)]),some (krow [(t2,x2),(t1,x1),(t3,x3),(t0,x0)]),some (krow [(t2,x2),(t3,x3),(t0,x0),(t1,x1)]),some (krow [(t2,x2),(t3,x3),(t1,x1),(t0,x0)]),some (krow [(t3,x3),(t0,x0),(t1,x1),(t2,x2)]),some (krow [(t3,x3),(t0,x0),(t2,x2),(t1,x1)]),some (krow [(t3,x3),(t1,x1),(t0,x0),(t2,x2)]),some (krow [(t3,x3),(t1,x1),(t2,x2),(t0,x0)]),some (krow [(t3,x3),(t2,x2),(t0,x0),(t1,x1)]),some (krow [(t3,x3),(t2,x2),(t1,x1),(t0,x0)])]⟩ F S:=by
 refine ToX.freeze 5 (r:=krow [(t0,x0),(t1,x1),(t2,x2),(t3,x3)]) (by kernel_rfl) (RoOf.kids [(t0,x0),(t1,x1),(t2,x2),(t3,x3)]) fun F0 y0 l0 z0 => ?_
 have c0:TAts F0 [(t0,x0),(t1,x1),(t2,x2),(t3,x3)]:=hts.le ⟨l0⟩
 have a0:TAts F0 [(.mk 4 [] [t0,t1,t2,t3],y0)]:=TAts.snoc (l:=[]) ⟨fun p hp => by cases hp⟩ ⟨IsT.of (k:=4) (w:=[]) [(t0,x0),(t1,x1),(t2,x2),(t3,x3)] z0 (TAts.pick c0 (by intro p hp; simp only [List.mem_cons,List.not_mem_nil,or_false] at hp ⊢; rcases hp with rfl | rfl | rfl | rfl <;> simp)).is⟩
 have u0:Up F F0:=⟨l0⟩
 refine ToX.freeze 6 (r:=krow [(t0,x0),(t1,x1),(t3,x3),(t2,x2)]) (by kernel_rfl) (RoOf.kids [(t0,x0),(t1,x1),(t3,x3),(t2,x2)]) fun F1 y1 l1 z1 => ?_
 have c1:TAts F1 [(t0,x0),(t1,x1),(t2,x2),(t3,x3)]:=c0.le ⟨l1⟩
 have a1:TAts F1 [(.mk 4 [] [t0,t1,t2,t3],y0),(.mk 4 [] [t0,t1,t3,t2],y1)]:=(a0.le ⟨l1⟩).snoc ⟨IsT.of (k:=4) (w:=[]) [(t0,x0),(t1,x1),(t3,x3),(t2,x2)] z1 (TAts.pick c1 (by intro p hp; simp only [List.mem_cons,List.not_mem_nil,or_false] at hp ⊢; rcases hp with rfl | rfl | rfl | rfl <;> simp)).is⟩
 have u1:Up F F1:=u0.trans ⟨l1⟩
 refine ToX.freeze 7 (r:=krow [(t0,x0),(t2,x2),(t1,x1),(t3,x3)]) (by kernel_rfl) (RoOf.kids [(t0,x0),(t2,x2),(t1,x1),(t3,x3)]) fun F2 y2 l2 z2 => ?_
 have c2:TAts F2 [(t0,x0),(t1,x1),(t2,x2),(t3,x3)]:=c1.le ⟨l2⟩
 have a2:TAts F2 [(.mk 4 [] [t0,t1,t2,t3],y0),(.mk 4 [] [t0,t1,t3,t2],y1),(.mk 4 [] [t0,t2,t1,t3],y2)]:=(a1.le ⟨l2⟩).snoc ⟨IsT.of (k:=4) (w:=[]) [(t0,x0),(t2,x2),(t1,x1),(t3,x3)] z2 (TAts.pick c2 (by intro p hp; simp only [List.mem_cons,List.not_mem_nil,or_false] at hp ⊢; rcases hp with rfl | rfl | rfl | rfl <;> simp)).is⟩
 have u2:Up F F2:=u1.trans ⟨l2⟩
 refine ToX.freeze 8 (r:=krow [(t0,x0),(t2,x2),(t3,x3),(t1,x1)]) (by kernel_rfl) (RoOf.kids [(t0,x0),(t2,x2),(t3,x3),(t1,x1)]) fun F3 y3 l3 z3 => ?_
 have c3:TAts F3 [(t0,x0),(t1,x1),(t2,x2),(t3,x3)]:=c2.le ⟨l3⟩
 have a3:TAts F3 [(.mk 4 [] [t0,t1,t2,t3],y0),(.mk 4 [] [t0,t1,t3,t2],y1),(.mk 4 [] [t0,t2,t1,t3],y2),(.mk 4 [] [t0,t2,t3,t1],y3)]:=(a2.le ⟨l3⟩).snoc ⟨IsT.of (k:=4) (w:=[]) [(t0,x0),(t2,x2),(t3,x3),(t1,x1)] z3 (TAts.pick c3 (by intro p hp; simp only [List.mem_cons,List.not_mem_nil,or_false] at hp ⊢; rcases hp with rfl | rfl | rfl | rfl <;> simp)).is⟩
 have u3:Up F F3:=u2.trans ⟨l3⟩
 refine ToX.freeze 9 (r:=krow [(t0,x0),(t3,x3),(t1,x1),(t2,x2)]) (by kernel_rfl) (RoOf.kids [(t0,x0),(t3,x3),(t1,x1),(t2,x2)]) fun F4 y4 l4 z4 => ?_
 have c4:TAts F4 [(t0,x0),(t1,x1),(t2,x2),(t3,x3)]:=c3.le ⟨l4⟩
 have a4:TAts F4 [(.mk 4 [] [t0,t1,t2,t3],y0),(.mk 4 [] [t0,t1,t3,t2],y1),(.mk 4 [] [t0,t2,t1,t3],y2),(.mk 4 [] [t0,t2,t3,t1],y3),(.mk 4 [] [t0,t3,t1,t2],y4)]:=(a3.le ⟨l4⟩).snoc ⟨IsT.of (k:=4) (w:=[]) [(t0,x0),(t3,x3),(t1,x1),(t2,x2)] z4 (TAts.pick c4 (by intro p hp; simp only [List.mem_cons,List.not_mem_nil,or_false] at hp ⊢; rcases hp with rfl | rfl | rfl | rfl <;> simp)).is⟩
 have u4:Up F F4:=u3.trans ⟨l4⟩
 refine ToX.freeze 10 (r:=krow [(t0,x0),(t3,x3),(t2,x2),(t1,x1)]) (by kernel_rfl) (RoOf.kids [(t0,x0),(t3,x3),(t2,x2),(t1,x1)]) fun F5 y5 l5 z5 => ?_
 have c5:TAts F5 [(t0,x0),(t1,x1),(t2,x2),(t3,x3)]:=c4.le ⟨l5⟩
 have a5:TAts F5 [(.mk 4 [] [t0,t1,t2,t3],y0),(.mk 4 [] [t0,t1,t3,t2],y1),(.mk 4 [] [t0,t2,t1,t3],y2),(.mk 4 [] [t0,t2,t3,t1],y3),(.mk 4 [] [t0,t3,t1,t2],y4),(.mk 4 [] [t0,t3,t2,t1],y5)]:=(a4.le ⟨l5⟩).snoc ⟨IsT.of (k:=4) (w:=[]) [(t0,x0),(t3,x3),(t2,x2),(t1,x1)] z5 (TAts.pick c5 (by intro p hp; simp only [List.mem_cons,List.not_mem_nil,or_false] at hp ⊢; rcases hp with rfl | rfl | rfl | rfl <;> simp)).is⟩
 have u5:Up F F5:=u4.trans ⟨l5⟩
 refine ToX.freeze 11 (r:=krow [(t1,x1),(t0,x0),(t2,x2),(t3,x3)]) (by kernel_rfl) (RoOf.kids [(t1,x1),(t0,x0),(t2,x2),(t3,x3)]) fun F6 y6 l6 z6 => ?_
 have c6:TAts F6 [(t0,x0),(t1,x1),(t2,x2),(t3,x3)]:=c5.le ⟨l6⟩
 have a6:TAts F6 [(.mk 4 [] [t0,t1,t2,t3],y0),(.mk 4 [] [t0,t1,t3,t2],y1),(.mk 4 [] [t0,t2,t1,t3],y2),(.mk 4 [] [t0,t2,t3,t1],y3),(.mk 4 [] [t0,t3,t1,t2],y4),(.mk 4 [] [t0,t3,t2,t1],y5),(.mk 4 [] [t1,t0,t2,t3],y6)]:=(a5.le ⟨l6⟩).snoc ⟨IsT.of (k:=4) (w:=[]) [(t1,x1),(t0,x0),(t2,x2),(t3,x3)] z6 (TAts.pick c6 (by intro p hp; simp only [List.mem_cons,List.not_mem_nil,or_false] at hp ⊢; rcases hp with rfl | rfl | rfl | rfl <;> simp)).is⟩
 have u6:Up F F6:=u5.trans ⟨l6⟩
 refine ToX.freeze 12 (r:=krow [(t1,x1),(t0,x0),(t3,x3),(t2,x2)]) (by kernel_rfl) (RoOf.kids [(t1,x1),(t0,x0),(t3,x3),(t2,x2)]) fun F7 y7 l7 z7 => ?_
 have c7:TAts F7 [(t0,x0),(t1,x1),(t2,x2),(t3,x3)]:=c6.le ⟨l7⟩
 have a7:TAts F7 [(.mk 4 [] [t0,t1,t2,t3],y0),(.mk 4 [] [t0,t1,t3,t2],y1),(.mk 4 [] [t0,t2,t1,t3],y2),(.mk 4 [] [t0,t2,t3,t1],y3),(.mk 4 [] [t0,t3,t1,t2],y4),(.mk 4 [] [t0,t3,t2,t1],y5),(.mk 4 [] [t1,t0,t2,t3],y6),(.mk 4 [] [t1,t0,t3,t2],y7)]:=(a6.le ⟨l7⟩).snoc ⟨IsT.of (k:=4) (w:=[]) [(t1,x1),(t0,x0),(t3,x3),(t2,x2)] z7 (TAts.pick c7 (by intro p hp; simp only [List.mem_cons,List.not_mem_nil,or_false] at hp ⊢; rcases hp with rfl | rfl | rfl | rfl <;> simp)).is⟩
 have u7:Up F F7:=u6.trans ⟨l7⟩
 refine ToX.freeze 13 (r:=krow [(t1,x1),(t2,x2),(t0,x0),(t3,x3)]) (by kernel_rfl) (RoOf.kids [(t1,x1),(t2,x2),(t0,x0),(t3,x3)]) fun F8 y8 l8 z8 => ?_
 have c8:TAts F8 [(t0,x0),(t1,x1),(t2,x2),(t3,x3)]:=c7.le ⟨l8⟩
 have a8:TAts F8 [(.mk 4 [] [t0,t1,t2,t3],y0),(.mk 4 [] [t0,t1,t3,t2],y1),(.mk 4 [] [t0,t2,t1,t3],y2),(.mk 4 [] [t0,t2,t3,t1],y3),(.mk 4 [] [t0,t3,t1,t2],y4),(.mk 4 [] [t0,t3,t2,t1],y5),(.mk 4 [] [t1,t0,t2,t3],y6),(.mk 4 [] [t1,t0,t3,t2],y7),(.mk 4 [] [t1,t2,t0,t3],y8)]:=(a7.le ⟨l8⟩).snoc ⟨IsT.of (k:=4) (w:=[]) [(t1,x1),(t2,x2),(t0,x0),(t3,x3)] z8 (TAts.pick c8 (by intro p hp; simp only [List.mem_cons,List.not_mem_nil,or_false] at hp ⊢; rcases hp with rfl | rfl | rfl | rfl <;> simp)).is⟩
 have u8:Up F F8:=u7.trans ⟨l8⟩
 refine ToX.freeze 14 (r:=krow [(t1,x1),(t2,x2),(t3,x3),(t0,x0)]) (by kernel_rfl) (RoOf.kids [(t1,x1),(t2,x2),(t3,x3),(t0,x0)]) fun F9 y9 l9 z9 => ?_
 have c9:TAts F9 [(t0,x0),(t1,x1),(t2,x2),(t3,x3)]:=c8.le ⟨l9⟩
 have a9:TAts F9 [(.mk 4 [] [t0,t1,t2,t3],y0),(.mk 4 [] [t0,t1,t3,t2],y1),(.mk 4 [] [t0,t2,t1,t3],y2),(.mk 4 [] [t0,t2,t3,t1],y3),(.mk 4 [] [t0,t3,t1,t2],y4),(.mk 4 [] [t0,t3,t2,t1],y5),(.mk 4 [] [t1,t0,t2,t3],y6),(.mk 4 [] [t1,t0,t3,t2],y7),(.mk 4 [] [t1,t2,t0,t3],y8),(.mk 4 [] [t1,t2,t3,t0],y9)]:=(a8.le ⟨l9⟩).snoc ⟨IsT.of (k:=4) (w:=[]) [(t1,x1),(t2,x2),(t3,x3),(t0,x0)] z9 (TAts.pick c9 (by intro p hp; simp only [List.mem_cons,List.not_mem_nil,or_false] at hp ⊢; rcases hp with rfl | rfl | rfl | rfl <;> simp)).is⟩
 have u9:Up F F9:=u8.trans ⟨l9⟩
 refine ToX.freeze 15 (r:=krow [(t1,x1),(t3,x3),(t0,x0),(t2,x2)]) (by kernel_rfl) (RoOf.kids [(t1,x1),(t3,x3),(t0,x0),(t2,x2)]) fun F10 y10 l10 z10 => ?_
 have c10:TAts F10 [(t0,x0),(t1,x1),(t2,x2),(t3,x3)]:=c9.le ⟨l10⟩
 have a10:TAts F10 [(.mk 4 [] [t0,t1,t2,t3],y0),(.mk 4 [] [t0,t1,t3,t2],y1),(.mk 4 [] [t0,t2,t1,t3],y2),(.mk 4 [] [t0,t2,t3,t1],y3),(.mk 4 [] [t0,t3,t1,t2],y4),(.mk 4 [] [t0,t3,t2,t1],y5),(.mk 4 [] [t1,t0,t2,t3],y6),(.mk 4 [] [t1,t0,t3,t2],y7),(.mk 4 [] [t1,t2,t0,t3],y8),(.mk 4 [] [t1,t2,t3,t0],y9),(.mk 4 [] [t1,t3,t0,t2],y10)]:=(a9.le ⟨l10⟩).snoc ⟨IsT.of (k:=4) (w:=[]) [(t1,x1),(t3,x3),(t0,x0),(t2,x2)] z10 (TAts.pick c10 (by intro p hp; simp only [List.mem_cons,List.not_mem_nil,or_false] at hp ⊢; rcases hp with rfl | rfl | rfl | rfl <;> simp)).is⟩
 have u10:Up F F10:=u9.trans ⟨l10⟩
 refine ToX.freeze 16 (r:=krow [(t1,x1),(t3,x3),(t2,x2),(t0,x0)]) (by kernel_rfl) (RoOf.kids [(t1,x1),(t3,x3),(t2,x2),(t0,x0)]) fun F11 y11 l11 z11 => ?_
 have c11:TAts F11 [(t0,x0),(t1,x1),(t2,x2),(t3,x3)]:=c10.le ⟨l11⟩
 have a11:TAts F11 [(.mk 4 [] [t0,t1,t2,t3],y0),(.mk 4 [] [t0,t1,t3,t2],y1),(.mk 4 [] [t0,t2,t1,t3],y2),(.mk 4 [] [t0,t2,t3,t1],y3),(.mk 4 [] [t0,t3,t1,t2],y4),(.mk 4 [] [t0,t3,t2,t1],y5),(.mk 4 [] [t1,t0,t2,t3],y6),(.mk 4 [] [t1,t0,t3,t2],y7),(.mk 4 [] [t1,t2,t0,t3],y8),(.mk 4 [] [t1,t2,t3,t0],y9),(.mk 4 [] [t1,t3,t0,t2],y10),(.mk 4 [] [t1,t3,t2,t0],y11)]:=(a10.le ⟨l11⟩).snoc ⟨IsT.of (k:=4) (w:=[]) [(t1,x1),(t3,x3),(t2,x2),(t0,x0)] z11 (TAts.pick c11 (by intro p hp; simp only [List.mem_cons,List.not_mem_nil,or_false] at hp ⊢; rcases hp with rfl | rfl | rfl | rfl <;> simp)).is⟩
 have u11:Up F F11:=u10.trans ⟨l11⟩
 refine ToX.freeze 17 (r:=krow [(t2,x2),(t0,x0),(t1,x1),(t3,x3)]) (by kernel_rfl) (RoOf.kids [(t2,x2),(t0,x0),(t1,x1),(t3,x3)]) fun F12 y12 l12 z12 => ?_
 have c12:TAts F12 [(t0,x0),(t1,x1),(t2,x2),(t3,x3)]:=c11.le ⟨l12⟩
 have a12:TAts F12 [(.mk 4 [] [t0,t1,t2,t3],y0),(.mk 4 [] [t0,t1,t3,t2],y1),(.mk 4 [] [t0,t2,t1,t3],y2),(.mk 4 [] [t0,t2,t3,t1],y3),(.mk 4 [] [t0,t3,t1,t2],y4),(.mk 4 [] [t0,t3,t2,t1],y5),(.mk 4 [] [t1,t0,t2,t3],y6),(.mk 4 [] [t1,t0,t3,t2],y7),(.mk 4 [] [t1,t2,t0,t3],y8),(.mk 4 [] [t1,t2,t3,t0],y9),(.mk 4 [] [t1,t3,t0,t2],y10),(.mk 4 [] [t1,t3,t2,t0],y11),(.mk 4 [] [t2,t0,t1,t3],y12)]:=(a11.le ⟨l12⟩).snoc ⟨IsT.of (k:=4) (w:=[]) [(t2,x2),(t0,x0),(t1,x1),(t3,x3)] z12 (TAts.pick c12 (by intro p hp; simp only [List.mem_cons,List.not_mem_nil,or_false] at hp ⊢; rcases hp with rfl | rfl | rfl | rfl <;> simp)).is⟩
 have u12:Up F F12:=u11.trans ⟨l12⟩
 refine ToX.freeze 18 (r:=krow [(t2,x2),(t0,x0),(t3,x3),(t1,x1)]) (by kernel_rfl) (RoOf.kids [(t2,x2),(t0,x0),(t3,x3),(t1,x1)]) fun F13 y13 l13 z13 => ?_
 have c13:TAts F13 [(t0,x0),(t1,x1),(t2,x2),(t3,x3)]:=c12.le ⟨l13⟩
 have a13:TAts F13 [(.mk 4 [] [t0,t1,t2,t3],y0),(.mk 4 [] [t0,t1,t3,t2],y1),(.mk 4 [] [t0,t2,t1,t3],y2),(.mk 4 [] [t0,t2,t3,t1],y3),(.mk 4 [] [t0,t3,t1,t2],y4),(.mk 4 [] [t0,t3,t2,t1],y5),(.mk 4 [] [t1,t0,t2,t3],y6),(.mk 4 [] [t1,t0,t3,t2],y7),(.mk 4 [] [t1,t2,t0,t3],y8),(.mk 4 [] [t1,t2,t3,t0],y9),(.mk 4 [] [t1,t3,t0,t2],y10),(.mk 4 [] [t1,t3,t2,t0],y11),(.mk 4 [] [t2,t0,t1,t3],y12),(.mk 4 [] [t2,t0,t3,t1],y13)]:=(a12.le ⟨l13⟩).snoc ⟨IsT.of (k:=4) (w:=[]) [(t2,x2),(t0,x0),(t3,x3),(t1,x1)] z13 (TAts.pick c13 (by intro p hp; simp only [List.mem_cons,List.not_mem_nil,or_false] at hp ⊢; rcases hp with rfl | rfl | rfl | rfl <;> simp)).is⟩
 have u13:Up F F13:=u12.trans ⟨l13⟩
 refine ToX.freeze 19 (r:=krow [(t2,x2),(t1,x1),(t0,x0),(t3,x3)]) (by kernel_rfl) (RoOf.kids [(t2,x2),(t1,x1),(t0,x0),(t3,x3)]) fun F14 y14 l14 z14 => ?_
 have c14:TAts F14 [(t0,x0),(t1,x1),(t2,x2),(t3,x3)]:=c13.le ⟨l14⟩
 have a14:TAts F14 [(.mk 4 [] [t0,t1,t2,t3],y0),(.mk 4 [] [t0,t1,t3,t2],y1),(.mk 4 [] [t0,t2,t1,t3],y2),(.mk 4 [] [t0,t2,t3,t1],y3),(.mk 4 [] [t0,t3,t1,t2],y4),(.mk 4 [] [t0,t3,t2,t1],y5),(.mk 4 [] [t1,t0,t2,t3],y6),(.mk 4 [] [t1,t0,t3,t2],y7),(.mk 4 [] [t1,t2,t0,t3],y8),(.mk 4 [] [t1,t2,t3,t0],y9),(.mk 4 [] [t1,t3,t0,t2],y10),(.mk 4 [] [t1,t3,t2,t0],y11),(.mk 4 [] [t2,t0,t1,t3],y12),(.mk 4 [] [t2,t0,t3,t1],y13),(.mk 4 [] [t2,t1,t0,t3],y14)]:=(a13.le ⟨l14⟩).snoc ⟨IsT.of (k:=4) (w:=[]) [(t2,x2),(t1,x1),(t0,x0),(t3,x3)] z14 (TAts.pick c14 (by intro p hp; simp only [List.mem_cons,List.not_mem_nil,or_false] at hp ⊢; rcases hp with rfl | rfl | rfl | rfl <;> simp)).is⟩
 have u14:Up F F14:=u13.trans ⟨l14⟩
 refine ToX.freeze 20 (r:=krow [(t2,x2),(t1,x1),(t3,x3),(t0,x0)]) (by kernel_rfl) (RoOf.kids [(t2,x2),(t1,x1),(t3,x3),(t0,x0)]) fun F15 y15 l15 z15 => ?_
 have c15:TAts F15 [(t0,x0),(t1,x1),(t2,x2),(t3,x3)]:=c14.le ⟨l15⟩
 have a15:TAts F15 [(.mk 4 [] [t0,t1,t2,t3],y0),(.mk 4 [] [t0,t1,t3,t2],y1),(.mk 4 [] [t0,t2,t1,t3],y2),(.mk 4 [] [t0,t2,t3,t1],y3),(.mk 4 [] [t0,t3,t1,t2],y4),(.mk 4 [] [t0,t3,t2,t1],y5),(.mk 4 [] [t1,t0,t2,t3],y6),(.mk 4 [] [t1,t0,t3,t2],y7),(.mk 4 [] [t1,t2,t0,t3],y8),(.mk 4 [] [t1,t2,t3,t0],y9),(.mk 4 [] [t1,t3,t0,t2],y10),(.mk 4 [] [t1,t3,t2,t0],y11),(.mk 4 [] [t2,t0,t1,t3],y12),(.mk 4 [] [t2,t0,t3,t1],y13),(.mk 4 [] [t2,t1,t0,t3],y14),(.mk 4 [] [t2,t1,t3,t0],y15)]:=(a14.le ⟨l15⟩).snoc ⟨IsT.of (k:=4) (w:=[]) [(t2,x2),(t1,x1),(t3,x3),(t0,x0)] z15 (TAts.pick c15 (by intro p hp; simp only [List.mem_cons,List.not_mem_nil,or_false] at hp ⊢; rcases hp with rfl | rfl | rfl | rfl <;> simp)).is⟩
 have u15:Up F F15:=u14.trans ⟨l15⟩
 refine ToX.freeze 21 (r:=krow [(t2,x2),(t3,x3),(t0,x0),(t1,x1)]) (by kernel_rfl) (RoOf.kids [(t2,x2),(t3,x3),(t0,x0),(t1,x1)]) fun F16 y16 l16 z16 => ?_
 have c16:TAts F16 [(t0,x0),(t1,x1),(t2,x2),(t3,x3)]:=c15.le ⟨l16⟩
 have a16:TAts F16 [(.mk 4 [] [t0,t1,t2,t3],y0),(.mk 4 [] [t0,t1,t3,t2],y1),(.mk 4 [] [t0,t2,t1,t3],y2),(.mk 4 [] [t0,t2,t3,t1],y3),(.mk 4 [] [t0,t3,t1,t2],y4),(.mk 4 [] [t0,t3,t2,t1],y5),(.mk 4 [] [t1,t0,t2,t3],y6),(.mk 4 [] [t1,t0,t3,t2],y7),(.mk 4 [] [t1,t2,t0,t3],y8),(.mk 4 [] [t1,t2,t3,t0],y9),(.mk 4 [] [t1,t3,t0,t2],y10),(.mk 4 [] [t1,t3,t2,t0],y11),(.mk 4 [] [t2,t0,t1,t3],y12),(.mk 4 [] [t2,t0,t3,t1],y13),(.mk 4 [] [t2,t1,t0,t3],y14),(.mk 4 [] [t2,t1,t3,t0],y15),(.mk 4 [] [t2,t3,t0,t1],y16)]:=(a15.le ⟨l16⟩).snoc ⟨IsT.of (k:=4) (w:=[]) [(t2,x2),(t3,x3),(t0,x0),(t1,x1)] z16 (TAts.pick c16 (by intro p hp; simp only [List.mem_cons,List.not_mem_nil,or_false] at hp ⊢; rcases hp with rfl | rfl | rfl | rfl <;> simp)).is⟩
 have u16:Up F F16:=u15.trans ⟨l16⟩
 refine ToX.freeze 22 (r:=krow [(t2,x2),(t3,x3),(t1,x1),(t0,x0)]) (by kernel_rfl) (RoOf.kids [(t2,x2),(t3,x3),(t1,x1),(t0,x0)]) fun F17 y17 l17 z17 => ?_
 have c17:TAts F17 [(t0,x0),(t1,x1),(t2,x2),(t3,x3)]:=c16.le ⟨l17⟩
 have a17:TAts F17 [(.mk 4 [] [t0,t1,t2,t3],y0),(.mk 4 [] [t0,t1,t3,t2],y1),(.mk 4 [] [t0,t2,t1,t3],y2),(.mk 4 [] [t0,t2,t3,t1],y3),(.mk 4 [] [t0,t3,t1,t2],y4),(.mk 4 [] [t0,t3,t2,t1],y5),(.mk 4 [] [t1,t0,t2,t3],y6),(.mk 4 [] [t1,t0,t3,t2],y7),(.mk 4 [] [t1,t2,t0,t3],y8),(.mk 4 [] [t1,t2,t3,t0],y9),(.mk 4 [] [t1,t3,t0,t2],y10),(.mk 4 [] [t1,t3,t2,t0],y11),(.mk 4 [] [t2,t0,t1,t3],y12),(.mk 4 [] [t2,t0,t3,t1],y13),(.mk 4 [] [t2,t1,t0,t3],y14),(.mk 4 [] [t2,t1,t3,t0],y15),(.mk 4 [] [t2,t3,t0,t1],y16),(.mk 4 [] [t2,t3,t1,t0],y17)]:=(a16.le ⟨l17⟩).snoc ⟨IsT.of (k:=4) (w:=[]) [(t2,x2),(t3,x3),(t1,x1),(t0,x0)] z17 (TAts.pick c17 (by intro p hp; simp only [List.mem_cons,List.not_mem_nil,or_false] at hp ⊢; rcases hp with rfl | rfl | rfl | rfl <;> simp)).is⟩
 have u17:Up F F17:=u16.trans ⟨l17⟩
 refine ToX.freeze 23 (r:=krow [(t3,x3),(t0,x0),(t1,x1),(t2,x2)]) (by kernel_rfl) (RoOf.kids [(t3,x3),(t0,x0),(t1,x1),(t2,x2)]) fun F18 y18 l18 z18 => ?_
 have c18:TAts F18 [(t0,x0),(t1,x1),(t2,x2),(t3,x3)]:=c17.le ⟨l18⟩
 have a18:TAts F18 [(.mk 4 [] [t0,t1,t2,t3],y0),(.mk 4 [] [t0,t1,t3,t2],y1),(.mk 4 [] [t0,t2,t1,t3],y2),(.mk 4 [] [t0,t2,t3,t1],y3),(.mk 4 [] [t0,t3,t1,t2],y4),(.mk 4 [] [t0,t3,t2,t1],y5),(.mk 4 [] [t1,t0,t2,t3],y6),(.mk 4 [] [t1,t0,t3,t2],y7),(.mk 4 [] [t1,t2,t0,t3],y8),(.mk 4 [] [t1,t2,t3,t0],y9),(.mk 4 [] [t1,t3,t0,t2],y10),(.mk 4 [] [t1,t3,t2,t0],y11),(.mk 4 [] [t2,t0,t1,t3],y12),(.mk 4 [] [t2,t0,t3,t1],y13),(.mk 4 [] [t2,t1,t0,t3],y14),(.mk 4 [] [t2,t1,t3,t0],y15),(.mk 4 [] [t2,t3,t0,t1],y16),(.mk 4 [] [t2,t3,t1,t0],y17),(.mk 4 [] [t3,t0,t1,t2],y18)]:=(a17.le ⟨l18⟩).snoc ⟨IsT.of (k:=4) (w:=[]) [(t3,x3),(t0,x0),(t1,x1),(t2,x2)] z18 (TAts.pick c18 (by intro p hp; simp only [List.mem_cons,List.not_mem_nil,or_false] at hp ⊢; rcases hp with rfl | rfl | rfl | rfl <;> simp)).is⟩
 have u18:Up F F18:=u17.trans ⟨l18⟩
 refine ToX.freeze 24 (r:=krow [(t3,x3),(t0,x0),(t2,x2),(t1,x1)]) (by kernel_rfl) (RoOf.kids [(t3,x3),(t0,x0),(t2,x2),(t1,x1)]) fun F19 y19 l19 z19 => ?_
 have c19:TAts F19 [(t0,x0),(t1,x1),(t2,x2),(t3,x3)]:=c18.le ⟨l19⟩
 have a19:TAts F19 [(.mk 4 [] [t0,t1,t2,t3],y0),(.mk 4 [] [t0,t1,t3,t2],y1),(.mk 4 [] [t0,t2,t1,t3],y2),(.mk 4 [] [t0,t2,t3,t1],y3),(.mk 4 [] [t0,t3,t1,t2],y4),(.mk 4 [] [t0,t3,t2,t1],y5),(.mk 4 [] [t1,t0,t2,t3],y6),(.mk 4 [] [t1,t0,t3,t2],y7),(.mk 4 [] [t1,t2,t0,t3],y8),(.mk 4 [] [t1,t2,t3,t0],y9),(.mk 4 [] [t1,t3,t0,t2],y10),(.mk 4 [] [t1,t3,t2,t0],y11),(.mk 4 [] [t2,t0,t1,t3],y12),(.mk 4 [] [t2,t0,t3,t1],y13),(.mk 4 [] [t2,t1,t0,t3],y14),(.mk 4 [] [t2,t1,t3,t0],y15),(.mk 4 [] [t2,t3,t0,t1],y16),(.mk 4 [] [t2,t3,t1,t0],y17),(.mk 4 [] [t3,t0,t1,t2],y18),(.mk 4 [] [t3,t0,t2,t1],y19)]:=(a18.le ⟨l19⟩).snoc ⟨IsT.of (k:=4) (w:=[]) [(t3,x3),(t0,x0),(t2,x2),(t1,x1)] z19 (TAts.pick c19 (by intro p hp; simp only [List.mem_cons,List.not_mem_nil,or_false] at hp ⊢; rcases hp with rfl | rfl | rfl | rfl <;> simp)).is⟩
 have u19:Up F F19:=u18.trans ⟨l19⟩
 refine ToX.freeze 25 (r:=krow [(t3,x3),(t1,x1),(t0,x0),(t2,x2)]) (by kernel_rfl) (RoOf.kids [(t3,x3),(t1,x1),(t0,x0),(t2,x2)]) fun F20 y20 l20 z20 => ?_
 have c20:TAts F20 [(t0,x0),(t1,x1),(t2,x2),(t3,x3)]:=c19.le ⟨l20⟩
 have a20:TAts F20 [(.mk 4 [] [t0,t1,t2,t3],y0),(.mk 4 [] [t0,t1,t3,t2],y1),(.mk 4 [] [t0,t2,t1,t3],y2),(.mk 4 [] [t0,t2,t3,t1],y3),(.mk 4 [] [t0,t3,t1,t2],y4),(.mk 4 [] [t0,t3,t2,t1],y5),(.mk 4 [] [t1,t0,t2,t3],y6),(.mk 4 [] [t1,t0,t3,t2],y7),(.mk 4 [] [t1,t2,t0,t3],y8),(.mk 4 [] [t1,t2,t3,t0],y9),(.mk 4 [] [t1,t3,t0,t2],y10),(.mk 4 [] [t1,t3,t2,t0],y11),(.mk 4 [] [t2,t0,t1,t3],y12),(.mk 4 [] [t2,t0,t3,t1],y13),(.mk 4 [] [t2,t1,t0,t3],y14),(.mk 4 [] [t2,t1,t3,t0],y15),(.mk 4 [] [t2,t3,t0,t1],y16),(.mk 4 [] [t2,t3,t1,t0],y17),(.mk 4 [] [t3,t0,t1,t2],y18),(.mk 4 [] [t3,t0,t2,t1],y19),(.mk 4 [] [t3,t1,t0,t2],y20)]:=(a19.le ⟨l20⟩).snoc ⟨IsT.of (k:=4) (w:=[]) [(t3,x3),(t1,x1),(t0,x0),(t2,x2)] z20 (TAts.pick c20 (by intro p hp; simp only [List.mem_cons,List.not_mem_nil,or_false] at hp ⊢; rcases hp with rfl | rfl | rfl | rfl <;> simp)).is⟩
 have u20:Up F F20:=u19.trans ⟨l20⟩
 refine ToX.freeze 26 (r:=krow [(t3,x3),(t1,x1),(t2,x2),(t0,x0)]) (by kernel_rfl) (RoOf.kids [(t3,x3),(t1,x1),(t2,x2),(t0,x0)]) fun F21 y21 l21 z21 => ?_
 have c21:TAts F21 [(t0,x0),(t1,x1),(t2,x2),(t3,x3)]:=c20.le ⟨l21⟩
 have a21:TAts F21 [(.mk 4 [] [t0,t1,t2,t3],y0),(.mk 4 [] [t0,t1,t3,t2],y1),(.mk 4 [] [t0,t2,t1,t3],y2),(.mk 4 [] [t0,t2,t3,t1],y3),(.mk 4 [] [t0,t3,t1,t2],y4),(.mk 4 [] [t0,t3,t2,t1],y5),(.mk 4 [] [t1,t0,t2,t3],y6),(.mk 4 [] [t1,t0,t3,t2],y7),(.mk 4 [] [t1,t2,t0,t3],y8),(.mk 4 [] [t1,t2,t3,t0],y9),(.mk 4 [] [t1,t3,t0,t2],y10),(.mk 4 [] [t1,t3,t2,t0],y11),(.mk 4 [] [t2,t0,t1,t3],y12),(.mk 4 [] [t2,t0,t3,t1],y13),(.mk 4 [] [t2,t1,t0,t3],y14),(.mk 4 [] [t2,t1,t3,t0],y15),(.mk 4 [] [t2,t3,t0,t1],y16),(.mk 4 [] [t2,t3,t1,t0],y17),(.mk 4 [] [t3,t0,t1,t2],y18),(.mk 4 [] [t3,t0,t2,t1],y19),(.mk 4 [] [t3,t1,t0,t2],y20),(.mk 4 [] [t3,t1,t2,t0],y21)]:=(a20.le ⟨l21⟩).snoc ⟨IsT.of (k:=4) (w:=[]) [(t3,x3),(t1,x1),(t2,x2),(t0,x0)] z21 (TAts.pick c21 (by intro p hp; simp only [List.mem_cons,List.not_mem_nil,or_false] at hp ⊢; rcases hp with rfl | rfl | rfl | rfl <;> simp)).is⟩
 have u21:Up F F21:=u20.trans ⟨l21⟩
 refine ToX.freeze 27 (r:=krow [(t3,x3),(t2,x2),(t0,x0),(t1,x1)]) (by kernel_rfl) (RoOf.kids [(t3,x3),(t2,x2),(t0,x0),(t1,x1)]) fun F22 y22 l22 z22 => ?_
 have c22:TAts F22 [(t0,x0),(t1,x1),(t2,x2),(t3,x3)]:=c21.le ⟨l22⟩
 have a22:TAts F22 [(.mk 4 [] [t0,t1,t2,t3],y0),(.mk 4 [] [t0,t1,t3,t2],y1),(.mk 4 [] [t0,t2,t1,t3],y2),(.mk 4 [] [t0,t2,t3,t1],y3),(.mk 4 [] [t0,t3,t1,t2],y4),(.mk 4 [] [t0,t3,t2,t1],y5),(.mk 4 [] [t1,t0,t2,t3],y6),(.mk 4 [] [t1,t0,t3,t2],y7),(.mk 4 [] [t1,t2,t0,t3],y8),(.mk 4 [] [t1,t2,t3,t0],y9),(.mk 4 [] [t1,t3,t0,t2],y10),(.mk 4 [] [t1,t3,t2,t0],y11),(.mk 4 [] [t2,t0,t1,t3],y12),(.mk 4 [] [t2,t0,t3,t1],y13),(.mk 4 [] [t2,t1,t0,t3],y14),(.mk 4 [] [t2,t1,t3,t0],y15),(.mk 4 [] [t2,t3,t0,t1],y16),(.mk 4 [] [t2,t3,t1,t0],y17),(.mk 4 [] [t3,t0,t1,t2],y18),(.mk 4 [] [t3,t0,t2,t1],y19),(.mk 4 [] [t3,t1,t0,t2],y20),(.mk 4 [] [t3,t1,t2,t0],y21),(.mk 4 [] [t3,t2,t0,t1],y22)]:=(a21.le ⟨l22⟩).snoc ⟨IsT.of (k:=4) (w:=[]) [(t3,x3),(t2,x2),(t0,x0),(t1,x1)] z22 (TAts.pick c22 (by intro p hp; simp only [List.mem_cons,List.not_mem_nil,or_false] at hp ⊢; rcases hp with rfl | rfl | rfl | rfl <;> simp)).is⟩
 have u22:Up F F22:=u21.trans ⟨l22⟩
 refine ToX.freeze 28 (r:=krow [(t3,x3),(t2,x2),(t1,x1),(t0,x0)]) (by kernel_rfl) (RoOf.kids [(t3,x3),(t2,x2),(t1,x1),(t0,x0)]) fun F23 y23 l23 z23 => ?_
 have c23:TAts F23 [(t0,x0),(t1,x1),(t2,x2),(t3,x3)]:=c22.le ⟨l23⟩
 have a23:TAts F23 [(.mk 4 [] [t0,t1,t2,t3],y0),(.mk 4 [] [t0,t1,t3,t2],y1),(.mk 4 [] [t0,t2,t1,t3],y2),(.mk 4 [] [t0,t2,t3,t1],y3),(.mk 4 [] [t0,t3,t1,t2],y4),(.mk 4 [] [t0,t3,t2,t1],y5),(.mk 4 [] [t1,t0,t2,t3],y6),(.mk 4 [] [t1,t0,t3,t2],y7),(.mk 4 [] [t1,t2,t0,t3],y8),(.mk 4 [] [t1,t2,t3,t0],y9),(.mk 4 [] [t1,t3,t0,t2],y10),(.mk 4 [] [t1,t3,t2,t0],y11),(.mk 4 [] [t2,t0,t1,t3],y12),(.mk 4 [] [t2,t0,t3,t1],y13),(.mk 4 [] [t2,t1,t0,t3],y14),(.mk 4 [] [t2,t1,t3,t0],y15),(.mk 4 [] [t2,t3,t0,t1],y16),(.mk 4 [] [t2,t3,t1,t0],y17),(.mk 4 [] [t3,t0,t1,t2],y18),(.mk 4 [] [t3,t0,t2,t1],y19),(.mk 4 [] [t3,t1,t0,t2],y20),(.mk 4 [] [t3,t1,t2,t0],y21),(.mk 4 [] [t3,t2,t0,t1],y22),(.mk 4 [] [t3,t2,t1,t0],y23)]:=(a22.le ⟨l23⟩).snoc ⟨IsT.of (k:=4) (w:=[]) [(t3,x3),(t2,x2),(t1,x1),(t0,x0)] z23 (TAts.pick c23 (by intro p hp; simp only [List.mem_cons,List.not_mem_nil,or_false] at hp ⊢; rcases hp with rfl | rfl | rfl | rfl <;> simp)).is⟩
 have u23:Up F F23:=u22.trans ⟨l23⟩
 refine ToX.fitW (stE:=famE [(.mk 4 [] [t0,t1,t2,t3],y0),(.mk 4 [] [t0,t1,t3,t2],y1),(.mk 4 [] [t0,t2,t1,t3],y2),(.mk 4 [] [t0,t2,t3,t1],y3),(.mk 4 [] [t0,t3,t1,t2],y4),(.mk 4 [] [t0,t3,t2,t1],y5),(.mk 4 [] [t1,t0,t2,t3],y6),(.mk 4 [] [t1,t0,t3,t2],y7),(.mk 4 [] [t1,t2,t0,t3],y8),(.mk 4 [] [t1,t2,t3,t0],y9),(.mk 4 [] [t1,t3,t0,t2],y10),(.mk 4 [] [t1,t3,t2,t0],y11),(.mk 4 [] [t2,t0,t1,t3],y12),(.mk 4 [] [t2,t0,t3,t1],y13),(.mk 4 [] [t2,t1,t0,t3],y14),(.mk 4 [] [t2,t1,t3,t0],y15),(.mk 4 [] [t2,t3,t0,t1],y16),(.mk 4 [] [t2,t3,t1,t0],y17),(.mk 4 [] [t3,t0,t1,t2],y18),(.mk 4 [] [t3,t0,t2,t1],y19),(.mk 4 [] [t3,t1,t0,t2],y20),(.mk 4 [] [t3,t1,t2,t0],y21),(.mk 4 [] [t3,t2,t0,t1],y22),(.mk 4 [] [t3,t2,t1,t0],y23)]) some ⟨fun c c' b r r' _ _ h h' => by cases h; cases h'; rfl,fun c r hc => ?_⟩ ?_ (fun _ _ => rfl) (by simp) (ToX.here (hS _ F23 rfl u23 a23))
 ·match c with
  | 0 => cases hc
  | 1 => cases hc; exact .inl ⟨1,_,rfl,by kernel_rfl,(RowG.lst1' rfl rfl).vw _ _⟩
  | 2 => cases hc; exact .inl ⟨2,_,rfl,by kernel_rfl,o5_v rfl (by simp)⟩
  | 3 => cases hc
  | 4 => cases hc; exact .inl ⟨4,.lst 25 3 ([(.mk 4 [] [t0,t1,t2,t3],y0),(.mk 4 [] [t0,t1,t3,t2],y1),(.mk 4 [] [t0,t2,t1,t3],y2),(.mk 4 [] [t0,t2,t3,t1],y3),(.mk 4 [] [t0,t3,t1,t2],y4),(.mk 4 [] [t0,t3,t2,t1],y5),(.mk 4 [] [t1,t0,t2,t3],y6),(.mk 4 [] [t1,t0,t3,t2],y7),(.mk 4 [] [t1,t2,t0,t3],y8),(.mk 4 [] [t1,t2,t3,t0],y9),(.mk 4 [] [t1,t3,t0,t2],y10),(.mk 4 [] [t1,t3,t2,t0],y11),(.mk 4 [] [t2,t0,t1,t3],y12),(.mk 4 [] [t2,t0,t3,t1],y13),(.mk 4 [] [t2,t1,t0,t3],y14),(.mk 4 [] [t2,t1,t3,t0],y15),(.mk 4 [] [t2,t3,t0,t1],y16),(.mk 4 [] [t2,t3,t1,t0],y17),(.mk 4 [] [t3,t0,t1,t2],y18),(.mk 4 [] [t3,t0,t2,t1],y19),(.mk 4 [] [t3,t1,t0,t2],y20),(.mk 4 [] [t3,t1,t2,t0],y21),(.mk 4 [] [t3,t2,t0,t1],y22),(.mk 4 [] [t3,t2,t1,t0],y23)].map fun p => exprV p.1 p.2),rfl,by kernel_rfl,krow_lst _⟩
  | c + 5 => simp [Rows.live] at hc
 ·exact tm18e_vw (by kernel_rfl) (by simp)
theorem chk_le {o:Option Tr} {t:Tr} (h:chk o = some t):o = some t /\ size t <= 4096:=by
 match o,h with
 | some u,h =>
  simp only [chk] at h
  split at h
  ·cases h
  ·cases h; exact ⟨rfl,by omega⟩
theorem chk_some {t:Tr} (h:size t <= 4096):chk (some t) = some t:=by simp only [chk]; rw [if_neg (by omega)]
theorem chk_none {t:Tr} (h:¬ size t <= 4096):chk (some t) = none:=by simp only [chk]; rw [if_pos (by omega)]
theorem spr_mk (k:Nat) (w:List UInt8) (kids:List Tr):spr (.mk k w kids) = match sprs kids with | none => none | some ks => chk (outOf k w ks):=by
 simp only [spr] <;>
 cases sprs kids <;> rfl
theorem spr_le {t t':Tr} (h:spr t = some t'):size t' <= 4096:=by
 cases t with
 | mk k w kids =>
  rw [spr_mk] at h
  cases hs:sprs kids with
  | none => rw [hs] at h; cases h
  | some ks => rw [hs] at h; exact (chk_le h).2
theorem sprs_le:∀ {ts ks:List Tr},sprs ts = some ks -> ks.length = ts.length /\ ∀ u ∈ ks,size u <= 4096
 | [],ks,h => by simp only [sprs] at h; cases h; exact ⟨rfl,fun u hu => by cases hu⟩
 | t :: ts,ks,h => by
  cases ht:spr t with
  | none => rw [sprs_bad ht] at h; cases h
  | some u =>
   rw [sprs_cons ht] at h
   cases hs:sprs ts with
   | none => rw [hs] at h; cases h
   | some us =>
    rw [hs] at h
    cases h
    have ih:=sprs_le hs
    refine ⟨by simp [ih.1],fun v hv => ?_⟩
    rcases List.mem_cons.1 hv with rfl | hv
    ·exact spr_le ht
    ·exact ih.2 v hv
theorem sizes_bd {b:Nat}:∀ {ks:List Tr},(∀ u ∈ ks,size u <= b) -> sizes ks <= b * ks.length
 | [],_ => by simp [sizes]
 | t :: ks,h => by
  have h1:=h t (by simp)
  have h2:=sizes_bd (ks:=ks) fun u hu => h u (by simp [hu])
  simp only [sizes,List.length_cons,Nat.mul_add,Nat.mul_one]
  omega
theorem ords_len:∀ n,n <= 4 -> (ords n).length <= 24 /\ ∀ o ∈ ords n,o.length = n:=by
 intro n hn
 match n,hn with
 | 0,_ => decide
 | 1,_ => decide
 | 2,_ => decide
 | 3,_ => decide
 | 4,_ => decide
theorem outAll_le {ks:List Tr} (hn:ks.length <= 4) (h:∀ u ∈ ks,size u <= 4096):size (outAll ks) <= 10000000:=by
 obtain ⟨h1,h2⟩:=ords_len ks.length hn
 have hg:∀ i,size (ks.getD i tD) <= 4096:=fun i => by
  rw [List.getD_eq_getElem?_getD]
  cases he:ks[i]? with
  | none => decide
  | some u => exact h u (List.mem_of_getElem? he)
 have h3:sizes ((ords ks.length).map fun o => .mk 4 [] (o.map fun i => ks.getD i tD)) <= 20000 * (ords ks.length).length:=by
  have:=sizes_bd (b:=20000) (ks:=(ords ks.length).map fun o => .mk 4 [] (o.map fun i => ks.getD i tD)) (fun u hu => by
   obtain ⟨o,ho,rfl⟩:=List.mem_map.1 hu
   have h4:=sizes_bd (b:=4096) (ks:=o.map fun i => ks.getD i tD) (fun v hv => by
    obtain ⟨i,_,rfl⟩:=List.mem_map.1 hv
    exact hg i)
   have h5:=h2 o ho
   rw [List.length_map,h5] at h4
   simp only [size]
   have:4096 * ks.length <= 4096 * 4:=Nat.mul_le_mul_left _ hn
   omega)
  rwa [List.length_map] at this
 unfold outAll
 simp only [size]
 have:20000 * (ords ks.length).length <= 20000 * 24:=Nat.mul_le_mul_left _ h1
 omega
structure Fin18 (o:Option Tr) (F:Fz) (e:Exit) (st:St) (F':Fz):Prop where
 e:e = .ret
 n:st.tmps.length = 92
 p:nthV st.tmps 2 = .ptr false 1 0 0
 l:3 <= st.rows.length
 u:Up F F'
 is:(∃ t x,o = some t /\ TAt F' t x /\ nthV st.tmps 3 = .int .i64 0 /\ st.rows.live 1 = some (.lst 25 3 [exprV t x])) \/ (o = none /\ nthV st.tmps 3 = .int .i64 6 /\ st.rows.live 1 = some (.lst 25 3 [zV]))
theorem Fin18.le {o:Option Tr} {F F1 F':Fz} {e:Exit} {st:St} (h:Fin18 o F1 e st F') (hu:Up F F1):Fin18 o F e st F':=⟨h.e,h.n,h.p,h.l,hu.trans h.u,h.is⟩
theorem sub18:∀ p ∈ subs (tailC 4 fi18.body),p ∈ subs fi18.body:=subs_tail 4 _
theorem end18_3 {R:RR} (hR:Free R) (l0:List (Tr × Nat)) (kd:Nat) (w:List UInt8) (L:List (Tr × Nat)) (F:Fz) (hts:TAts F L) (hz:size (.mk kd w (L.map Prod.fst)) <= 10000000) (HP:HPt) :
  SafeX Try.prog (R5 R l0) [] (tailC 4 fi18.body) (famE3 (kd:Int) w L) F (fun e st F' => Fin18 (chk (some (.mk kd w (L.map Prod.fst)))) F e st F') HP:=by
 have h1:SafeX Try.prog (R5 R l0) [] (tailC 4 fi18.body) (famE3 (kd:Int) w L) F (fun e st F' => e = .ret /\ st.tmps.length = 92 /\ nthV st.tmps 2 = .ptr false 1 0 0 /\ 3 <= st.rows.length /\ Up F F' /\ ((∃ t x,chk (some (.mk kd w (L.map Prod.fst))) = some t /\ TAt F' t x /\ nthV st.tmps 3 = .int .i64 0 /\ st.rows.live 1 = some (.lst 25 3 [exprV t x])) \/ (chk (some (.mk kd w (L.map Prod.fst))) = none /\ nthV st.tmps 3 = .int .i64 6 /\ st.rows.live 1 = some (.lst 25 3 [zV])))) HP:=by
  refine SafeX.rnx mixed (env18e_ok hR l0 HP) (f:=18) (fun p hp => by unfold Env.subsOf; rw [show (env18e R l0).F 18 = some fi18 by kernel_rfl]; exact sub18 p hp) 1000 ?_
  refine Eq.mpr (ve18 R (kd:Int) w l0 L (fun e n a b r m F' => e = .ret /\ n = 92 /\ a = .ptr false 1 0 0 /\ 3 <= m /\ Up F F' /\ ((∃ t x,chk (some (.mk kd w (L.map Prod.fst))) = some t /\ TAt F' t x /\ b = .int .i64 0 /\ r = some (.lst 25 3 [exprV t x])) \/ (chk (some (.mk kd w (L.map Prod.fst))) = none /\ b = .int .i64 6 /\ r = some (.lst 25 3 [zV])))) F) ?_
  refine ⟨L,kd,rfl,rfl,rfl,hts,hz,fun F' x hu ht => hcB (fun h => ⟨rfl,rfl,rfl,by decide,hu,.inr ⟨chk_none (by have:=of_decide_eq_true h; omega),rfl,rfl⟩⟩) fun h => ⟨rfl,rfl,rfl,by decide,hu,.inl ⟨_,x,chk_some (by have:=of_decide_eq_false h; omega),ht,rfl,?_⟩⟩⟩
  show some (Row.lst 25 3 [AV.agg [iI ((kd:Nat):Int),AV.str w,AV.sl true (x + 15) 0 L.length Cp.no]]) = some (Row.lst 25 3 [AV.agg [iI ((kd:Nat):Int),AV.str w,AV.sl true (x + 15) 0 (L.map Prod.fst).length Cp.no]])
  rw [List.length_map]
 exact h1.mono (fun e st F' ⟨a,b,c,d,f,g⟩ => ⟨a,b,c,d,f,g⟩) fun _ _ _ h => h
theorem end18_4 {R:RR} (hR:Free R) (l0:List (Tr × Nat)) (L:List (Tr × Nat)) (F:Fz) (hts:TAts F L) (hz:size (.mk 5 [] (L.map Prod.fst)) <= 10000000) (HP:HPt) :
  SafeX Try.prog (R5 R l0) [] (tailC 4 fi18.body) (famE L) F (fun e st F' => Fin18 (chk (some (.mk 5 [] (L.map Prod.fst)))) F e st F') HP:=by
 have h1:SafeX Try.prog (R5 R l0) [] (tailC 4 fi18.body) (famE L) F (fun e st F' => e = .ret /\ st.tmps.length = 92 /\ nthV st.tmps 2 = .ptr false 1 0 0 /\ 3 <= st.rows.length /\ Up F F' /\ ((∃ t x,chk (some (.mk 5 [] (L.map Prod.fst))) = some t /\ TAt F' t x /\ nthV st.tmps 3 = .int .i64 0 /\ st.rows.live 1 = some (.lst 25 3 [exprV t x])) \/ (chk (some (.mk 5 [] (L.map Prod.fst))) = none /\ nthV st.tmps 3 = .int .i64 6 /\ st.rows.live 1 = some (.lst 25 3 [zV])))) HP:=by
  refine SafeX.rnx mixed (env18e_ok hR l0 HP) (f:=18) (fun p hp => by unfold Env.subsOf; rw [show (env18e R l0).F 18 = some fi18 by kernel_rfl]; exact sub18 p hp) 1000 ?_
  refine Eq.mpr (vf18 R l0 L (fun e n a b r m F' => e = .ret /\ n = 92 /\ a = .ptr false 1 0 0 /\ 3 <= m /\ Up F F' /\ ((∃ t x,chk (some (.mk 5 [] (L.map Prod.fst))) = some t /\ TAt F' t x /\ b = .int .i64 0 /\ r = some (.lst 25 3 [exprV t x])) \/ (chk (some (.mk 5 [] (L.map Prod.fst))) = none /\ b = .int .i64 6 /\ r = some (.lst 25 3 [zV])))) F) ?_
  refine ⟨L,5,rfl,rfl,rfl,hts,hz,fun F' x hu ht => hcB (fun h => ⟨rfl,rfl,rfl,by decide,hu,.inr ⟨chk_none (by have:=of_decide_eq_true h; omega),rfl,rfl⟩⟩) fun h => ⟨rfl,rfl,rfl,by decide,hu,.inl ⟨_,x,chk_some (by have:=of_decide_eq_false h; omega),ht,rfl,?_⟩⟩⟩
  show some (Row.lst 25 3 [AV.agg [iI 5,AV.str [],AV.sl true (x + 15) 0 L.length Cp.no]]) = some (Row.lst 25 3 [AV.agg [iI 5,AV.str [],AV.sl true (x + 15) 0 (L.map Prod.fst).length Cp.no]])
  rw [List.length_map]
 exact h1.mono (fun e st F' ⟨a,b,c,d,f,g⟩ => ⟨a,b,c,d,f,g⟩) fun _ _ _ h => h
theorem split3:tailC 3 fi18.body = .seq (hdC (tailC 3 fi18.body)) (tailC 4 fi18.body):=by kernel_rfl
theorem split2:tailC 2 fi18.body = .seq (hdC (tailC 2 fi18.body)) (tailC 3 fi18.body):=by kernel_rfl
theorem subh (n:Nat):∀ p ∈ subs (hdC (tailC n fi18.body)),p ∈ subs fi18.body:=fun p hp => subs_tail n _ p (by
 cases h:tailC n fi18.body with
 | seq x y => rw [h] at hp; simp only [subs]; exact List.mem_append_left _ hp
 | _ => rw [h] at hp; exact hp)
theorem all18_2 {R:RR} (hR:Free R) (l0:List (Tr × Nat)) (w:List UInt8) (t0 t1:Tr) (x0 x1:Nat) (F:Fz) (hts:TAts F [(t0,x0),(t1,x1)]) (hz:size (outAll [t0,t1]) <= 10000000) (HP:HPt) :
  SafeX Try.prog (R5 R l0) [] (tailC 3 fi18.body) (fam18 6 w 2 2 [(t0,x0),(t1,x1)]) F (fun e st F' => Fin18 (chk (some (outAll [t0,t1]))) F e st F') HP:=by
 rw [split3]
 refine SafeX.seq ?_
 have h1:SafeX Try.prog (R5 R l0) [] (hdC (tailC 3 fi18.body)) (fam18 6 w 2 2 [(t0,x0),(t1,x1)]) F (fun e st F' => e = .normal /\ F' = F /\ st.tmps.length = 92 /\ nthV st.tmps 2 = .ptr false 1 0 0 /\ nthV st.tmps 4 = .ptr false 2 0 0 /\ st.rows.live 1 = some (.lst 25 3 [zV]) /\ st.rows.live 2 = some (o5r 5 [] 21 2) /\ st.rows.live 21 = (some (.lst 25 3 [.agg [.int .i64 4,.str [],.sl false 12 0 2 .no],.agg [.int .i64 4,.str [],.sl false 19 0 2 .no]])) /\ st.rows.live 12 = (some (.lst 25 3 [exprV t0 x0,exprV t1 x1])) /\ st.rows.live 19 = (some (.lst 25 3 [exprV t1 x1,exprV t0 x0]))) HP:=by
  refine SafeX.rnx mixed ((bx_ok (R5 R l0) [] HP).addCall (f:=27) (spec:=sp27_2) (fi:=fi27) (by kernel_rfl) (sp27_2_ok _ HP)) (f:=18) (fun p hp => by unfold Env.subsOf; rw [show ((bx (R5 R l0)).addCall 27 sp27_2).F 18 = some fi18 by kernel_rfl]; exact subh 3 p hp) 1000 ?_
  refine Eq.mpr (va18_2 (R5 R l0) w t0 t1 x0 x1 (fun e n a b r0 r1 r2 r3 r4 m F' => e = .normal /\ F' = F /\ n = 92 /\ a = .ptr false 1 0 0 /\ b = .ptr false 2 0 0 /\ r0 = some (.lst 25 3 [zV]) /\ r1 = some (o5r 5 [] 21 2) /\ r2 = (some (.lst 25 3 [.agg [.int .i64 4,.str [],.sl false 12 0 2 .no],.agg [.int .i64 4,.str [],.sl false 19 0 2 .no]])) /\ r3 = (some (.lst 25 3 [exprV t0 x0,exprV t1 x1])) /\ r4 = (some (.lst 25 3 [exprV t1 x1,exprV t0 x0]))) F) ?_
  exact ⟨rfl,rfl,rfl,rfl,rfl,rfl,rfl,rfl,rfl,rfl,rfl,rfl,rfl,rfl⟩
 have h2:SafeX Try.prog (R5 R l0) [] (hdC (tailC 3 fi18.body)) (fam18 6 w 2 2 [(t0,x0),(t1,x1)]) F (fun e st F' => e = .normal /\ ∃ L,L.map Prod.fst = (ords 2).map (fun o => Tr.mk 4 [] (o.map fun i => [t0,t1].getD i tD)) /\ Up F F' /\ TAts F' L /\ st = famE L) HP:=by
  refine SafeX.post h1 ?_
  rintro e ⟨TM,rows⟩ F' _ ⟨rfl,rfl,g1,g2,g3,k0,k1,k2,k3,k4⟩
  simp only at g1 g2 g3 k0 k1 k2 k3 k4
  refine ToX.fitW (stE:=⟨tm18e,_⟩) f18_2 (vw18_2 k0 k1 k2 k3 k4) ?_ (fun c hc => ?_) (by simp) (fz18_2 hts fun L F2 hL hu h2 => ⟨rfl,L,hL,hu,h2,rfl⟩)
  ·rw [tm18e_spr]
   exact VwL.ofKnown g1 ⟨by rw [g2]; exact Vw.ptrI (by simp) rfl,by rw [g3]; exact Vw.ptrI (by simp) rfl,trivial⟩
  ·match c,hc with
   | 0,_ => rfl
   | 1,_ => rfl
   | 2,_ => rfl
   | 3,_ => rfl
 refine h2.mono ?_ fun _ _ _ h => h
 rintro e st F' ⟨rfl,L,hL,hu,h2,rfl⟩
 have he:outAll [t0,t1] = .mk 5 [] (L.map Prod.fst):=by rw [hL]; rfl
 rw [he]
 exact (end18_4 hR l0 L F' h2 (by rw [<- he]; exact hz) HP).mono (fun e st F2 h => h.le hu) fun _ _ _ h => h
theorem all18_3 {R:RR} (hR:Free R) (l0:List (Tr × Nat)) (w:List UInt8) (t0 t1 t2:Tr) (x0 x1 x2:Nat) (F:Fz) (hts:TAts F [(t0,x0),(t1,x1),(t2,x2)]) (hz:size (outAll [t0,t1,t2]) <= 10000000) (HP:HPt) :
  SafeX Try.prog (R5 R l0) [] (tailC 3 fi18.body) (fam18 6 w 3 3 [(t0,x0),(t1,x1),(t2,x2)]) F (fun e st F' => Fin18 (chk (some (outAll [t0,t1,t2]))) F e st F') HP:=by
 rw [split3]
 refine SafeX.seq ?_
 have h1:SafeX Try.prog (R5 R l0) [] (hdC (tailC 3 fi18.body)) (fam18 6 w 3 3 [(t0,x0),(t1,x1),(t2,x2)]) F (fun e st F' => e = .normal /\ F' = F /\ st.tmps.length = 92 /\ nthV st.tmps 2 = .ptr false 1 0 0 /\ nthV st.tmps 4 = .ptr false 2 0 0 /\ st.rows.live 1 = some (.lst 25 3 [zV]) /\ st.rows.live 2 = some (o5r 5 [] 65 6) /\ st.rows.live 65 = (some (.lst 25 3 [.agg [.int .i64 4,.str [],.sl false 18 0 3 .no],.agg [.int .i64 4,.str [],.sl false 27 0 3 .no],.agg [.int .i64 4,.str [],.sl false 36 0 3 .no],.agg [.int .i64 4,.str [],.sl false 45 0 3 .no],.agg [.int .i64 4,.str [],.sl false 54 0 3 .no],.agg [.int .i64 4,.str [],.sl false 63 0 3 .no]])) /\ st.rows.live 18 = (some (.lst 25 3 [exprV t0 x0,exprV t1 x1,exprV t2 x2])) /\ st.rows.live 27 = (some (.lst 25 3 [exprV t0 x0,exprV t2 x2,exprV t1 x1])) /\ st.rows.live 36 = (some (.lst 25 3 [exprV t1 x1,exprV t0 x0,exprV t2 x2])) /\ st.rows.live 45 = (some (.lst 25 3 [exprV t1 x1,exprV t2 x2,exprV t0 x0])) /\ st.rows.live 54 = (some (.lst 25 3 [exprV t2 x2,exprV t0 x0,exprV t1 x1])) /\ st.rows.live 63 = (some (.lst 25 3 [exprV t2 x2,exprV t1 x1,exprV t0 x0]))) HP:=by
  refine SafeX.rnx mixed ((bx_ok (R5 R l0) [] HP).addCall (f:=27) (spec:=sp27_3) (fi:=fi27) (by kernel_rfl) (sp27_3_ok _ HP)) (f:=18) (fun p hp => by unfold Env.subsOf; rw [show ((bx (R5 R l0)).addCall 27 sp27_3).F 18 = some fi18 by kernel_rfl]; exact subh 3 p hp) 1000 ?_
  refine Eq.mpr (va18_3 (R5 R l0) w t0 t1 t2 x0 x1 x2 (fun e n a b r0 r1 r2 r3 r4 r5 r6 r7 r8 m F' => e = .normal /\ F' = F /\ n = 92 /\ a = .ptr false 1 0 0 /\ b = .ptr false 2 0 0 /\ r0 = some (.lst 25 3 [zV]) /\ r1 = some (o5r 5 [] 65 6) /\ r2 = (some (.lst 25 3 [.agg [.int .i64 4,.str [],.sl false 18 0 3 .no],.agg [.int .i64 4,.str [],.sl false 27 0 3 .no],.agg [.int .i64 4,.str [],.sl false 36 0 3 .no],.agg [.int .i64 4,.str [],.sl false 45 0 3 .no],.agg [.int .i64 4,.str [],.sl false 54 0 3 .no],.agg [.int .i64 4,.str [],.sl false 63 0 3 .no]])) /\ r3 = (some (.lst 25 3 [exprV t0 x0,exprV t1 x1,exprV t2 x2])) /\ r4 = (some (.lst 25 3 [exprV t0 x0,exprV t2 x2,exprV t1 x1])) /\ r5 = (some (.lst 25 3 [exprV t1 x1,exprV t0 x0,exprV t2 x2])) /\ r6 = (some (.lst 25 3 [exprV t1 x1,exprV t2 x2,exprV t0 x0])) /\ r7 = (some (.lst 25 3 [exprV t2 x2,exprV t0 x0,exprV t1 x1])) /\ r8 = (some (.lst 25 3 [exprV t2 x2,exprV t1 x1,exprV t0 x0]))) F) ?_
  exact ⟨rfl,rfl,rfl,rfl,rfl,rfl,rfl,rfl,rfl,rfl,rfl,rfl,rfl,rfl,rfl,rfl,rfl,rfl,rfl,rfl,rfl,rfl,rfl,rfl,rfl,rfl,rfl,rfl,rfl,rfl,rfl,rfl⟩
 have h2:SafeX Try.prog (R5 R l0) [] (hdC (tailC 3 fi18.body)) (fam18 6 w 3 3 [(t0,x0),(t1,x1),(t2,x2)]) F (fun e st F' => e = .normal /\ ∃ L,L.map Prod.fst = (ords 3).map (fun o => Tr.mk 4 [] (o.map fun i => [t0,t1,t2].getD i tD)) /\ Up F F' /\ TAts F' L /\ st = famE L) HP:=by
  refine SafeX.post h1 ?_
  rintro e ⟨TM,rows⟩ F' _ ⟨rfl,rfl,g1,g2,g3,k0,k1,k2,k3,k4,k5,k6,k7,k8⟩
  simp only at g1 g2 g3 k0 k1 k2 k3 k4 k5 k6 k7 k8
  refine ToX.fitW (stE:=⟨tm18e,_⟩) f18_3 (vw18_3 k0 k1 k2 k3 k4 k5 k6 k7 k8) ?_ (fun c hc => ?_) (by simp) (fz18_3 hts fun L F2 hL hu h2 => ⟨rfl,L,hL,hu,h2,rfl⟩)
  ·rw [tm18e_spr]
   exact VwL.ofKnown g1 ⟨by rw [g2]; exact Vw.ptrI (by simp) rfl,by rw [g3]; exact Vw.ptrI (by simp) rfl,trivial⟩
  ·match c,hc with
   | 0,_ => rfl
   | 1,_ => rfl
   | 2,_ => rfl
   | 3,_ => rfl
 refine h2.mono ?_ fun _ _ _ h => h
 rintro e st F' ⟨rfl,L,hL,hu,h2,rfl⟩
 have he:outAll [t0,t1,t2] = .mk 5 [] (L.map Prod.fst):=by rw [hL]; rfl
 rw [he]
 exact (end18_4 hR l0 L F' h2 (by rw [<- he]; exact hz) HP).mono (fun e st F2 h => h.le hu) fun _ _ _ h => h
theorem all18_4 {R:RR} (hR:Free R) (l0:List (Tr × Nat)) (w:List UInt8) (t0 t1 t2 t3:Tr) (x0 x1 x2 x3:Nat) (F:Fz) (hts:TAts F [(t0,x0),(t1,x1),(t2,x2),(t3,x3)]) (hz:size (outAll [t0,t1,t2,t3]) <= 10000000) (HP:HPt) :
  SafeX Try.prog (R5 R l0) [] (tailC 3 fi18.body) (fam18 6 w 4 4 [(t0,x0),(t1,x1),(t2,x2),(t3,x3)]) F (fun e st F' => Fin18 (chk (some (outAll [t0,t1,t2,t3]))) F e st F') HP:=by
 rw [split3]
 refine SafeX.seq ?_
 have h1:SafeX Try.prog (R5 R l0) [] (hdC (tailC 3 fi18.body)) (fam18 6 w 4 4 [(t0,x0),(t1,x1),(t2,x2),(t3,x3)]) F (fun e st F' => e = .normal /\ F' = F /\ st.tmps.length = 92 /\ nthV st.tmps 2 = .ptr false 1 0 0 /\ nthV st.tmps 4 = .ptr false 2 0 0 /\ st.rows.live 1 = some (.lst 25 3 [zV]) /\ st.rows.live 2 = some (o5r 5 [] 293 24) /\ st.rows.live 293 = (some (.lst 25 3 [.agg [.int .i64 4,.str [],.sl false 38 0 4 .no],.agg [.int .i64 4,.str [],.sl false 49 0 4 .no],.agg [.int .i64 4,.str [],.sl false 60 0 4 .no],.agg [.int .i64 4,.str [],.sl false 71 0 4 .no],.agg [.int .i64 4,.str [],.sl false 82 0 4 .no],.agg [.int .i64 4,.str [],.sl false 93 0 4 .no],.agg [.int .i64 4,.str [],.sl false 104 0 4 .no],.agg [.int .i64 4,.str [],.sl false 115 0 4 .no],.agg [.int .i64 4,.str [],.sl false 126 0 4 .no],.agg [.int .i64 4,.str [],.sl false 137 0 4 .no],.agg [.int .i64 4,.str [],.sl false 148 0 4 .no],.agg [.int .i64 4,.str [],.sl false 159 0 4 .no],.agg [.int .i64 4,.str [],.sl false 170 0 4 .no],.agg [.int .i64 4,.str [],.sl false 181 0 4 .no],.agg [.int .i64 4,.str [],.sl false 192 0 4 .no],.agg [.int .i64 4,.str [],.sl false 203 0 4 .no],.agg [.int .i64 4,.str [],.sl false 214 0 4 .no],.agg [.int .i64 4,.str [],.sl false 225 0 4 .no],.agg [.int .i64 4,.str [],.sl false 236 0 4 .no],.agg [.int .i64 4,.str [],.sl false 247 0 4 .no],.agg [.int .i64 4,.str [],.sl false 258 0 4 .no],.agg [.int .i64 4,.str [],.sl false 269 0 4 .no],.agg [.int .i64 4,.str [],.sl false 280 0 4 .no],.agg [.int .i64 4,.str [],.sl false 291 0 4 .no]])) /\ st.rows.live 38 = (some (.lst 25 3 [exprV t0 x0,exprV t1 x1,exprV t2 x2,exprV t3 x3])) /\ st.rows.live 49 = (some (.lst 25 3 [exprV t0 x0,exprV t1 x1,exprV t3 x3,exprV t2 x2])) /\ st.rows.live 60 = (some (.lst 25 3 [exprV t0 x0,exprV t2 x2,exprV t1 x1,exprV t3 x3])) /\ st.rows.live 71 = (some (.lst 25 3 [exprV t0 x0,exprV t2 x2,exprV t3 x3,exprV t1 x1])) /\ st.rows.live 82 = (some (.lst 25 3 [exprV t0 x0,exprV t3 x3,exprV t1 x1,exprV t2 x2])) /\ st.rows.live 93 = (some (.lst 25 3 [exprV t0 x0,exprV t3 x3,exprV t2 x2,exprV t1 x1])) /\ st.rows.live 104 = (some (.lst 25 3 [exprV t1 x1,exprV t0 x0,exprV t2 x2,exprV t3 x3])) /\ st.rows.live 115 = (some (.lst 25 3 [exprV t1 x1,exprV t0 x0,exprV t3 x3,exprV t2 x2])) /\ st.rows.live 126 = (some (.lst 25 3 [exprV t1 x1,exprV t2 x2,exprV t0 x0,exprV t3 x3])) /\ st.rows.live 137 = (some (.lst 25 3 [exprV t1 x1,exprV t2 x2,exprV t3 x3,exprV t0 x0])) /\ st.rows.live 148 = (some (.lst 25 3 [exprV t1 x1,exprV t3 x3,exprV t0 x0,exprV t2 x2])) /\ st.rows.live 159 = (some (.lst 25 3 [exprV t1 x1,exprV t3 x3,exprV t2 x2,exprV t0 x0])) /\ st.rows.live 170 = (some (.lst 25 3 [exprV t2 x2,exprV t0 x0,exprV t1 x1,exprV t3 x3])) /\ st.rows.live 181 = (some (.lst 25 3 [exprV t2 x2,exprV t0 x0,exprV t3 x3,exprV t1 x1])) /\ st.rows.live 192 = (some (.lst 25 3 [exprV t2 x2,exprV t1 x1,exprV t0 x0,exprV t3 x3])) /\ st.rows.live 203 = (some (.lst 25 3 [exprV t2 x2,exprV t1 x1,exprV t3 x3,exprV t0 x0])) /\ st.rows.live 214 = (some (.lst 25 3 [exprV t2 x2,exprV t3 x3,exprV t0 x0,exprV t1 x1])) /\ st.rows.live 225 = (some (.lst 25 3 [exprV t2 x2,exprV t3 x3,exprV t1 x1,exprV t0 x0])) /\ st.rows.live 236 = (some (.lst 25 3 [exprV t3 x3,exprV t0 x0,exprV t1 x1,exprV t2 x2])) /\ st.rows.live 247 = (some (.lst 25 3 [exprV t3 x3,exprV t0 x0,exprV t2 x2,exprV t1 x1])) /\ st.rows.live 258 = (some (.lst 25 3 [exprV t3 x3,exprV t1 x1,exprV t0 x0,exprV t2 x2])) /\ st.rows.live 269 = (some (.lst 25 3 [exprV t3 x3,exprV t1 x1,exprV t2 x2,exprV t0 x0])) /\ st.rows.live 280 = (some (.lst 25 3 [exprV t3 x3,exprV t2 x2,exprV t0 x0,exprV t1 x1])) /\ st.rows.live 291 = (some (.lst 25 3 [exprV t3 x3,exprV t2 x2,exprV t1 x1,exprV t0 x0]))) HP:=by
  refine SafeX.rnx mixed ((bx_ok (R5 R l0) [] HP).addCall (f:=27) (spec:=sp27_4) (fi:=fi27) (by kernel_rfl) (sp27_4_ok _ HP)) (f:=18) (fun p hp => by unfold Env.subsOf; rw [show ((bx (R5 R l0)).addCall 27 sp27_4).F 18 = some fi18 by kernel_rfl]; exact subh 3 p hp) 1000 ?_
  refine Eq.mpr (va18_4 (R5 R l0) w t0 t1 t2 t3 x0 x1 x2 x3 (fun e n a b r0 r1 r2 r3 r4 r5 r6 r7 r8 r9 r10 r11 r12 r13 r14 r15 r16 r17 r18 r19 r20 r21 r22 r23 r24 r25 r26 m F' => e = .normal /\ F' = F /\ n = 92 /\ a = .ptr false 1 0 0 /\ b = .ptr false 2 0 0 /\ r0 = some (.lst 25 3 [zV]) /\ r1 = some (o5r 5 [] 293 24) /\ r2 = (some (.lst 25 3 [.agg [.int .i64 4,.str [],.sl false 38 0 4 .no],.agg [.int .i64 4,.str [],.sl false 49 0 4 .no],.agg [.int .i64 4,.str [],.sl false 60 0 4 .no],.agg [.int .i64 4,.str [],.sl false 71 0 4 .no],.agg [.int .i64 4,.str [],.sl false 82 0 4 .no],.agg [.int .i64 4,.str [],.sl false 93 0 4 .no],.agg [.int .i64 4,.str [],.sl false 104 0 4 .no],.agg [.int .i64 4,.str [],.sl false 115 0 4 .no],.agg [.int .i64 4,.str [],.sl false 126 0 4 .no],.agg [.int .i64 4,.str [],.sl false 137 0 4 .no],.agg [.int .i64 4,.str [],.sl false 148 0 4 .no],.agg [.int .i64 4,.str [],.sl false 159 0 4 .no],.agg [.int .i64 4,.str [],.sl false 170 0 4 .no],.agg [.int .i64 4,.str [],.sl false 181 0 4 .no],.agg [.int .i64 4,.str [],.sl false 192 0 4 .no],.agg [.int .i64 4,.str [],.sl false 203 0 4 .no],.agg [.int .i64 4,.str [],.sl false 214 0 4 .no],.agg [.int .i64 4,.str [],.sl false 225 0 4 .no],.agg [.int .i64 4,.str [],.sl false 236 0 4 .no],.agg [.int .i64 4,.str [],.sl false 247 0 4 .no],.agg [.int .i64 4,.str [],.sl false 258 0 4 .no],.agg [.int .i64 4,.str [],.sl false 269 0 4 .no],.agg [.int .i64 4,.str [],.sl false 280 0 4 .no],.agg [.int .i64 4,.str [],.sl false 291 0 4 .no]])) /\ r3 = (some (.lst 25 3 [exprV t0 x0,exprV t1 x1,exprV t2 x2,exprV t3 x3])) /\ r4 = (some (.lst 25 3 [exprV t0 x0,exprV t1 x1,exprV t3 x3,exprV t2 x2])) /\ r5 = (some (.lst 25 3 [exprV t0 x0,exprV t2 x2,exprV t1 x1,exprV t3 x3])) /\ r6 = (some (.lst 25 3 [exprV t0 x0,exprV t2 x2,exprV t3 x3,exprV t1 x1])) /\ r7 = (some (.lst 25 3 [exprV t0 x0,exprV t3 x3,exprV t1 x1,exprV t2 x2])) /\ r8 = (some (.lst 25 3 [exprV t0 x0,exprV t3 x3,exprV t2 x2,exprV t1 x1])) /\ r9 = (some (.lst 25 3 [exprV t1 x1,exprV t0 x0,exprV t2 x2,exprV t3 x3])) /\ r10 = (some (.lst 25 3 [exprV t1 x1,exprV t0 x0,exprV t3 x3,exprV t2 x2])) /\ r11 = (some (.lst 25 3 [exprV t1 x1,exprV t2 x2,exprV t0 x0,exprV t3 x3])) /\ r12 = (some (.lst 25 3 [exprV t1 x1,exprV t2 x2,exprV t3 x3,exprV t0 x0])) /\ r13 = (some (.lst 25 3 [exprV t1 x1,exprV t3 x3,exprV t0 x0,exprV t2 x2])) /\ r14 = (some (.lst 25 3 [exprV t1 x1,exprV t3 x3,exprV t2 x2,exprV t0 x0])) /\ r15 = (some (.lst 25 3 [exprV t2 x2,exprV t0 x0,exprV t1 x1,exprV t3 x3])) /\ r16 = (some (.lst 25 3 [exprV t2 x2,exprV t0 x0,exprV t3 x3,exprV t1 x1])) /\ r17 = (some (.lst 25 3 [exprV t2 x2,exprV t1 x1,exprV t0 x0,exprV t3 x3])) /\ r18 = (some (.lst 25 3 [exprV t2 x2,exprV t1 x1,exprV t3 x3,exprV t0 x0])) /\ r19 = (some (.lst 25 3 [exprV t2 x2,exprV t3 x3,exprV t0 x0,exprV t1 x1])) /\ r20 = (some (.lst 25 3 [exprV t2 x2,exprV t3 x3,exprV t1 x1,exprV t0 x0])) /\ r21 = (some (.lst 25 3 [exprV t3 x3,exprV t0 x0,exprV t1 x1,exprV t2 x2])) /\ r22 = (some (.lst 25 3 [exprV t3 x3,exprV t0 x0,exprV t2 x2,exprV t1 x1])) /\ r23 = (some (.lst 25 3 [exprV t3 x3,exprV t1 x1,exprV t0 x0,exprV t2 x2])) /\ r24 = (some (.lst 25 3 [exprV t3 x3,exprV t1 x1,exprV t2 x2,exprV t0 x0])) /\ r25 = (some (.lst 25 3 [exprV t3 x3,exprV t2 x2,exprV t0 x0,exprV t1 x1])) /\ r26 = (some (.lst 25 3 [exprV t3 x3,exprV t2 x2,exprV t1 x1,exprV t0 x0]))) F) ?_
  exact ⟨rfl,rfl,rfl,rfl,rfl,rfl,rfl,rfl,rfl,rfl,rfl,rfl,rfl,rfl,rfl,rfl,rfl,rfl,rfl,rfl,rfl,rfl,rfl,rfl,rfl,rfl,rfl,rfl,rfl,rfl,rfl,rfl,rfl,rfl,rfl,rfl,rfl,rfl,rfl,rfl,rfl,rfl,rfl,rfl,rfl,rfl,rfl,rfl,rfl,rfl,rfl,rfl,rfl,rfl,rfl,rfl,rfl,rfl,rfl,rfl,rfl,rfl,rfl,rfl,rfl,rfl,rfl,rfl,rfl,rfl,rfl,rfl,rfl,rfl,rfl,rfl,rfl,rfl,rfl,rfl,rfl,rfl,rfl,rfl,rfl,rfl,rfl,rfl,rfl,rfl,rfl,rfl,rfl,rfl,rfl,rfl,rfl,rfl,rfl,rfl,rfl,rfl,rfl,rfl,rfl,rfl,rfl,rfl,rfl,rfl,rfl,rfl,rfl,rfl,rfl,rfl,rfl,rfl,rfl,rfl,rfl,rfl,rfl,rfl,rfl,rfl,rfl,rfl⟩
 have h2:SafeX Try.prog (R5 R l0) [] (hdC (tailC 3 fi18.body)) (fam18 6 w 4 4 [(t0,x0),(t1,x1),(t2,x2),(t3,x3)]) F (fun e st F' => e = .normal /\ ∃ L,L.map Prod.fst = (ords 4).map (fun o => Tr.mk 4 [] (o.map fun i => [t0,t1,t2,t3].getD i tD)) /\ Up F F' /\ TAts F' L /\ st = famE L) HP:=by
  refine SafeX.post h1 ?_
  rintro e ⟨TM,rows⟩ F' _ ⟨rfl,rfl,g1,g2,g3,k0,k1,k2,k3,k4,k5,k6,k7,k8,k9,k10,k11,k12,k13,k14,k15,k16,k17,k18,k19,k20,k21,k22,k23,k24,k25,k26⟩
  simp only at g1 g2 g3 k0 k1 k2 k3 k4 k5 k6 k7 k8 k9 k10 k11 k12 k13 k14 k15 k16 k17 k18 k19 k20 k21 k22 k23 k24 k25 k26
  refine ToX.fitW (stE:=⟨tm18e,_⟩) f18_4 (vw18_4 k0 k1 k2 k3 k4 k5 k6 k7 k8 k9 k10 k11 k12 k13 k14 k15 k16 k17 k18 k19 k20 k21 k22 k23 k24 k25 k26) ?_ (fun c hc => ?_) (by simp) (fz18_4 hts fun L F2 hL hu h2 => ⟨rfl,L,hL,hu,h2,rfl⟩)
  ·rw [tm18e_spr]
   exact VwL.ofKnown g1 ⟨by rw [g2]; exact Vw.ptrI (by simp) rfl,by rw [g3]; exact Vw.ptrI (by simp) rfl,trivial⟩
  ·match c,hc with
   | 0,_ => rfl
   | 1,_ => rfl
   | 2,_ => rfl
   | 3,_ => rfl
 refine h2.mono ?_ fun _ _ _ h => h
 rintro e st F' ⟨rfl,L,hL,hu,h2,rfl⟩
 have he:outAll [t0,t1,t2,t3] = .mk 5 [] (L.map Prod.fst):=by rw [hL]; rfl
 rw [he]
 exact (end18_4 hR l0 L F' h2 (by rw [<- he]; exact hz) HP).mono (fun e st F2 h => h.le hu) fun _ _ _ h => h
theorem vs18 (R:RR) (t:Tr) (x:Nat) (q:Exit -> St -> Fz -> Prop) (K:Nat -> AV -> AV -> AV -> Rows -> Fz -> Prop) (F:Fz):chain (bx R) 1000 18 q (fun st F => K st.tmps.length (nthV st.tmps 1) (nthV st.tmps 2) (nthV st.tmps 4) st.rows F) 2 fi18.body ⟨enterT [exprV t x] fi18.ntmps,[]⟩ F = (K 92 (AV.ptr false 0 0 0) (AV.ptr false 1 0 0) (AV.ptr false 2 0 0) [some (Row.lst 25 3 [AV.agg [iI (↑t.kind:Int),AV.str t.word,AV.sl true (x + 15) 0 t.kids.length Cp.no]]),some (Row.lst 25 3 [AV.agg [iI 0,AV.str [],AV.nils]]),some (Row.lst 25 3 [AV.agg [iI (↑t.kind:Int),AV.str t.word,AV.nils]])] F):=by kernel_rfl
theorem rest18 {R:RR} (hR:Free R) (l l':List (Tr × Nat)) (kd:Nat) (w:List UInt8) (F:Fz) (hl:l'.length = l.length) (h2:kd = 6 -> 2 <= l.length) (hn:l.length <= 2000) (hts:TAts F l') (hsz:∀ u ∈ l'.map Prod.fst,size u <= 4096) (HP:HPt) :
  SafeX Try.prog (R5 R l) [] (tailC 3 fi18.body) (fam18 (kd:Int) w l.length l.length l') F (fun e st F' => Fin18 (chk (outOf kd w (l'.map Prod.fst))) F e st F') HP:=by
 by_cases hk:kd = 6
 ·subst hk
  have h2:=h2 rfl
  by_cases h4:l.length > 4
  ·rw [split3]
   refine SafeX.seq ?_
   have e:chk (outOf 6 w (l'.map Prod.fst)) = none:=by unfold outOf; rw [if_pos rfl,if_pos (by rw [List.length_map]; omega)]; rfl
   have h1:SafeX Try.prog (R5 R l) [] (hdC (tailC 3 fi18.body)) (fam18 ((6:Nat):Int) w l.length l.length l') F (fun e st F' => e = .ret /\ F' = F /\ st.tmps.length = 92 /\ nthV st.tmps 2 = .ptr false 1 0 0 /\ nthV st.tmps 3 = .int .i64 6 /\ 3 <= st.rows.length /\ st.rows.live 1 = some (.lst 25 3 [zV])) HP:=by
    refine SafeX.rnx mixed (env18e_ok hR l HP) (f:=18) (fun p hp => by unfold Env.subsOf; rw [show (env18e R l).F 18 = some fi18 by kernel_rfl]; exact subh 3 p hp) 1000 ?_
    refine Eq.mpr (vp18 R ((6:Nat):Int) w l l' l.length (fun e n a b c rows F' => e = .ret /\ F' = F /\ n = 92 /\ a = .ptr false 1 0 0 /\ b = .int .i64 6 /\ 3 <= rows.length /\ rows.live 1 = some (.lst 25 3 [zV])) F) ?_
    exact hcT rfl (hcT (decide_eq_true (by omega)) ⟨rfl,rfl,rfl,rfl,rfl,by simp,rfl⟩)
   refine h1.mono ?_ fun _ _ _ h => h
   rintro e st F' ⟨rfl,rfl,g1,g2,g3,g4,g5⟩
   show Fin18 _ _ _ _ _
   rw [‹chk _ = none›]
   exact ⟨rfl,g1,g2,g4,Up.refl _,.inr ⟨rfl,g3,g5⟩⟩
  ·rcases (by omega:l.length = 2 \/ l.length = 3 \/ l.length = 4) with h | h | h
   ·have h2:l'.length = 2:=by omega
    match l',h2,hts,hsz,hl with
    | [(t0,x0),(t1,x1)],_,hts,hsz,hl =>
     have hln:l.length = 2:=by omega
     have e:outOf 6 w [t0,t1] = some (outAll [t0,t1]):=by unfold outOf; rw [if_pos rfl,if_neg (by simp)]
     show SafeX Try.prog (R5 R l) [] (tailC 3 fi18.body) (fam18 6 w l.length l.length [(t0,x0),(t1,x1)]) F (fun e st F' => Fin18 (chk (outOf 6 w [t0,t1])) F e st F') HP
     rw [e,hln]
     exact all18_2 hR l w t0 t1 x0 x1 F hts (outAll_le (ks:=[t0,t1]) (by simp) hsz) HP
   ·have h2:l'.length = 3:=by omega
    match l',h2,hts,hsz,hl with
    | [(t0,x0),(t1,x1),(t2,x2)],_,hts,hsz,hl =>
     have hln:l.length = 3:=by omega
     have e:outOf 6 w [t0,t1,t2] = some (outAll [t0,t1,t2]):=by unfold outOf; rw [if_pos rfl,if_neg (by simp)]
     show SafeX Try.prog (R5 R l) [] (tailC 3 fi18.body) (fam18 6 w l.length l.length [(t0,x0),(t1,x1),(t2,x2)]) F (fun e st F' => Fin18 (chk (outOf 6 w [t0,t1,t2])) F e st F') HP
     rw [e,hln]
     exact all18_3 hR l w t0 t1 t2 x0 x1 x2 F hts (outAll_le (ks:=[t0,t1,t2]) (by simp) hsz) HP
   ·have h2:l'.length = 4:=by omega
    match l',h2,hts,hsz,hl with
    | [(t0,x0),(t1,x1),(t2,x2),(t3,x3)],_,hts,hsz,hl =>
     have hln:l.length = 4:=by omega
     have e:outOf 6 w [t0,t1,t2,t3] = some (outAll [t0,t1,t2,t3]):=by unfold outOf; rw [if_pos rfl,if_neg (by simp)]
     show SafeX Try.prog (R5 R l) [] (tailC 3 fi18.body) (fam18 6 w l.length l.length [(t0,x0),(t1,x1),(t2,x2),(t3,x3)]) F (fun e st F' => Fin18 (chk (outOf 6 w [t0,t1,t2,t3])) F e st F') HP
     rw [e,hln]
     exact all18_4 hR l w t0 t1 t2 t3 x0 x1 x2 x3 F hts (outAll_le (ks:=[t0,t1,t2,t3]) (by simp) hsz) HP
 ·rw [split3]
  refine SafeX.seq ?_
  have hz:size (.mk kd w (l'.map Prod.fst)) <= 10000000:=by
   have:=sizes_bd hsz
   rw [List.length_map] at this
   simp only [size]
   have h3:4096 * l'.length <= 4096 * 2000:=Nat.mul_le_mul_left _ (by omega)
   omega
  have e:outOf kd w (l'.map Prod.fst) = some (.mk kd w (l'.map Prod.fst)):=by unfold outOf; rw [if_neg hk]
  have h1:SafeX Try.prog (R5 R l) [] (hdC (tailC 3 fi18.body)) (fam18 (kd:Int) w l.length l.length l') F (fun e st F' => e = .normal /\ F' = F /\ st = famE3 (kd:Int) w l') HP:=by
   have h0:SafeX Try.prog (R5 R l) [] (hdC (tailC 3 fi18.body)) (fam18 (kd:Int) w l.length l.length l') F (fun e st F' => e = .normal /\ F' = F /\ st.tmps.length = 92 /\ nthV st.tmps 2 = .ptr false 1 0 0 /\ nthV st.tmps 4 = .ptr false 2 0 0 /\ st.rows = (fam18 (kd:Int) w l.length l.length l').rows) HP:=by
    refine SafeX.rnx mixed (env18e_ok hR l HP) (f:=18) (fun p hp => by unfold Env.subsOf; rw [show (env18e R l).F 18 = some fi18 by kernel_rfl]; exact subh 3 p hp) 1000 ?_
    refine Eq.mpr (vp18 R (kd:Int) w l l' l.length (fun e n a b c rows F' => e = .normal /\ F' = F /\ n = 92 /\ a = .ptr false 1 0 0 /\ c = .ptr false 2 0 0 /\ rows = (fam18 (kd:Int) w l.length l.length l').rows) F) ?_
    exact hcF (by rw [beq_eq_false_iff_ne]; omega) ⟨rfl,rfl,rfl,rfl,rfl,rfl⟩
   refine SafeX.post h0 ?_
   rintro e ⟨TM,rows⟩ F' _ ⟨rfl,rfl,g1,g2,g3,g4⟩
   simp only at g1 g2 g3 g4
   subst g4
   refine ToX.fitW (stE:=famE3 (kd:Int) w l') some ⟨fun c c' b r r' _ _ h h' => by cases h; cases h'; rfl,fun c r hc => ?_⟩ ?_ (fun _ _ => rfl) (by simp) (ToX.here ⟨rfl,rfl,rfl⟩)
   ·match c with
    | 0 => cases hc
    | 1 => cases hc; exact .inl ⟨1,_,rfl,rfl,(RowG.lst1' rfl rfl).vw _ _⟩
    | 2 => cases hc; exact .inl ⟨2,_,rfl,rfl,o5_v rfl (by simp)⟩
    | 3 => cases hc; exact .inl ⟨3,_,rfl,rfl,(krow_g l').vw _ _⟩
    | c + 4 => simp [Rows.live] at hc
   ·show VwL some 4 tm18e TM
    rw [tm18e_spr]
    exact VwL.ofKnown g1 ⟨by rw [g2]; exact Vw.ptrI (by simp) rfl,by rw [g3]; exact Vw.ptrI (by simp) rfl,trivial⟩
  refine h1.mono ?_ fun _ _ _ h => h
  rintro e st F' ⟨rfl,rfl,rfl⟩
  rw [‹outOf _ _ _ = _›]
  exact end18_3 hR l kd w l' F' hts hz HP
theorem exprRow18 (t:Tr) (x:Nat):RowG (.lst 25 3 [exprV t x]):=.lst1' rfl rfl
inductive End18 (o:Option Tr) (F:Fz):Exit -> St -> Fz -> Prop
 | ok (t:Tr) (x:Nat) (F':Fz) (h:o = some t) (hu:Up F F') (ht:TAt F' t x):End18 o F .ret (endS 0 (exprV t x)) F'
 | big (F':Fz) (h:o = none) (hu:Up F F'):End18 o F .ret (endS 6 zV) F'
theorem endS_spr (c:Int) (v:AV):(endS c v).tmps = Dc.spr [(2,.ptr false 1 0 0),(3,.int .i64 c)] 0 92:=by kernel_rfl
theorem to_end {R:RR} {nk:Nat} {TM:List AV} {rows:Rows} {c:Int} {v:AV} {F:Fz} {S:St -> Fz -> Prop} (hnk:nk <= 3) (g1:TM.length = 92) (g2:nthV TM 2 = .ptr false 1 0 0) (g3:nthV TM 3 = .int .i64 c) (g4:rows.live 1 = some (.lst 25 3 [v])) (hv:RowG (.lst 25 3 [v])) (hS:S (endS c v) F):ToX R [] nk ⟨TM,rows⟩ F S:=by
 refine ToX.fitW (stE:=endS c v) some ⟨fun c c' b r r' _ _ h h' => by cases h; cases h'; rfl,fun c r hc => ?_⟩ ?_ (fun _ _ => rfl) (by simp; omega) (ToX.here hS)
 ·match c with
  | 0 => cases hc
  | 1 => cases hc; exact .inl ⟨1,_,rfl,g4,hv.vw _ _⟩
  | 2 => cases hc
  | c + 3 => simp [Rows.live] at hc
 ·show VwL some 3 (endS c v).tmps TM
  rw [endS_spr]
  exact VwL.ofKnown g1 ⟨by rw [g2]; exact Vw.ptrI (by simp) rfl,by rw [g3]; exact Vw.intI,trivial⟩
theorem tail18 {R:RR} (hR:Free R) (l:List (Tr × Nat)) (kd:Nat) (w:List UInt8) (F:Fz) (hs:∀ p ∈ l,SprOK p.1) (h2:kd = 6 -> 2 <= l.length) (hn:l.length <= 2000) (hts:TAts F l) (HP:HPt) :
  SafeX Try.prog (R5 R l) [] (tailC 2 fi18.body) (st18 (kd:Int) w l.length) F (End18 (spr (.mk kd w (l.map Prod.fst))) F) HP:=by
 have main:SafeX Try.prog (R5 R l) [] (tailC 2 fi18.body) (st18 (kd:Int) w l.length) F (fun e st F' => Fin18 (spr (.mk kd w (l.map Prod.fst))) F e st F') HP:=by
  rw [split2]
  refine SafeX.seq ?_
  refine SafeX.rnx mixed ((env18_ok hR hs HP).addLoop (f:=18) (fi:=fi18) (by kernel_rfl) (i:=0) (body:=.loop (loopOf fi18 0)) (by kernel_rfl) (loop18 hR (kd:Int) w hs (by omega) HP)) (f:=18) (fun p hp => by unfold Env.subsOf; rw [show ((env18 R l).addLoop 18 0 (lp18 (kd:Int) w l)).F 18 = some fi18 by kernel_rfl]; exact subh 2 p hp) 1000 ?_
  refine Eq.mpr (vq18 R (kd:Int) w l l _ F) ?_
  refine ⟨rfl,rfl,rfl,rfl,rfl,rfl,rfl,rfl,hts,?_,?_⟩
  ·intro ks hks l' F' hm hu hts'
   have hle:=sprs_le hks.is
   subst hm
   have e:spr (.mk kd w (l.map Prod.fst)) = chk (outOf kd w (l'.map Prod.fst)):=by rw [spr_mk,hks.is]
   have hl:l'.length = l.length:=by have:=hle.1; simpa using this
   show SafeX Try.prog (R5 R l) [] (tailC 3 fi18.body) (fam18 (kd:Int) w l.length l.length l') F' (fun e st F' => Fin18 (spr (.mk kd w (l.map Prod.fst))) F e st F') HP
   rw [e]
   exact (rest18 hR l l' kd w F' hl h2 hn hts' hle.2 HP).mono (fun e st F2 h => h.le hu) fun _ _ _ h => h
  ·intro hb F' hu
   have e:spr (.mk kd w (l.map Prod.fst)) = none:=by rw [spr_mk,hb.is]
   show Fin18 (spr (.mk kd w (l.map Prod.fst))) F .ret bad18 F'
   rw [e]
   exact ⟨rfl,by kernel_rfl,by kernel_rfl,by simp,hu,.inr ⟨rfl,by kernel_rfl,rfl⟩⟩
 refine SafeX.post main ?_
 rintro e ⟨TM,rows⟩ F' _ ⟨rfl,g1,g2,g3,hu,⟨t,x,ho,ht,g4,g5⟩ | ⟨ho,g4,g5⟩⟩
 ·exact to_end (Nat.le_refl 3) g1 g2 g4 g5 (exprRow18 t x) (.ok t x F' ho hu ht)
 ·exact to_end (Nat.le_refl 3) g1 g2 g4 g5 (.lst1' rfl rfl) (.big F' ho hu)
theorem res18:fi18.results = [.cell 2 25,.tmp 3]:=by kernel_rfl
theorem split_st (kd:Int) (w:List UInt8) (x n:Nat):nmSt 5 x (st18 kd w n) = ⟨(st18 kd w n).tmps,[some (.lst 25 3 [.agg [.int .i64 kd,.str w,.sl true (x + 15) 0 n .no]]),some (.lst 25 3 [zV]),some (.lst 25 3 [.agg [.int .i64 kd,.str w,.nils]])]⟩:=by kernel_rfl
theorem st18_spr (kd:Int) (w:List UInt8) (n:Nat):(st18 kd w n).tmps = Dc.spr [(1,.ptr false 0 0 0),(2,.ptr false 1 0 0),(4,.ptr false 2 0 0)] 0 92:=by kernel_rfl
theorem End18.nm {o:Option Tr} {F F':Fz} {e:Exit} {st:St} {x:Nat} (h:End18 o F e st F'):nmSt 5 x st = st:=by cases h <;> kernel_rfl
theorem spr_step (kd:Nat) (w:List UInt8) (kids:List Tr) (h2:kd = 6 -> 2 <= kids.length) (hn:kids.length <= 2000) (hs:∀ u ∈ kids,SprOK u):SprOK (.mk kd w kids):=by
 intro R hR x F k0 HP hx hok hbad
 obtain ⟨l,hl,hfr,hts⟩:=hx.kids
 subst hl
 rw [List.length_map] at h2 hn
 have tl:=tail18 hR l kd w F (fun p hp => hs p.1 (List.mem_map_of_mem hp)) h2 hn hts (fun _ _ _ => False)
 have s5:=SafeX.swap (R:=R) (k:=5) (x:=x) (by decide) hfr hR.n hR.q tl (Q1:=End18 (spr (.mk kd w (l.map Prod.fst))) F) (HP1:=fun _ _ _ => False) (fun e st' F' _ h => ⟨h.nm,h⟩) (fun v h' F' _ h => h.elim)
 rw [split_st] at s5
 refine SafeCallX.post (Q:=fun v h' F' => Spr (.mk kd w (l.map Prod.fst)) F v F') (HP:=fun _ _ _ => False) ?_ ?_ (fun v h' F' _ h => h.elim)
 ·refine SafeCallX.of_body (fi:=fi18) (bx_ok R [] (fun _ _ _ => False)).T ((bx_ok R [] (fun _ _ _ => False)).F 18 fi18 (by kernel_rfl)) ?_
  have main:SafeX Try.prog R [] fi18.body ⟨enterT [exprV (.mk kd w (l.map Prod.fst)) x] fi18.ntmps,[]⟩ F (End18 (spr (.mk kd w (l.map Prod.fst))) F) (fun _ _ _ => False):=by
   refine chain_ok (bx_ok R [] _) (f:=18) (K:=fun st F1 => F1 = F /\ st.tmps.length = 92 /\ nthV st.tmps 1 = .ptr false 0 0 0 /\ nthV st.tmps 2 = .ptr false 1 0 0 /\ nthV st.tmps 4 = .ptr false 2 0 0 /\ st.rows = [some (.lst 25 3 [.agg [.int .i64 (kd:Int),.str w,.sl true (x + 15) 0 l.length .no]]),some (.lst 25 3 [zV]),some (.lst 25 3 [.agg [.int .i64 (kd:Int),.str w,.nils]])]) 1000 2 fi18.body _ _ (fun p hp => by unfold Env.subsOf; rw [show (bx R).F 18 = some fi18 by kernel_rfl]; exact hp) ?_ ?_
   ·rintro ⟨TM,rows⟩ F1 ⟨rfl,h1,h2,h3,h4,h5⟩
    simp only at h1 h2 h3 h4 h5
    subst h5
    refine SafeX.pre (ToX.fitW (stE:=⟨(st18 (kd:Int) w l.length).tmps,_⟩) some ⟨fun c c' b r r' _ _ h h' => by cases h; cases h'; rfl,fun c r hc => ?_⟩ ?_ (fun _ _ => rfl) (Nat.le_refl _) (ToX.here s5))
    ·match c with
     | 0 => cases hc; exact .inl ⟨0,_,rfl,rfl,(RowG.lst1' rfl rfl).vw _ _⟩
     | 1 => cases hc; exact .inl ⟨1,_,rfl,rfl,(RowG.lst1' rfl rfl).vw _ _⟩
     | 2 => cases hc; exact .inl ⟨2,_,rfl,rfl,(RowG.lst1' rfl rfl).vw _ _⟩
     | c + 3 => simp [Rows.live] at hc
    ·show VwL some 3 (st18 (kd:Int) w l.length).tmps TM
     rw [st18_spr]
     exact VwL.ofKnown h1 ⟨by rw [h2]; exact Vw.ptrI (by simp) rfl,by rw [h3]; exact Vw.ptrI (by simp) rfl,by rw [h4]; exact Vw.ptrI (by simp) rfl,trivial⟩
   ·refine Eq.mpr (vs18 R (.mk kd w (l.map Prod.fst)) x (End18 (spr (.mk kd w (l.map Prod.fst))) F) (fun n a b c rows F1 => F1 = F /\ n = 92 /\ a = .ptr false 0 0 0 /\ b = .ptr false 1 0 0 /\ c = .ptr false 2 0 0 /\ rows = [some (.lst 25 3 [.agg [.int .i64 (kd:Int),.str w,.sl true (x + 15) 0 l.length .no]]),some (.lst 25 3 [zV]),some (.lst 25 3 [.agg [.int .i64 (kd:Int),.str w,.nils]])]) F) ?_
    refine ⟨rfl,rfl,rfl,rfl,rfl,?_⟩
    simp only [Tr.kids,Tr.kind,Tr.word,List.length_map]
  refine main.mono ?_ fun _ _ _ h => h
  rintro e st' F' h
  cases h with
  | ok t x' _ h hu ht => exact ⟨.inr rfl,[exprV t x',.int .i64 0],by rw [res18]; exact ⟨_,[.int .i64 0],rfl,rfl,_,[],rfl,rfl,rfl⟩,.ok t x' F' h hu ht⟩
  | big _ h hu => exact ⟨.inr rfl,[zV,.int .i64 6],by rw [res18]; exact ⟨_,[.int .i64 6],rfl,rfl,_,[],rfl,rfl,rfl⟩,.big F' h hu⟩
 ·rintro v h' F' _ ho
  refine nil_fit ho.gnd ?_
  cases ho with
  | ok t' x' _ h hu ht => exact hok t' h x' F' hu ht
  | big _ h hu => exact hbad h F' hu
mutual
theorem sprOK:∀ (t:Tr),Frm t -> sz t <= 2000 -> SprOK t
 | .mk k w kids,hf,hz => by
  simp only [Frm] at hf
  simp only [sz] at hz
  have:=szs_len kids
  exact spr_step k w kids (fun h => (hf.1.c (.inr (.inr h))).2) (by omega) (sprOKs kids hf.2 (by omega))
theorem sprOKs:∀ (ts:List Tr),Frms ts -> szs ts <= 2000 -> ∀ u ∈ ts,SprOK u
 | [],_,_,u,h => by cases h
 | t :: ts,hf,hz,u,h => by
  simp only [Frms] at hf
  simp only [szs] at hz
  rcases List.mem_cons.1 h with e | h
  ·rw [e]; exact sprOK t hf.1 (by omega)
  ·exact sprOKs ts hf.2 (by omega) u h
end
def spec18:CallSpecX:=fun args h k => match args with
 | [a] => fun F => ∃ t x,a = exprV t x /\ TAt F t x /\ (Frm t /\ sz t <= 2000) /\ (∀ t',SprIs t (some t') -> ∀ x' F',Up F F' -> TAt F' t' x' -> k (.tup [exprV t' x',.int .i64 0]) h F') /\ (SprIs t none -> ∀ F',Up F F' -> k (.tup [zV,.int .i64 6]) h F')
 | _ => botX
theorem spec18_ok {R:RR} (hR:Free R) (HP:HPt):∀ args h k F,spec18 args h k F -> SafeCallX Try.prog R 18 args h F k HP:=by
 intro args h k F hk
 unfold spec18 at hk
 split at hk
 ·obtain ⟨t,x,rfl,hx,hf,hok,hbad⟩:=hk
  have h0:SafeCallX Try.prog R 18 [exprV t x] [] F (fun v h' F' => gnd v = true /\ Spr t F v F') (fun v h' F' => gnd v = true /\ False):=by
   refine (spr_any (sprOK t hf.1 hf.2) hR hx.is (fun _ _ _ => False)).mono ?_ ?_
   ·rintro v h' F' _ ⟨h,_⟩; exact ⟨h.gnd,h⟩
   ·rintro v h' F' _ h; exact h.elim
  refine (SafeCallX.at0 rfl h0).mono ?_ ?_
  ·rintro v h' F' _ ⟨rfl,ho⟩
   cases ho with
   | ok t' x' _ h hu ht => exact hok t' ⟨h⟩ x' F' hu ht
   | big _ h hu => exact hbad ⟨h⟩ F' hu
  ·rintro v h' F' _ ⟨_,h⟩; exact h.elim
 ·exact hk.elim
structure TrsA (N:List NE) (ts:List Tr) (is:List Nat):Prop where
 is:TrNs N ts is
abbrev grw (n:Nat) (t:Tr):Nat:=n + 30 * size t
structure Fit19 (t:Tr):Prop where
 f:Frm t
 z:size t <= 2000
 s:sz t <= 2000
structure G19 (N:List NE) (F:Fz) (N':List NE) (F':Fz) (g:Nat):Prop where
 mo:Mo N N'
 nf:NF F' N'
 up:Up F F'
 le:N'.length <= g
def spec19k (ts:List Tr) (is:List Nat):CallSpecX:=fun args h k => match args with
 | [.ptr false b 0 0,.int .i64 i] => atT botX h b fun c n root => fun F => ∃ (N:List NE) (j:Nat),n = N.length /\ h.live c = some (arow N) /\ j < ts.length /\ i = (is.getD j 0:Nat) /\ NF F N /\ TrsA N ts is /\ grw N.length (ts.getD j tD) <= 90000 /\
   (∀ t',SprIs (ts.getD j tD) (some t') -> ∀ N' i' F',G19 N F N' F' (grw N.length (ts.getD j tD)) -> TrA N' t' i' -> k (.int .i64 (i':Nat)) (addRows h b c root N') F') /\ (SprIs (ts.getD j tD) none -> ∀ N' F',G19 N F N' F' (grw N.length (ts.getD j tD)) -> k (.int .i64 (-1)) (addRows h b c root N') F')
 | _ => botX
noncomputable abbrev env19 (R:RR) (ts:List Tr) (is:List Nat):EnvX:=(((bx (R6 R is)).addCall 28 spec28).addCall 16 spec16).addCall 19 (spec19k ts is)
noncomputable abbrev tm19 (m j:Nat):List AV:=[.ptr false 0 0 0,.any,.any,.any,.any,.ptr false 2 0 0,.sl false 4 0 m .no,.int .i64 (j:Nat),.any,.any,.any,.any,.any,.any,.any,.any,.any,.any,.any,.any,.any,.any,.any,.any,.any,.any,.any,.any,.any,.any,.any,.any,.any,.any,.any,.any,.any,.any,.any,.any,.any,.any,.any,.any,.any,.any,.any,.any,.any,.any,.any,.any,.any,.any,.any,.any,.any,.any,.any,.any,.any,.any,.any,.any,.any,.any,.any,.any,.any,.any,.any,.any,.any,.any,.any,.any,.any,.any,.any,.any,.any,.any,.any,.any,.any,.any,.any,.any,.any,.any,.any,.any,.any,.any,.any,.any,.any,.any,.any,.any,.any,.any,.any,.any,.any,.any,.any,.any,.any,.any,.any,.any,.any,.any,.any,.any,.any,.any,.any,.any,.any,.any,.any,.any,.any,.any,.any,.any,.any,.any,.any,.any,.any]
noncomputable abbrev tm19s:List AV:=[.ptr false 0 0 0,.any,.any,.any,.any,.ptr false 2 0 0,.any,.any,.any,.any,.any,.any,.any,.any,.any,.any,.any,.any,.any,.any,.any,.any,.any,.any,.any,.any,.any,.any,.any,.any,.any,.any,.any,.any,.any,.any,.any,.any,.any,.any,.any,.any,.any,.any,.any,.any,.any,.any,.any,.any,.any,.any,.any,.any,.any,.any,.any,.any,.any,.any,.any,.any,.any,.any,.any,.any,.any,.any,.any,.any,.any,.any,.any,.any,.any,.any,.any,.any,.any,.any,.any,.any,.any,.any,.any,.any,.any,.any,.any,.any,.any,.any,.any,.any,.any,.any,.any,.any,.any,.any,.any,.any,.any,.any,.any,.any,.any,.any,.any,.any,.any,.any,.any,.any,.any,.any,.any,.any,.any,.any,.any,.any,.any,.any,.any,.any,.any,.any,.any,.any,.any,.any,.any]
abbrev e6r (kd:Int) (w:List UInt8) (n:Nat):Row:=.lst 62 3 [.agg [.int .i64 kd,.str w,.sl true 6 0 n .no]]
noncomputable abbrev st19 (kd:Int) (w:List UInt8) (n:Nat) (root:Int) (N:List NE):St:=⟨tm19s,[some (trow 1 N.length root),some (arow N),some (e6r kd w n)]⟩
noncomputable abbrev fam19 (kd:Int) (w:List UInt8) (n j:Nat) (root:Int) (N:List NE) (l:List Nat):St:=⟨tm19 l.length j,[some (trow 3 N.length root),none,some (e6r kd w n),some (arow N),some (nrow l)]⟩
noncomputable abbrev bad19 (root:Int) (N:List NE):St:=⟨[.any,.any,.any,.any,.int .i64 (-1),.any,.any,.any,.any,.any,.any,.any,.any,.any,.any,.any,.any,.any,.any,.any,.any,.any,.any,.any,.any,.any,.any,.any,.any,.any,.any,.any,.any,.any,.any,.any,.any,.any,.any,.any,.any,.any,.any,.any,.any,.any,.any,.any,.any,.any,.any,.any,.any,.any,.any,.any,.any,.any,.any,.any,.any,.any,.any,.any,.any,.any,.any,.any,.any,.any,.any,.any,.any,.any,.any,.any,.any,.any,.any,.any,.any,.any,.any,.any,.any,.any,.any,.any,.any,.any,.any,.any,.any,.any,.any,.any,.any,.any,.any,.any,.any,.any,.any,.any,.any,.any,.any,.any,.any,.any,.any,.any,.any,.any,.any,.any,.any,.any,.any,.any,.any,.any,.any,.any,.any,.any,.any,.any,.any,.any,.any,.any,.any],[some (trow 3 N.length root),none,none,some (arow N)]⟩
def lp19 (kd:Int) (w:List UInt8) (ts:List Tr) (is:List Nat) (g:Nat):LoopSpX:=fun st k F => st.tmps.length = 133 /\ nthV st.tmps 0 = .ptr false 0 0 0 /\ nthV st.tmps 5 = .ptr false 2 0 0 /\ nthV st.tmps 6 = .nils /\ nthV st.tmps 7 = .int .i64 0 /\
 ∃ (root:Int) (N:List NE),st.rows = [some (trow 1 N.length root),some (arow N),some (e6r kd w is.length)] /\ NF F N /\ TrsA N ts is /\ N.length + 30 * sizes ts <= g /\
 (∀ us,SprsIs ts (some us) -> ∀ N' (l:List Nat) F',G19 N F N' F' g -> TrsA N' us l -> k .normal (fam19 kd w is.length is.length root N' l) F') /\ (SprsIs ts none -> ∀ N' F',G19 N F N' F' g -> k .ret (bad19 root N') F')
theorem vr19 (R:RR) (kd:Int) (w:List UInt8) (ts:List Tr) (is:List Nat) (j:Nat) (root:Int) (N:List NE) (l:List Nat) (q:Exit -> Nat -> List AV -> Rows -> Fz -> Prop) (F:Fz):rnx (env19 R ts is) 1000 19 (loopOf fi19 0) (fam19 kd w is.length j root N l) (fun e st => q e st.tmps.length [nthV st.tmps 0,nthV st.tmps 4,nthV st.tmps 5,nthV st.tmps 6,nthV st.tmps 7] st.rows) F = (bif decide ((↑j:Int) < (↑is.length:Int)) then bif true && decide ((↑j:Int) < (↑is.length:Int)) then bif decide (0 + (↑j:Int).toNat < ((env19 R ts is).R 6).n) then ∃ (N_1:List NE),∃ (j_1:Nat),N.length = N_1.length /\ some (Row.gen 62 3 N.length fun (i:Nat) => neV (N.getD i dN)) = some (Row.gen 62 3 N_1.length fun (i:Nat) => neV (N_1.getD i dN)) /\ j_1.succ.le ts.length /\ (↑(is.getD (0 + (↑j:Int).toNat) 0):Int) = (↑(is.getD j_1 0):Int) /\ NF F N_1 /\ TrsA N_1 ts is /\ (grw N_1.length (ts.getD j_1 tD)).le 90000 /\ (∀ (t':Tr),SprIs (ts.getD j_1 tD) (some t') -> ∀ (N':List NE) (i':Nat) (F':Fz),G19 N_1 F N' F' (grw N_1.length (ts.getD j_1 tD)) -> TrA N' t' i' -> bif decide (0 + l.length <= l.length) && (true && (true && decide (((Src.gen l.length fun (j:Nat) => iI (↑(l.getD (0 + j) 0):Int)).len + 1) * 8 <= 140737488355328))) then q Exit.normal 133 [AV.ptr false 0 0 0,AV.any,AV.ptr false 2 0 0,AV.sl false 9 0 ((Src.gen l.length fun (j:Nat) => iI (↑(l.getD (0 + j) 0):Int)).len + 1) Cp.no,iI (IntKind.i64.wrap ((↑j:Int) + 1))] [some (Row.lst 35 2 [AV.agg [AV.sl false 7 0 N'.length Cp.no,iI root]]),none,some (Row.lst 62 3 [AV.agg [iI kd,AV.str w,AV.sl true 6 0 is.length Cp.no]]),none,none,none,none,some (Row.gen 62 3 N'.length fun (i:Nat) => neV (N'.getD i dN)),some (Row.lst 3 1 [iI (↑i':Int)]),some (Row.gen 3 1 ((Src.gen l.length fun (j:Nat) => iI (↑(l.getD (0 + j) 0):Int)).len + 1) fun (j:Nat) => bif j.blt (Src.gen l.length fun (j:Nat) => iI (↑(l.getD (0 + j) 0):Int)).len then iI (↑(l.getD (0 + j) 0):Int) else (Src.lst [iI (↑i':Int)]).at_ (j - (Src.gen l.length fun (j:Nat) => iI (↑(l.getD (0 + j) 0):Int)).len))] F' else False) /\ (SprIs (ts.getD j_1 tD) none -> ∀ (N':List NE) (F':Fz),G19 N_1 F N' F' (grw N_1.length (ts.getD j_1 tD)) -> q Exit.ret 133 [AV.ptr false 0 0 0,iI (-1),AV.ptr false 2 0 0,AV.sl false 4 0 l.length Cp.no,iI (↑j:Int)] [some (Row.lst 35 2 [AV.agg [AV.sl false 7 0 N'.length Cp.no,iI root]]),none,some (Row.lst 62 3 [AV.agg [iI kd,AV.str w,AV.sl true 6 0 is.length Cp.no]]),none,some (Row.gen 3 1 l.length fun (i:Nat) => iI (↑(l.getD i 0):Int)),none,none,some (Row.gen 62 3 N'.length fun (i:Nat) => neV (N'.getD i dN))] F') else False else False else q (Exit.exit 0) 133 [AV.ptr false 0 0 0,AV.any,AV.ptr false 2 0 0,AV.sl false 4 0 l.length Cp.no,iI (↑j:Int)] [some (Row.lst 35 2 [AV.agg [AV.sl false 3 0 N.length Cp.no,iI root]]),none,some (Row.lst 62 3 [AV.agg [iI kd,AV.str w,AV.sl true 6 0 is.length Cp.no]]),some (Row.gen 62 3 N.length fun (i:Nat) => neV (N.getD i dN)),some (Row.gen 3 1 l.length fun (i:Nat) => iI (↑(l.getD i 0):Int))] F):=by kernel_rfl
theorem rows19 {kd:Int} {w:List UInt8} {n:Nat} {root:Int} {N:List NE} {l:List Nat} {c:Nat} {r:Row} (h:Rows.live [some (trow 3 N.length root),none,some (e6r kd w n),some (arow N),some (nrow l)] c = some r):(c = 0 /\ r = trow 3 N.length root) \/ (c = 2 /\ r = e6r kd w n) \/ (c = 3 /\ r = arow N) \/ (c = 4 /\ r = nrow l):=by
 match c,h with
 | 0,h => cases h; exact .inl ⟨rfl,rfl⟩
 | 2,h => cases h; exact .inr (.inl ⟨rfl,rfl⟩)
 | 3,h => cases h; exact .inr (.inr (.inl ⟨rfl,rfl⟩))
 | 4,h => cases h; exact .inr (.inr (.inr ⟨rfl,rfl⟩))
 | 1,h => cases h
 | c + 5,h => simp [Rows.live] at h
theorem row_ne {h:Rows} {a b:Nat} {r r':Row} (h1:h.live a = some r) (h2:h.live b = some r') (hne:r.ty ≠ r'.ty):a ≠ b:=fun e => by
 rw [e,h2] at h1
 exact hne (congrArg Row.ty (Option.some.inj h1)).symm
theorem row_ne2 {h:Rows} {a b:Nat} {r r':Row} (h1:h.live a = some r) (h2:h.live b = some r') (hne:r ≠ r'):a ≠ b:=fun e => by
 rw [e,h2] at h1
 exact hne (Option.some.inj h1).symm
theorem toF19 {R:RR} {T TM:List AV} {h:Rows} {kd root:Int} {w:List UInt8} {n d:Nat} {N:List NE} {l:List Nat} {o:Option Nat} {F:Fz} {S:St -> Fz -> Prop} (h0:h.live 0 = some (trow d N.length root)) (h2:h.live 2 = some (e6r kd w n)) (h3:h.live d = some (arow N))
  (h4:(o = none /\ l = []) \/ ∃ q g,o = some q /\ h.live q = some (.gen 3 1 l.length g) /\ ∀ i,i < l.length -> g i = .int .i64 ((l.getD i 0:Nat):Int))
  (hT:VwL (fiveR d o) 5 T TM) (hS:S ⟨T,[some (trow 3 N.length root),none,some (e6r kd w n),some (arow N),some (nrow l)]⟩ F):ToX R [] 3 ⟨TM,h⟩ F S:=by
 have n0:d ≠ 0:=row_ne h3 h0 (by simp [Row.ty])
 have n2:d ≠ 2:=row_ne2 h3 h2 (by intro e; cases e)
 have q0:∀ q,o = some q -> q ≠ 0 /\ q ≠ 2 /\ q ≠ d:=fun q hq => by
  rcases h4 with ⟨e,_⟩ | ⟨q',g,e,h5,_⟩
  ·rw [e] at hq; cases hq
  ·rw [e] at hq; cases hq
   exact ⟨row_ne h5 h0 (by simp [Row.ty]),row_ne h5 h2 (by simp [Row.ty]),row_ne h5 h3 (by simp [Row.ty])⟩
 have f0:fiveR d o 0 = some 0:=rfl
 have f2:fiveR d o 2 = some 2:=rfl
 have f3:fiveR d o 3 = some d:=rfl
 have f4:fiveR d o 4 = o:=rfl
 refine ToX.fitW (stE:=⟨T,[some (trow 3 N.length root),none,some (e6r kd w n),some (arow N),some (nrow l)]⟩) (fiveR d o) ⟨fun c c' b r r' hc hc' e e' => ?_,fun c r hc => ?_⟩ hT (five_lt (Nat.le_refl 3)) (by simp) (ToX.here hS)
 ·rcases rows19 hc with ⟨rfl,_⟩ | ⟨rfl,_⟩ | ⟨rfl,_⟩ | ⟨rfl,_⟩ <;> rcases rows19 hc' with ⟨rfl,_⟩ | ⟨rfl,_⟩ | ⟨rfl,_⟩ | ⟨rfl,_⟩ <;>
   first
    | rfl
    | (exfalso; simp only [f0,f2,f3,f4] at e e'; first | (have:=q0 _ e; simp only [Option.some.injEq] at e'; omega) | (have:=q0 _ e'; simp only [Option.some.injEq] at e; omega) | (simp only [Option.some.injEq] at e e'; omega))
 ·rcases rows19 hc with ⟨rfl,rfl⟩ | ⟨rfl,rfl⟩ | ⟨rfl,rfl⟩ | ⟨rfl,rfl⟩
  ·exact .inl ⟨0,_,rfl,h0,trow_v rfl (by simp)⟩
  ·exact .inl ⟨2,_,rfl,h2,(RowG.lst1' rfl rfl).vw _ _⟩
  ·exact .inl ⟨d,_,rfl,h3,(arow_g N).vw _ _⟩
  ·rcases h4 with ⟨h,rfl⟩ | ⟨q,g,h,hq,hg⟩
   ·exact .inr ⟨h,rfl⟩
   ·exact .inl ⟨q,_,h,hq,.gen rfl fun i hi => ⟨rfl,by rw [hg i hi]; exact Vw.intI⟩⟩
theorem tm19_spr (m j:Nat):tm19 m j = Dc.spr [(0,.ptr false 0 0 0),(5,.ptr false 2 0 0),(6,.sl false 4 0 m .no),(7,.int .i64 (j:Nat))] 0 133:=by kernel_rfl
theorem bad19_spr (root:Int) (N:List NE):(bad19 root N).tmps = Dc.spr [(4,.int .i64 (-1))] 0 133:=by kernel_rfl
inductive Out19 (t:Tr) (N:List NE) (F:Fz):AV -> List NE -> Fz -> Prop
 | ok (t':Tr) (N':List NE) (i':Nat) (F':Fz) (h:spr t = some t') (g:G19 N F N' F' (grw N.length t)) (ht:TrN N' t' i'):Out19 t N F (.int .i64 (i':Nat)) N' F'
 | big (N':List NE) (F':Fz) (h:spr t = none) (g:G19 N F N' F' (grw N.length t)):Out19 t N F (.int .i64 (-1)) N' F'
theorem Out19.gnd {t:Tr} {N N':List NE} {F F':Fz} {v:AV} (h:Out19 t N F v N' F'):gnd v = true /\ (∀ g,ren g v = v) /\ nm 6 0 v = v:=by cases h <;> exact ⟨rfl,fun _ => rfl,rfl⟩
def Spr19 (t:Tr):Prop:=∀ (R:RR),Free6 R -> ∀ (i:Nat) (root:Int) (N:List NE) (F:Fz) (HP:HPt),NF F N -> TrN N t i -> grw N.length t <= 90000 -> SafeCallX Try.prog R 19 [.ptr false 0 0 0,.int .i64 (i:Nat)] [some (trow 1 N.length root),some (arow N)] F (fun v h' F' => ∃ N',Out19 t N F v N' F' /\ h' = [some (trow 2 N'.length root),none,some (arow N')]) HP
theorem at19 {R:RR} {t:Tr} {i:Nat} {root:Int} {N:List NE} {F:Fz} {h:Rows} {b c:Nat} {k HP:AV -> Rows -> Fz -> Prop} (hb:h.live b = some (trow c N.length root)) (hc:h.live c = some (arow N))
  (hs:SafeCallX Try.prog R 19 [.ptr false 0 0 0,.int .i64 (i:Nat)] [some (trow 1 N.length root),some (arow N)] F (fun v h' F' => ∃ N',Out19 t N F v N' F' /\ h' = [some (trow 2 N'.length root),none,some (arow N')]) (fun _ _ _ => False))
  (hok:∀ t',SprIs t (some t') -> ∀ N' i' F',G19 N F N' F' (grw N.length t) -> TrA N' t' i' -> k (.int .i64 (i':Nat)) (addRows h b c root N') F') (hbad:SprIs t none -> ∀ N' F',G19 N F N' F' (grw N.length t) -> k (.int .i64 (-1)) (addRows h b c root N') F') :
  SafeCallX Try.prog R 19 [.ptr false b 0 0,.int .i64 (i:Nat)] h F k HP:=by
 have ne:b ≠ c:=fun e => by rw [e,hc] at hb; cases hb
 refine (SafeCallX.atN (Q:=fun v os tl F' => ∃ N',os = [some (trow 2 N'.length root),none] /\ tl = [some (arow N')] /\ Out19 t N F v N' F') (HP:=fun _ _ _ _ => False) [b,c] (hL:=[some (trow 1 N.length root),some (arow N)]) (argsL:=[.ptr false 0 0 0,.int .i64 (i:Nat)]) rfl (by simp [ne]) (fun e he => by
   simp only [List.mem_cons,List.not_mem_nil,or_false] at he
   rcases he with rfl | rfl
   ·exact live_lt hb
   ·exact live_lt hc) (fun e q he => by
   match e with
   | 0 => cases he; exact ⟨b,_,rfl,hb,trow_v rfl (by simp)⟩
   | 1 => cases he; exact ⟨c,_,rfl,hc,(arow_g N).vw _ _⟩
   | e + 2 => simp [Rows.live] at he) (VwL.cons (Vw.ptrI (by simp) rfl) (VwL.cons Vw.intI VwL.nil)) (hs.mono ?_ ?_)).mono ?_ ?_
 ·rintro v h' F' _ ⟨N',ho,rfl⟩
  exact ⟨[some (trow 2 N'.length root),none],[some (arow N')],rfl,rfl,N',rfl,rfl,ho⟩
 ·rintro v h' F' _ h; exact h.elim
 ·rintro v h' F' _ ⟨v0,os,tl,rfl,rfl,N',rfl,rfl,ho⟩
  cases ho with
  | ok t' _ i' _ h g ht => exact hok t' ⟨h⟩ N' i' F' g ⟨ht⟩
  | big _ _ h g => exact hbad ⟨h⟩ N' F' g
 ·rintro v h' F' _ ⟨v0,os,tl,_,_,h⟩; exact h.elim
theorem tsAt {ts:List Tr} {j:Nat} (h:j < ts.length):ts.getD j tD ∈ ts:=by rw [List.getD_eq_getElem?_getD,List.getElem?_eq_getElem h]; exact List.getElem_mem h
theorem spec19k_ok {R:RR} (hR:Free6 R) {ts:List Tr} {is:List Nat} (hs:∀ t ∈ ts,Spr19 t) (HP:HPt):∀ args h k F,spec19k ts is args h k F -> SafeCallX Try.prog (R6 R is) 19 args h F k HP:=by
 intro args h k F hk
 unfold spec19k at hk
 split at hk
 ·obtain ⟨c,n,root,hb,N,j,rfl,hc,hj,rfl,hN,hT,hg,hok,hbad⟩:=atT_ofX hk
  refine at19 hb hc ?_ hok hbad
  refine SafeCallX.unread (k:=6) (R:=R) (Q:=fun v h' F' => ∃ N',Out19 (ts.getD j tD) N F v N' F' /\ h' = [some (trow 2 N'.length root),none,some (arow N')]) (HP:=fun _ _ _ => False) (by decide) hR.n hR.q (by kernel_rfl) (by kernel_rfl) (hs _ (tsAt hj) R hR _ root N F _ hN (hT.is.at ts is j hj) hg) ?_ ?_
  ·rintro v h' F' _ ⟨N',ho,rfl⟩; exact ⟨ho.gnd.2.2,by kernel_rfl,N',ho,rfl⟩
  ·rintro v h' F' _ h; exact h.elim
 ·exact hk.elim
theorem spec16u_ok {R:RR} (hR:Free6 R) (is:List Nat) (HP:HPt):∀ args h k F,spec16 args h k F -> SafeCallX Try.prog (R6 R is) 16 args h F k HP:=by
 intro args h k F hk
 unfold spec16 at hk
 split at hk
 ·obtain ⟨c,n,root,hb,t,N,i0,rfl,hc,rfl,hN,ht,hz,hk⟩:=atT_ofX hk
  refine atTree (zs:=[.int .i64 (i0:Nat)]) rfl (fun g => rfl) hb hc ?_ hk
  refine SafeCallX.unread (k:=6) (R:=R) (Q:=fun v h' F' => v = .int .i64 (size t:Nat) /\ h' = [some (trow 1 N.length root),some (arow N)] /\ Up F F') (HP:=fun _ _ _ => False) (by decide) hR.n hR.q (by kernel_rfl) (by kernel_rfl) (sizeN t hz R hR i0 root N F _ _ hN ht.is fun F' hu => ⟨rfl,rfl,hu⟩) ?_ ?_
  ·rintro v h' F' _ ⟨rfl,rfl,hu⟩; exact ⟨rfl,by kernel_rfl,rfl,rfl,hu⟩
  ·rintro v h' F' _ h; exact h.elim
 ·exact hk.elim
theorem env19_ok {R:RR} (hR:Free6 R) {ts:List Tr} {is:List Nat} (hs:∀ t ∈ ts,Spr19 t) (HP:HPt):OKX Try.prog (env19 R ts is) [] HP :=
 (((bx_ok _ [] HP).addCall (f:=28) (fi:=fi28) (by kernel_rfl) (spec28_ok _ HP)).addCall (f:=16) (fi:=fi16) (by kernel_rfl) (spec16u_ok hR is HP)).addCall (f:=19) (fi:=fi19) (by kernel_rfl) (spec19k_ok hR hs HP)
theorem dropT {ts:List Tr} {j:Nat} (h:j < ts.length):ts.drop j = ts.getD j tD :: ts.drop (j + 1):=by
 rw [List.drop_eq_getElem_cons h,List.getD_eq_getElem?_getD,List.getElem?_eq_getElem h]; rfl
theorem loop19 {R : Nat → RoRow} (hR : Free6 R) (kd : Int) (w : List UInt8) {ts : List Tr} {is : List Nat} (g : Nat) (hs : ∀ t ∈ ts, Spr19 t) (hn : ts.length ≤ 100000) (hg : g ≤ 90000) (HP : HPt) :
    ∀ st k F, lp19 kd w ts is g st k F → SafeX Try.prog (R6 R is) [] (.block 0 (.loop (loopOf fi19 0))) st F k HP := by
  rintro ⟨TM, rows⟩ k F ⟨h0, h1, h2, h3, h4, root, N, hr, hN, hT, hgr, hok, hbad⟩
  simp only at h0 h1 h2 h3 h4 hr
  subst hr
  have hlen : ts.length = is.length := hT.is.len
  refine SafeX.loop_block (Inv := fun m st F' => ∃ j N' l us, j ≤ ts.length ∧ m = ts.length - j ∧ l.length = j ∧ G19 N F N' F' g ∧ N'.length + 30 * sizes (ts.drop j) ≤ g ∧ TrNs N' us l ∧ sprs ts = (sprs (ts.drop j)).map (fun vs => us ++ vs) ∧ st = fam19 kd w is.length j root N' l) ?_ ?_
  · refine toF19 (kd := kd) (w := w) (n := is.length) (d := 1) (l := []) (o := none) rfl rfl rfl (.inl ⟨rfl, rfl⟩) (T := tm19 0 0) ?_ ⟨_, 0, N, [], [], Nat.zero_le _, rfl, rfl, ⟨Mo.refl N, hN, Up.refl F, by omega⟩, by rw [List.drop_zero]; exact hgr, by simp only [TrNs], ?_, rfl⟩
    · rw [tm19_spr]
      exact VwL.ofKnown h0 ⟨by rw [h1]; exact Vw.ptrI (by simp) rfl, by rw [h2]; exact Vw.ptrI (by simp) rfl, by rw [h3]; exact Vw.slN (b := 4) (by simp) rfl, by rw [h4]; exact Vw.intI, trivial⟩
    · rw [List.drop_zero]; cases sprs ts <;> rfl
  · rintro m st' F' ⟨j, N', l, us, hj, rfl, hl, hG, hgj, hTj, hW, rfl⟩
    have hlus : us.length = l.length := hTj.len
    have hgw : grw N'.length (ts.getD j tD) = N'.length + 30 * size (ts.getD j tD) := rfl
    have main : SafeX Try.prog (R6 R is) [] (loopOf fi19 0) (fam19 kd w is.length j root N' l) F' (fun e st F2 => st.tmps.length = 133 ∧ nthV st.tmps 0 = .ptr false 0 0 0 ∧ nthV st.tmps 5 = .ptr false 2 0 0 ∧
        ((e = .exit 0 ∧ j = ts.length ∧ F2 = F' ∧ nthV st.tmps 6 = .sl false 4 0 l.length .no ∧ nthV st.tmps 7 = .int .i64 (j : Nat) ∧ st.rows = (fam19 kd w is.length j root N' l).rows) ∨
         (e = .ret ∧ j < ts.length ∧ spr (ts.getD j tD) = none ∧ nthV st.tmps 4 = .int .i64 (-1) ∧ ∃ N2, G19 N' F' N2 F2 (grw N'.length (ts.getD j tD)) ∧ st.rows.live 0 = some (trow 7 N2.length root) ∧ st.rows.live 7 = some (arow N2)) ∨
         (e = .normal ∧ j < ts.length ∧ ∃ t' N2 i', spr (ts.getD j tD) = some t' ∧ G19 N' F' N2 F2 (grw N'.length (ts.getD j tD)) ∧ TrN N2 t' i' ∧ nthV st.tmps 6 = .sl false 9 0 (l ++ [i']).length .no ∧ nthV st.tmps 7 = .int .i64 ((j + 1 : Nat) : Int) ∧ st.rows.live 0 = some (trow 7 N2.length root) ∧ st.rows.live 2 = some (e6r kd w is.length) ∧ st.rows.live 7 = some (arow N2) ∧ ∃ gg, st.rows.live 9 = some (.gen 3 1 (l ++ [i']).length gg) ∧ ∀ i, i < (l ++ [i']).length → gg i = .int .i64 (((l ++ [i']).getD i 0 : Nat) : Int)))) HP := by
      refine SafeX.by mixed (env19_ok hR hs HP) (f := 19) (fi := fi19) (i := 0) (by kernel_rfl) (b := .loop (loopOf fi19 0)) (by kernel_rfl) (subs_loop _) 1000 (vr19 R kd w ts is j root N' l (fun e n T rows F2 => n = 133 ∧ nthV T 0 = .ptr false 0 0 0 ∧ nthV T 2 = .ptr false 2 0 0 ∧
        ((e = .exit 0 ∧ j = ts.length ∧ F2 = F' ∧ nthV T 3 = .sl false 4 0 l.length .no ∧ nthV T 4 = .int .i64 (j : Nat) ∧ rows = (fam19 kd w is.length j root N' l).rows) ∨
         (e = .ret ∧ j < ts.length ∧ spr (ts.getD j tD) = none ∧ nthV T 1 = .int .i64 (-1) ∧ ∃ N2, G19 N' F' N2 F2 (grw N'.length (ts.getD j tD)) ∧ rows.live 0 = some (trow 7 N2.length root) ∧ rows.live 7 = some (arow N2)) ∨
         (e = .normal ∧ j < ts.length ∧ ∃ t' N2 i', spr (ts.getD j tD) = some t' ∧ G19 N' F' N2 F2 (grw N'.length (ts.getD j tD)) ∧ TrN N2 t' i' ∧ nthV T 3 = .sl false 9 0 (l ++ [i']).length .no ∧ nthV T 4 = .int .i64 ((j + 1 : Nat) : Int) ∧ rows.live 0 = some (trow 7 N2.length root) ∧ rows.live 2 = some (e6r kd w is.length) ∧ rows.live 7 = some (arow N2) ∧ ∃ gg, rows.live 9 = some (.gen 3 1 (l ++ [i']).length gg) ∧ ∀ i, i < (l ++ [i']).length → gg i = .int .i64 (((l ++ [i']).getD i 0 : Nat) : Int)))) F') ?_
      have e2 : 0 + ((j : Nat) : Int).toNat = j := by simp
      refine hcB (fun h => hcT (by rw [h]; rfl) (hcT ?_ ?_)) fun h => ⟨rfl, rfl, rfl, .inl ⟨rfl, by have := of_decide_eq_false h; omega, rfl, rfl, rfl, rfl⟩⟩
      · have := of_decide_eq_true h
        rw [e2]; exact decide_eq_true (show j < is.length by omega)
      · have hlt : j < ts.length := by have := of_decide_eq_true h; omega
        have hsz : size (ts.getD j tD) ≤ sizes (ts.drop j) := by rw [dropT hlt]; simp only [sizes]; omega
        refine ⟨N', j, rfl, rfl, hlt, by rw [e2], hG.nf, ⟨hG.mo.trs hT.is⟩, show _ ≤ 90000 by omega, ?_, ?_⟩
        · intro t' ht N2 i' F2 g2 hA
          rw [capN (by omega), wrapSucc j (by omega)]
          exact ⟨rfl, rfl, rfl, .inr (.inr ⟨rfl, hlt, t', N2, i', ht.is, g2, hA.is, by rw [List.length_append]; rfl, rfl, rfl, rfl, rfl, _, by rw [List.length_append]; rfl, nrow_app l i'⟩)⟩
        · intro hb N2 F2 g2
          exact ⟨rfl, rfl, rfl, .inr (.inl ⟨rfl, hlt, hb.is, rfl, N2, g2, rfl, rfl⟩)⟩
    refine main.mono ?_ fun _ _ _ h => h
    rintro e ⟨TM2, rows2⟩ F2 ⟨g0, g1, g2, hx⟩
    simp only at g0 g1 g2 hx
    rcases hx with ⟨rfl, hje, rfl, g3, g4, g5⟩ | ⟨rfl, hlt, hb, g3, N2, hG2, g4, g5⟩ | ⟨rfl, hlt, t', N2, i', ht, hG2, hA, g3, g4, g5, g6, g7, gg, g8, g9⟩
    · subst g5
      have hW2 : sprs ts = some us := by
        rw [hW, hje, List.drop_length]; show some (_ ++ []) = _; rw [List.append_nil]
      refine toF19 (kd := kd) (w := w) (n := is.length) (d := 3) (l := l) (o := some 4) rfl rfl rfl (.inr ⟨4, _, rfl, rfl, fun i hi => rfl⟩) (T := tm19 l.length is.length) ?_ (hok us ⟨hW2⟩ N' l F2 hG ⟨hTj⟩)
      rw [tm19_spr]
      exact VwL.ofKnown g0 ⟨by rw [g1]; exact Vw.ptrI (by simp) rfl, by rw [g2]; exact Vw.ptrI (by simp) rfl, by rw [g3]; exact Vw.slI (by simp) rfl, by rw [g4, hje, hlen]; exact Vw.intI, trivial⟩
    · have hW2 : sprs ts = none := by rw [hW, dropT hlt, sprs_bad hb]; rfl
      have hsz : size (ts.getD j tD) ≤ sizes (ts.drop j) := by rw [dropT hlt]; simp only [sizes]; omega
      have n7 : (7 : Nat) ≠ 0 := by decide
      refine ToX.fitW (stE := bad19 root N2) (mvR 3 7) ⟨fun c c' b r r' hc hc' e e' => ?_, fun c r hc => ?_⟩ ?_ (mvR_lt (Nat.le_refl 3)) (by simp) (ToX.here (hbad ⟨hW2⟩ N2 F2 ⟨hG.mo.trans hG2.mo, hG2.nf, hG.up.trans hG2.up, Nat.le_trans hG2.le (by omega)⟩))
      · match c, c' with
        | 0, 0 => rfl
        | 3, 3 => rfl
        | 0, 3 => cases e; cases e'
        | 3, 0 => cases e; cases e'
        | 1, _ => cases hc
        | 2, _ => cases hc
        | _, 1 => cases hc'
        | _, 2 => cases hc'
        | c + 4, _ => simp [Rows.live] at hc
        | 0, c + 4 => simp [Rows.live] at hc'
        | 3, c + 4 => simp [Rows.live] at hc'
      · match c with
        | 0 => cases hc; exact .inl ⟨0, _, rfl, g4, trow_v rfl (by simp)⟩
        | 1 => cases hc
        | 2 => cases hc
        | 3 => cases hc; exact .inl ⟨7, _, rfl, g5, (arow_g N2).vw _ _⟩
        | c + 4 => simp [Rows.live] at hc
      · rw [bad19_spr]
        exact VwL.ofKnown g0 ⟨by rw [g3]; exact Vw.intI, trivial⟩
    · have hsz : sizes (ts.drop j) = size (ts.getD j tD) + sizes (ts.drop (j + 1)) := by rw [dropT hlt]; simp only [sizes]
      have hle := hG2.le
      refine toF19 (kd := kd) (w := w) (n := is.length) (d := 7) (l := l ++ [i']) (o := some 9) g5 g6 g7 (.inr ⟨9, gg, rfl, g8, g9⟩) (T := tm19 (l ++ [i']).length (j + 1)) ?_ ⟨ts.length - (j + 1), by omega, j + 1, N2, l ++ [i'], us ++ [t'], hlt, rfl, by simp [hl], ⟨hG.mo.trans hG2.mo, hG2.nf, hG.up.trans hG2.up, by omega⟩, by omega, TrNs.snoc hA us l (hG2.mo.trs hTj), ?_, rfl⟩
      · rw [tm19_spr]
        exact VwL.ofKnown g0 ⟨by rw [g1]; exact Vw.ptrI (by simp) rfl, by rw [g2]; exact Vw.ptrI (by simp) rfl, by rw [g3]; exact Vw.slI (by simp) rfl, by rw [g4]; exact Vw.intI, trivial⟩
      · rw [hW, dropT hlt, sprs_cons ht]
        cases sprs (ts.drop (j + 1)) with
        | none => rfl
        | some vs => simp
structure Wk where
 gd:Bool
 ks:List Nat
 d:Nat
def wk (n m:Nat):Nat -> Wk
 | 0 => ⟨true,[],n ^ n⟩
 | i + 1 => ⟨(wk n m i).gd && !((wk n m i).ks.contains (m / ((wk n m i).d / n) % n)),(wk n m i).ks ++ [m / ((wk n m i).d / n) % n],(wk n m i).d / n⟩
abbrev brow (n:Nat) (ks:List Nat):Row:=.gen 4 1 n fun j => .bool (ks.contains j)
noncomputable abbrev tm6 (n al m r i oi d:Nat) (gd:Bool):List AV:=[.ptr false 0 0 0,.any,.any,.any,.any,.any,.sl false 4 0 n .no,.any,.any,.any,.sl false 6 0 r .no,.int .i64 (al:Nat),.any,.int .i64 (m:Nat),.sl false 8 0 oi .no,.sl false 7 0 n .no,.bool gd,.int .i64 (d:Nat),.int .i64 (i:Nat),.any,.any,.any,.any,.any,.any,.any,.any,.any,.any,.any,.any,.any,.any,.any,.any,.any,.any,.any,.any,.any,.any,.any,.any,.any,.any,.any,.any,.any,.any,.any,.any,.any,.any,.any,.any,.any,.any,.any,.any,.any,.any,.any,.any,.any,.any,.any,.any,.any,.any,.any,.any,.any,.any,.any,.any,.any,.any,.any,.any,.any,.any,.any,.any,.any,.any,.any,.any,.any,.any,.any,.any,.any,.any,.any,.any,.any,.any,.any,.any,.any,.any,.any,.any,.any,.any,.any,.any,.any,.any,.any,.any,.any,.any,.any,.any,.any,.any,.any,.any,.any,.any,.any,.any,.any,.any,.any,.any,.any,.any,.any,.any,.any,.any]
noncomputable abbrev fam6 (kd:Int) (w:List UInt8) (n0 al m d:Nat) (gd:Bool) (root:Int) (N:List NE) (l r ks o:List Nat):St:=⟨tm6 l.length al m r.length ks.length o.length d gd,[some (trow 5 N.length root),none,some (e6r kd w n0),none,some (nrow l),some (arow N),some (nrow r),some (brow l.length ks),some (nrow o)]⟩
noncomputable abbrev tmM (n al m r:Nat):List AV:=[.ptr false 0 0 0,.any,.any,.any,.any,.any,.sl false 4 0 n .no,.any,.any,.any,.sl false 6 0 r .no,.int .i64 (al:Nat),.any,.int .i64 (m:Nat),.any,.any,.any,.any,.any,.any,.any,.any,.any,.any,.any,.any,.any,.any,.any,.any,.any,.any,.any,.any,.any,.any,.any,.any,.any,.any,.any,.any,.any,.any,.any,.any,.any,.any,.any,.any,.any,.any,.any,.any,.any,.any,.any,.any,.any,.any,.any,.any,.any,.any,.any,.any,.any,.any,.any,.any,.any,.any,.any,.any,.any,.any,.any,.any,.any,.any,.any,.any,.any,.any,.any,.any,.any,.any,.any,.any,.any,.any,.any,.any,.any,.any,.any,.any,.any,.any,.any,.any,.any,.any,.any,.any,.any,.any,.any,.any,.any,.any,.any,.any,.any,.any,.any,.any,.any,.any,.any,.any,.any,.any,.any,.any,.any,.any,.any,.any,.any,.any,.any]
noncomputable abbrev famM (kd:Int) (w:List UInt8) (n0 al m:Nat) (root:Int) (N:List NE) (l r:List Nat):St:=⟨tmM l.length al m r.length,[some (trow 5 N.length root),none,some (e6r kd w n0),none,some (nrow l),some (arow N),some (nrow r)]⟩
def lpB6 (kd:Int) (w:List UInt8) (n0 al m:Nat):LoopSpX:=fun st k F => st.tmps.length = 133 /\ nthV st.tmps 0 = .ptr false 0 0 0 /\ ∃ (cp:Cp) (root:Int) (N:List NE) (l r:List Nat),nthV st.tmps 6 = .sl false 4 0 l.length .no /\ nthV st.tmps 10 = .sl false 6 0 r.length .no /\ nthV st.tmps 11 = .int .i64 (al:Nat) /\ nthV st.tmps 13 = .int .i64 (m:Nat) /\ nthV st.tmps 14 = .nils /\ nthV st.tmps 15 = .sl false 7 0 l.length cp /\ nthV st.tmps 16 = .bool true /\ nthV st.tmps 17 = .int .i64 (al:Nat) /\ nthV st.tmps 18 = .int .i64 0 /\
 st.rows = [some (trow 5 N.length root),none,some (e6r kd w n0),none,some (nrow l),some (arow N),some (nrow r),some (.gen 4 1 l.length fun _ => .bool false)] /\ al = l.length ^ l.length /\ m < al /\ al <= 100000 /\ l.length <= 1000 /\
 k .normal (fam6 kd w n0 al m (wk l.length m l.length).d (wk l.length m l.length).gd root N l r (wk l.length m l.length).ks ((wk l.length m l.length).ks.map fun i => l.getD i 0)) F
noncomputable abbrev env6s (R:RR) (is:List Nat):EnvX:=((bx (R6 R is)).addCall 28 spec28).addCall 16 spec16
end Go.Dc.Ke
end
