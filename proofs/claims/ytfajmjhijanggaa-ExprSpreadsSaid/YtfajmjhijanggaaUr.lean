/- Expressions: without Alls: all orders, one. -/
import Derived.Test.YtfajmjhijanggaaUj0
set_option linter.unusedVariables false
set_option linter.unusedSimpArgs false
section
namespace Go.Dc.Ke
open Go.Proofs Go.RowKit Go.Shelf
set_option maxRecDepth 100000
theorem vr6 (R:RR) (is:List Nat) (kd:Int) (w:List UInt8) (n0 al m d:Nat) (gd:Bool) (root:Int) (N:List NE) (l r ks o:List Nat) (q:Exit -> Nat -> List AV -> Rows -> Fz -> Prop) (F:Fz):rnx (env6s R is) 1000 19 (loopOf fi19 6) (fam6 kd w n0 al m d gd root N l r ks o) (fun e st => q e st.tmps.length [nthV st.tmps 0,nthV st.tmps 6,nthV st.tmps 10,nthV st.tmps 11,nthV st.tmps 13,nthV st.tmps 14,nthV st.tmps 15,nthV st.tmps 16,nthV st.tmps 17,nthV st.tmps 18] st.rows) F = (bif decide ((↑ks.length:Int) < (↑l.length:Int)) then bif (↑l.length:Int) != 0 then bif IntKind.i64.wrap ((↑d:Int).tdiv (↑l.length:Int)) != 0 then bif (↑l.length:Int) != 0 then bif gd then bif decide (0 <= (IntKind.i64.wrap ((↑m:Int).tdiv (IntKind.i64.wrap ((↑d:Int).tdiv (↑l.length:Int))))).tmod (↑l.length:Int)) && decide ((IntKind.i64.wrap ((↑m:Int).tdiv (IntKind.i64.wrap ((↑d:Int).tdiv (↑l.length:Int))))).tmod (↑l.length:Int) < (↑l.length:Int)) then bif decide (0 + ((IntKind.i64.wrap ((↑m:Int).tdiv (IntKind.i64.wrap ((↑d:Int).tdiv (↑l.length:Int))))).tmod (↑l.length:Int)).toNat < l.length) then bif decide (0 <= (IntKind.i64.wrap ((↑m:Int).tdiv (IntKind.i64.wrap ((↑d:Int).tdiv (↑l.length:Int))))).tmod (↑l.length:Int)) && decide ((IntKind.i64.wrap ((↑m:Int).tdiv (IntKind.i64.wrap ((↑d:Int).tdiv (↑l.length:Int))))).tmod (↑l.length:Int) < (↑l.length:Int)) then bif decide (0 + ((IntKind.i64.wrap ((↑m:Int).tdiv (IntKind.i64.wrap ((↑d:Int).tdiv (↑l.length:Int))))).tmod (↑l.length:Int)).toNat < l.length) then bif decide (0 <= (IntKind.i64.wrap ((↑m:Int).tdiv (IntKind.i64.wrap ((↑d:Int).tdiv (↑l.length:Int))))).tmod (↑l.length:Int)) && decide ((IntKind.i64.wrap ((↑m:Int).tdiv (IntKind.i64.wrap ((↑d:Int).tdiv (↑l.length:Int))))).tmod (↑l.length:Int) < (↑l.length:Int)) then bif decide (0 + ((IntKind.i64.wrap ((↑m:Int).tdiv (IntKind.i64.wrap ((↑d:Int).tdiv (↑l.length:Int))))).tmod (↑l.length:Int)).toNat < l.length) then bif decide (0 + o.length <= o.length) && (true && (true && decide (((Src.gen o.length fun (j:Nat) => iI (↑(o.getD (0 + j) 0):Int)).len + 1) * 8 <= 140737488355328))) then q Exit.normal 133 [AV.ptr false 0 0 0,AV.sl false 4 0 l.length Cp.no,AV.sl false 6 0 r.length Cp.no,iI (↑al:Int),iI (↑m:Int),AV.sl false 10 0 ((Src.gen o.length fun (j:Nat) => iI (↑(o.getD (0 + j) 0):Int)).len + 1) Cp.no,AV.sl false 7 0 l.length Cp.no,AV.bool !ks.contains (0 + ((IntKind.i64.wrap ((↑m:Int).tdiv (IntKind.i64.wrap ((↑d:Int).tdiv (↑l.length:Int))))).tmod (↑l.length:Int)).toNat),iI (IntKind.i64.wrap ((↑d:Int).tdiv (↑l.length:Int))),iI (IntKind.i64.wrap ((↑ks.length:Int) + 1))] [some (Row.lst 35 2 [AV.agg [AV.sl false 5 0 N.length Cp.no,iI root]]),none,some (Row.lst 62 3 [AV.agg [iI kd,AV.str w,AV.sl true 6 0 n0 Cp.no]]),none,some (Row.gen 3 1 l.length fun (i:Nat) => iI (↑(l.getD i 0):Int)),some (Row.gen 62 3 N.length fun (i:Nat) => neV (N.getD i dN)),some (Row.gen 3 1 r.length fun (i:Nat) => iI (↑(r.getD i 0):Int)),some (Row.gen 4 1 l.length fun (j:Nat) => bif j.beq (0 + ((IntKind.i64.wrap ((↑m:Int).tdiv (IntKind.i64.wrap ((↑d:Int).tdiv (↑l.length:Int))))).tmod (↑l.length:Int)).toNat) then AV.bool true else AV.bool (ks.contains j)),none,some (Row.lst 3 1 [iI (↑(l.getD (0 + ((IntKind.i64.wrap ((↑m:Int).tdiv (IntKind.i64.wrap ((↑d:Int).tdiv (↑l.length:Int))))).tmod (↑l.length:Int)).toNat) 0):Int)]),some (Row.gen 3 1 ((Src.gen o.length fun (j:Nat) => iI (↑(o.getD (0 + j) 0):Int)).len + 1) fun (j:Nat) => bif j.blt (Src.gen o.length fun (j:Nat) => iI (↑(o.getD (0 + j) 0):Int)).len then iI (↑(o.getD (0 + j) 0):Int) else (Src.lst [iI (↑(l.getD (0 + ((IntKind.i64.wrap ((↑m:Int).tdiv (IntKind.i64.wrap ((↑d:Int).tdiv (↑l.length:Int))))).tmod (↑l.length:Int)).toNat) 0):Int)]).at_ (j - (Src.gen o.length fun (j:Nat) => iI (↑(o.getD (0 + j) 0):Int)).len))] F else False else False else False else False else False else False else False else bif decide (0 <= (IntKind.i64.wrap ((↑m:Int).tdiv (IntKind.i64.wrap ((↑d:Int).tdiv (↑l.length:Int))))).tmod (↑l.length:Int)) && decide ((IntKind.i64.wrap ((↑m:Int).tdiv (IntKind.i64.wrap ((↑d:Int).tdiv (↑l.length:Int))))).tmod (↑l.length:Int) < (↑l.length:Int)) then bif decide (0 + ((IntKind.i64.wrap ((↑m:Int).tdiv (IntKind.i64.wrap ((↑d:Int).tdiv (↑l.length:Int))))).tmod (↑l.length:Int)).toNat < l.length) then bif decide (0 <= (IntKind.i64.wrap ((↑m:Int).tdiv (IntKind.i64.wrap ((↑d:Int).tdiv (↑l.length:Int))))).tmod (↑l.length:Int)) && decide ((IntKind.i64.wrap ((↑m:Int).tdiv (IntKind.i64.wrap ((↑d:Int).tdiv (↑l.length:Int))))).tmod (↑l.length:Int) < (↑l.length:Int)) then bif decide (0 + ((IntKind.i64.wrap ((↑m:Int).tdiv (IntKind.i64.wrap ((↑d:Int).tdiv (↑l.length:Int))))).tmod (↑l.length:Int)).toNat < l.length) then bif decide (0 + o.length <= o.length) && (true && (true && decide (((Src.gen o.length fun (j:Nat) => iI (↑(o.getD (0 + j) 0):Int)).len + 1) * 8 <= 140737488355328))) then q Exit.normal 133 [AV.ptr false 0 0 0,AV.sl false 4 0 l.length Cp.no,AV.sl false 6 0 r.length Cp.no,iI (↑al:Int),iI (↑m:Int),AV.sl false 10 0 ((Src.gen o.length fun (j:Nat) => iI (↑(o.getD (0 + j) 0):Int)).len + 1) Cp.no,AV.sl false 7 0 l.length Cp.no,AV.bool false,iI (IntKind.i64.wrap ((↑d:Int).tdiv (↑l.length:Int))),iI (IntKind.i64.wrap ((↑ks.length:Int) + 1))] [some (Row.lst 35 2 [AV.agg [AV.sl false 5 0 N.length Cp.no,iI root]]),none,some (Row.lst 62 3 [AV.agg [iI kd,AV.str w,AV.sl true 6 0 n0 Cp.no]]),none,some (Row.gen 3 1 l.length fun (i:Nat) => iI (↑(l.getD i 0):Int)),some (Row.gen 62 3 N.length fun (i:Nat) => neV (N.getD i dN)),some (Row.gen 3 1 r.length fun (i:Nat) => iI (↑(r.getD i 0):Int)),some (Row.gen 4 1 l.length fun (j:Nat) => bif j.beq (0 + ((IntKind.i64.wrap ((↑m:Int).tdiv (IntKind.i64.wrap ((↑d:Int).tdiv (↑l.length:Int))))).tmod (↑l.length:Int)).toNat) then AV.bool true else AV.bool (ks.contains j)),none,some (Row.lst 3 1 [iI (↑(l.getD (0 + ((IntKind.i64.wrap ((↑m:Int).tdiv (IntKind.i64.wrap ((↑d:Int).tdiv (↑l.length:Int))))).tmod (↑l.length:Int)).toNat) 0):Int)]),some (Row.gen 3 1 ((Src.gen o.length fun (j:Nat) => iI (↑(o.getD (0 + j) 0):Int)).len + 1) fun (j:Nat) => bif j.blt (Src.gen o.length fun (j:Nat) => iI (↑(o.getD (0 + j) 0):Int)).len then iI (↑(o.getD (0 + j) 0):Int) else (Src.lst [iI (↑(l.getD (0 + ((IntKind.i64.wrap ((↑m:Int).tdiv (IntKind.i64.wrap ((↑d:Int).tdiv (↑l.length:Int))))).tmod (↑l.length:Int)).toNat) 0):Int)]).at_ (j - (Src.gen o.length fun (j:Nat) => iI (↑(o.getD (0 + j) 0):Int)).len))] F else False else False else False else False else False else False else False else False else q (Exit.exit 6) 133 [AV.ptr false 0 0 0,AV.sl false 4 0 l.length Cp.no,AV.sl false 6 0 r.length Cp.no,iI (↑al:Int),iI (↑m:Int),AV.sl false 8 0 o.length Cp.no,AV.sl false 7 0 l.length Cp.no,AV.bool gd,iI (↑d:Int),iI (↑ks.length:Int)] [some (Row.lst 35 2 [AV.agg [AV.sl false 5 0 N.length Cp.no,iI root]]),none,some (Row.lst 62 3 [AV.agg [iI kd,AV.str w,AV.sl true 6 0 n0 Cp.no]]),none,some (Row.gen 3 1 l.length fun (i:Nat) => iI (↑(l.getD i 0):Int)),some (Row.gen 62 3 N.length fun (i:Nat) => neV (N.getD i dN)),some (Row.gen 3 1 r.length fun (i:Nat) => iI (↑(r.getD i 0):Int)),some (Row.gen 4 1 l.length fun (j:Nat) => AV.bool (ks.contains j)),some (Row.gen 3 1 o.length fun (i:Nat) => iI (↑(o.getD i 0):Int))] F):=by kernel_rfl
theorem nrow_g (l:List Nat):RowG (nrow l):=⟨fun f n => .gen rfl fun i _ => ⟨rfl,Vw.intI⟩,fun g => rfl⟩
theorem wk_d (n m:Nat):∀ i,i <= n -> (wk n m i).d = n ^ (n - i)
 | 0,_ => rfl
 | i + 1,h => by
  show (wk n m i).d / n = _
  rw [wk_d n m i (by omega),show n - i = (n - (i + 1)) + 1 by omega,Nat.pow_succ,Nat.mul_div_cancel _ (by omega)]
theorem wk_len (n m:Nat):∀ i,(wk n m i).ks.length = i
 | 0 => rfl
 | i + 1 => by
  show ((wk n m i).ks ++ [_]).length = _
  rw [List.length_append,wk_len n m i]; rfl
theorem wk_lt (n m:Nat) (hn:0 < n):∀ i,∀ k ∈ (wk n m i).ks,k < n
 | 0,k,h => by cases h
 | i + 1,k,h => by
  have h:k ∈ (wk n m i).ks ++ [m / ((wk n m i).d / n) % n]:=h
  rcases List.mem_append.1 h with h | h
  ·exact wk_lt n m hn i k h
  ·simp only [List.mem_singleton] at h; rw [h]; exact Nat.mod_lt _ hn
theorem toF6 {R:RR} {T TM:List AV} {h:Rows} {kd root:Int} {w:List UInt8} {n0 n:Nat} {N:List NE} {l r ks o:List Nat} {p:Option Nat} {rb:Row} {F:Fz} {S:St -> Fz -> Prop} (h0:h.live 0 = some (trow 5 N.length root)) (h2:h.live 2 = some (e6r kd w n0)) (h3:h.live 5 = some (arow N)) (h4:h.live 4 = some (nrow l)) (h5:h.live 6 = some (nrow r)) (h6:h.live 7 = some rb) (hb:∀ f n',RowV f n' (brow n ks) rb)
  (h7:(p = none /\ o = []) \/ ∃ q g,p = some q /\ 8 <= q /\ h.live q = some (.gen 3 1 o.length g) /\ ∀ i,i < o.length -> g i = .int .i64 ((o.getD i 0:Nat):Int))
  (hT:VwL (fun c => bif Nat.beq c 8 then p else some c) 9 T TM) (hS:S ⟨T,[some (trow 5 N.length root),none,some (e6r kd w n0),none,some (nrow l),some (arow N),some (nrow r),some (brow n ks),some (nrow o)]⟩ F):ToX R [] 8 ⟨TM,h⟩ F S:=by
 have live8:∀ {c:Nat} {x:Row},Rows.live [some (trow 5 N.length root),none,some (e6r kd w n0),none,some (nrow l),some (arow N),some (nrow r),some (brow n ks),some (nrow o)] c = some x -> c = 0 \/ c = 2 \/ c = 4 \/ c = 5 \/ c = 6 \/ c = 7 \/ c = 8:=by
  intro c x hc
  match c with
  | 1 => cases hc
  | 3 => cases hc
  | 0 => omega
  | 2 => omega
  | 4 => omega
  | 5 => omega
  | 6 => omega
  | 7 => omega
  | 8 => omega
  | c + 9 => simp [Rows.live] at hc
 have key:∀ c b,(bif Nat.beq c 8 then p else some c) = some b -> (c ≠ 8 /\ b = c) \/ (c = 8 /\ 8 <= b):=by
  intro c b e
  cases hc:Nat.beq c 8 with
  | true =>
   rw [hc] at e
   have:=Nat.eq_of_beq_eq_true hc
   rcases h7 with ⟨rfl,_⟩ | ⟨q,g,rfl,hq,_⟩
   ·cases e
   ·cases e; exact .inr ⟨this,hq⟩
  | false =>
   rw [hc] at e
   cases e
   exact .inl ⟨(fun h => by rw [h] at hc; cases hc),rfl⟩
 refine ToX.fitW (stE:=⟨T,[some (trow 5 N.length root),none,some (e6r kd w n0),none,some (nrow l),some (arow N),some (nrow r),some (brow n ks),some (nrow o)]⟩) (fun c => bif Nat.beq c 8 then p else some c) ⟨fun c c' b r r' hc hc' e e' => ?_,fun c x hc => ?_⟩ hT (fun c hc => ?_) (by simp) (ToX.here hS)
 ·have a:=key c b e
  have a':=key c' b e'
  have l1:=live8 hc
  have l2:=live8 hc'
  omega
 ·match c with
  | 0 => cases hc; exact .inl ⟨0,_,rfl,h0,trow_v rfl (by simp)⟩
  | 1 => cases hc
  | 2 => cases hc; exact .inl ⟨2,_,rfl,h2,(RowG.lst1' rfl rfl).vw _ _⟩
  | 3 => cases hc
  | 4 => cases hc; exact .inl ⟨4,_,rfl,h4,(nrow_g l).vw _ _⟩
  | 5 => cases hc; exact .inl ⟨5,_,rfl,h3,(arow_g N).vw _ _⟩
  | 6 => cases hc; exact .inl ⟨6,_,rfl,h5,(nrow_g r).vw _ _⟩
  | 7 => cases hc; exact .inl ⟨7,_,rfl,h6,hb _ _⟩
  | 8 =>
   cases hc
   rcases h7 with ⟨rfl,rfl⟩ | ⟨q,g,rfl,_,hq,hg⟩
   ·exact .inr ⟨rfl,rfl⟩
   ·exact .inl ⟨q,_,rfl,hq,.gen rfl fun i hi => ⟨rfl,by rw [hg i hi]; exact Vw.intI⟩⟩
  | c + 9 => simp [Rows.live] at hc
 ·match c,hc with
  | 0,_ => rfl
  | 1,_ => rfl
  | 2,_ => rfl
  | 3,_ => rfl
  | 4,_ => rfl
  | 5,_ => rfl
  | 6,_ => rfl
  | 7,_ => rfl
theorem tm6_spr (n al m r i oi d:Nat) (gd:Bool):tm6 n al m r i oi d gd = Dc.spr [(0,.ptr false 0 0 0),(6,.sl false 4 0 n .no),(10,.sl false 6 0 r .no),(11,.int .i64 (al:Nat)),(13,.int .i64 (m:Nat)),(14,.sl false 8 0 oi .no),(15,.sl false 7 0 n .no),(16,.bool gd),(17,.int .i64 (d:Nat)),(18,.int .i64 (i:Nat))] 0 133:=by kernel_rfl
theorem env6s_ok {R:RR} (hR:Free6 R) (is:List Nat) (HP:HPt):OKX Try.prog (env6s R is) [] HP :=
 ((bx_ok _ [] HP).addCall (f:=28) (fi:=fi28) (by kernel_rfl) (spec28_ok _ HP)).addCall (f:=16) (fi:=fi16) (by kernel_rfl) (spec16u_ok hR is HP)
theorem tdivN {a b:Nat} (h:a <= 100000):IntKind.i64.wrap (((a:Nat):Int).tdiv ((b:Nat):Int)) = ((a / b:Nat):Int):=by
 have h2:a / b <= a:=Nat.div_le_self _ _
 rw [<- Int.ofNat_tdiv]
 generalize a / b = c at h2
 rw [wrapI64 _ (by omega) (by omega)]
abbrev dgs (l:List Nat) (m i:Nat):List Nat:=(wk l.length m i).ks.map fun k => l.getD k 0
theorem brow_put (ks:List Nat) (k x:Nat):(bif x.beq k then AV.bool true else AV.bool (ks.contains x)) = AV.bool ((ks ++ [k]).contains x):=by
 cases h:x.beq k with
 | true =>
  have:=Nat.eq_of_beq_eq_true h
  subst this
  simp
 | false =>
  have hne:x ≠ k:=fun e => by rw [e,Nat.beq_refl] at h; cases h
  show AV.bool (ks.contains x) = _
  congr 1
  rw [Bool.eq_iff_iff]
  simp [List.contains_eq_mem,hne]
theorem dgs_succ (l:List Nat) (m i:Nat):dgs l m (i + 1) = dgs l m i ++ [l.getD (m / ((wk l.length m i).d / l.length) % l.length) 0]:=by
 show ((wk l.length m i).ks ++ [_]).map _ = _
 rw [List.map_append]; rfl
theorem round6 {R : Nat → RoRow} (hR : Free6 R) (is : List Nat) (kd : Int) (w : List UInt8) (n0 al m : Nat) (root : Int) (N : List NE) (l r : List Nat) (i : Nat) (hi : i ≤ l.length) (hal : al = l.length ^ l.length) (hm : m < al) (hb : al ≤ 100000) (hl : l.length ≤ 1000) (F : Fz) (HP : HPt) :
    SafeX Try.prog (R6 R is) [] (loopOf fi19 6) (fam6 kd w n0 al m (wk l.length m i).d (wk l.length m i).gd root N l r (wk l.length m i).ks (dgs l m i)) F (fun e st F' => F' = F ∧ st.tmps.length = 133 ∧ nthV st.tmps 0 = .ptr false 0 0 0 ∧ nthV st.tmps 6 = .sl false 4 0 l.length .no ∧ nthV st.tmps 10 = .sl false 6 0 r.length .no ∧ nthV st.tmps 11 = .int .i64 (al : Nat) ∧ nthV st.tmps 13 = .int .i64 (m : Nat) ∧ nthV st.tmps 15 = .sl false 7 0 l.length .no ∧ st.rows.live 0 = some (trow 5 N.length root) ∧ st.rows.live 2 = some (e6r kd w n0) ∧ st.rows.live 5 = some (arow N) ∧ st.rows.live 4 = some (nrow l) ∧ st.rows.live 6 = some (nrow r) ∧
      ((e = .exit 6 ∧ i = l.length ∧ nthV st.tmps 14 = .sl false 8 0 (dgs l m i).length .no ∧ nthV st.tmps 16 = .bool (wk l.length m i).gd ∧ nthV st.tmps 17 = .int .i64 ((wk l.length m i).d : Nat) ∧ nthV st.tmps 18 = .int .i64 (i : Nat) ∧ st.rows = (fam6 kd w n0 al m (wk l.length m i).d (wk l.length m i).gd root N l r (wk l.length m i).ks (dgs l m i)).rows) ∨
       (e = .normal ∧ i < l.length ∧ nthV st.tmps 14 = .sl false 10 0 (dgs l m (i + 1)).length .no ∧ nthV st.tmps 16 = .bool (wk l.length m (i + 1)).gd ∧ nthV st.tmps 17 = .int .i64 ((wk l.length m (i + 1)).d : Nat) ∧ nthV st.tmps 18 = .int .i64 ((i + 1 : Nat) : Int) ∧ (∃ rb, st.rows.live 7 = some rb ∧ ∀ f n', RowV f n' (brow l.length (wk l.length m (i + 1)).ks) rb) ∧ ∃ g, st.rows.live 10 = some (.gen 3 1 (dgs l m (i + 1)).length g) ∧ ∀ x, x < (dgs l m (i + 1)).length → g x = .int .i64 (((dgs l m (i + 1)).getD x 0 : Nat) : Int)))) HP := by
  refine SafeX.by mixed (env6s_ok hR is HP) (f := 19) (fi := fi19) (i := 6) (by kernel_rfl) (b := .loop (loopOf fi19 6)) (by kernel_rfl) (subs_loop _) 1000 (vr6 R is kd w n0 al m (wk l.length m i).d (wk l.length m i).gd root N l r (wk l.length m i).ks (dgs l m i) (fun e n T rows F' => F' = F ∧ n = 133 ∧ nthV T 0 = .ptr false 0 0 0 ∧ nthV T 1 = .sl false 4 0 l.length .no ∧ nthV T 2 = .sl false 6 0 r.length .no ∧ nthV T 3 = .int .i64 (al : Nat) ∧ nthV T 4 = .int .i64 (m : Nat) ∧ nthV T 6 = .sl false 7 0 l.length .no ∧ rows.live 0 = some (trow 5 N.length root) ∧ rows.live 2 = some (e6r kd w n0) ∧ rows.live 5 = some (arow N) ∧ rows.live 4 = some (nrow l) ∧ rows.live 6 = some (nrow r) ∧
      ((e = .exit 6 ∧ i = l.length ∧ nthV T 5 = .sl false 8 0 (dgs l m i).length .no ∧ nthV T 7 = .bool (wk l.length m i).gd ∧ nthV T 8 = .int .i64 ((wk l.length m i).d : Nat) ∧ nthV T 9 = .int .i64 (i : Nat) ∧ rows = (fam6 kd w n0 al m (wk l.length m i).d (wk l.length m i).gd root N l r (wk l.length m i).ks (dgs l m i)).rows) ∨
       (e = .normal ∧ i < l.length ∧ nthV T 5 = .sl false 10 0 (dgs l m (i + 1)).length .no ∧ nthV T 7 = .bool (wk l.length m (i + 1)).gd ∧ nthV T 8 = .int .i64 ((wk l.length m (i + 1)).d : Nat) ∧ nthV T 9 = .int .i64 ((i + 1 : Nat) : Int) ∧ (∃ rb, rows.live 7 = some rb ∧ ∀ f n', RowV f n' (brow l.length (wk l.length m (i + 1)).ks) rb) ∧ ∃ g, rows.live 10 = some (.gen 3 1 (dgs l m (i + 1)).length g) ∧ ∀ x, x < (dgs l m (i + 1)).length → g x = .int .i64 (((dgs l m (i + 1)).getD x 0 : Nat) : Int)))) F) ?_
  have hk : (wk l.length m i).ks.length = i := wk_len _ _ _
  have hdl : (dgs l m i).length = i := by rw [List.length_map]; exact hk
  rw [hk]
  refine hcB (fun h => ?_) fun h => ⟨rfl, rfl, rfl, rfl, rfl, rfl, rfl, rfl, rfl, rfl, rfl, rfl, rfl, .inl ⟨rfl, by have := of_decide_eq_false h; omega, rfl, rfl, rfl, rfl, rfl⟩⟩
  have hlt : i < l.length := by have := of_decide_eq_true h; omega
  have hd : (wk l.length m i).d = l.length ^ (l.length - i) := wk_d _ _ _ hi
  have hdle : (wk l.length m i).d ≤ 100000 := by
    rw [hd]
    exact Nat.le_trans (Nat.pow_le_pow_right (by omega) (Nat.sub_le l.length i)) (by rw [← hal]; exact hb)
  have hd1 : 0 < (wk l.length m i).d / l.length := by
    rw [hd, show l.length - i = (l.length - (i + 1)) + 1 by omega, Nat.pow_succ, Nat.mul_div_cancel _ (by omega)]
    exact Nat.pos_of_ne_zero (fun e => by have := Nat.pow_eq_zero.1 e; omega)
  have e1 : IntKind.i64.wrap ((((wk l.length m i).d : Nat) : Int).tdiv ((l.length : Nat) : Int)) = (((wk l.length m i).d / l.length : Nat) : Int) := tdivN hdle
  have e2 : IntKind.i64.wrap (((m : Nat) : Int).tdiv ((((wk l.length m i).d / l.length : Nat)) : Int)) = ((m / ((wk l.length m i).d / l.length) : Nat) : Int) := tdivN (by omega)
  have e3 : (((m / ((wk l.length m i).d / l.length) : Nat)) : Int).tmod ((l.length : Nat) : Int) = ((m / ((wk l.length m i).d / l.length) % l.length : Nat) : Int) := (Int.ofNat_tmod _ _).symm
  have hkl : m / ((wk l.length m i).d / l.length) % l.length < l.length := Nat.mod_lt _ (by omega)
  have hz : (((l.length : Nat) : Int) != 0) = true := by rw [bne_iff_ne]; omega
  have hz2 : (((((wk l.length m i).d / l.length : Nat)) : Int) != 0) = true := by rw [bne_iff_ne]; omega
  have es := dgs_succ l m i
  have eg : (wk l.length m (i + 1)).gd = ((wk l.length m i).gd && !((wk l.length m i).ks.contains (m / ((wk l.length m i).d / l.length) % l.length))) := rfl
  have ek : (wk l.length m (i + 1)).ks = (wk l.length m i).ks ++ [m / ((wk l.length m i).d / l.length) % l.length] := rfl
  have ed : (wk l.length m (i + 1)).d = (wk l.length m i).d / l.length := rfl
  rw [e1, e2, e3]
  generalize hK : m / ((wk l.length m i).d / l.length) % l.length = K at *
  have b1 : (decide (0 ≤ ((K : Nat) : Int)) && decide (((K : Nat) : Int) < ((l.length : Nat) : Int))) = true := by rw [Bool.and_eq_true, decide_eq_true_eq, decide_eq_true_eq]; omega
  have b2 : 0 + ((K : Nat) : Int).toNat = K := by simp
  have b3 : decide (K < l.length) = true := decide_eq_true hkl
  have bc := capN (l := dgs l m i) (by omega)
  rw [b2]
  refine hcT hz (hcT hz2 (hcT hz (hcB (fun hg => ?_) fun hg => ?_)))
  · refine hcT b1 (hcT b3 (hcT b1 (hcT b3 (hcT b1 (hcT b3 (hcT bc ?_))))))
    rw [wrapSucc i (by omega), es, eg, ek, ed, hg]
    refine ⟨rfl, rfl, rfl, rfl, rfl, rfl, rfl, rfl, rfl, rfl, rfl, rfl, rfl, .inr ⟨rfl, hlt, by rw [List.length_append]; rfl, rfl, rfl, rfl, ⟨_, rfl, fun f n' => ?_⟩, _, by rw [List.length_append]; rfl, nrow_app _ _⟩⟩
    exact .gen rfl fun x hx => ⟨rfl, by rw [brow_put]; exact Vw.boolI⟩
  · refine hcT b1 (hcT b3 (hcT b1 (hcT b3 (hcT bc ?_))))
    rw [wrapSucc i (by omega), es, eg, ek, ed, hg]
    refine ⟨rfl, rfl, rfl, rfl, rfl, rfl, rfl, rfl, rfl, rfl, rfl, rfl, rfl, .inr ⟨rfl, hlt, by rw [List.length_append]; rfl, rfl, rfl, rfl, ⟨_, rfl, fun f n' => ?_⟩, _, by rw [List.length_append]; rfl, nrow_app _ _⟩⟩
    exact .gen rfl fun x hx => ⟨rfl, by rw [brow_put]; exact Vw.boolI⟩
theorem loop6 {R:RR} (hR:Free6 R) (is:List Nat) (kd:Int) (w:List UInt8) (n0 al m:Nat) (HP:HPt) :
  ∀ st k F,lpB6 kd w n0 al m st k F -> SafeX Try.prog (R6 R is) [] (.block 6 (.loop (loopOf fi19 6))) st F k HP:=by
 rintro ⟨TM,rows⟩ k F ⟨hl0,a0,cp,root,N,l,r,a6,a10,a11,a13,a14,a15,a16,a17,a18,hr,hal,hm,hb,hl,hk⟩
 simp only at hl0 a0 a6 a10 a11 a13 a14 a15 a16 a17 a18 hr
 subst hr
 refine SafeX.loop_block (Inv:=fun mm st F' => F' = F /\ ∃ i,i <= l.length /\ mm = l.length - i /\ st = fam6 kd w n0 al m (wk l.length m i).d (wk l.length m i).gd root N l r (wk l.length m i).ks (dgs l m i)) ?_ ?_
 ·refine toF6 (kd:=kd) (w:=w) (n0:=n0) (n:=l.length) (l:=l) (r:=r) (ks:=[]) (o:=[]) (p:=none) rfl rfl rfl rfl rfl rfl (fun f n' => .gen rfl fun i hi => ⟨rfl,Vw.boolI⟩) (.inl ⟨rfl,rfl⟩) (T:=tm6 l.length al m r.length 0 0 al true) ?_ ⟨_,rfl,0,Nat.zero_le _,rfl,?_⟩
  ·rw [tm6_spr]
   exact VwL.ofKnown hl0 ⟨by rw [a0]; exact Vw.ptrI (by simp) rfl,by rw [a6]; exact Vw.slI (by simp) rfl,by rw [a10]; exact Vw.slI (by simp) rfl,by rw [a11]; exact Vw.intI,by rw [a13]; exact Vw.intI,by rw [a14]; exact Vw.slN (b:=8) (by simp) rfl,by rw [a15]; exact Vw.slE (by simp) rfl,by rw [a16]; exact Vw.boolI,by rw [a17]; exact Vw.intI,by rw [a18]; exact Vw.intI,trivial⟩
  ·show (⟨tm6 l.length al m r.length 0 0 al true,_⟩:St) = fam6 kd w n0 al m (l.length ^ l.length) true root N l r [] []
   rw [<- hal]; rfl
 ·rintro mm st' F' ⟨rfl,i,hi,rfl,rfl⟩
  refine (round6 hR is kd w n0 al m root N l r i hi hal hm hb hl F' HP).mono ?_ fun _ _ _ h => h
  rintro e ⟨TM2,rows2⟩ F2 ⟨rfl,b0,a0,a6,a10,a11,a13,a15,g0,g2,g3,g4,g5,hx⟩
  simp only at b0 a0 a6 a10 a11 a13 a15 g0 g2 g3 g4 g5 hx
  rcases hx with ⟨rfl,hie,a14,a16,a17,a18,g6⟩ | ⟨rfl,hlt,a14,a16,a17,a18,⟨rb,g6,g7⟩,g,g8,g9⟩
  ·subst hie
   subst g6
   refine toF6 (kd:=kd) (w:=w) (n0:=n0) (n:=l.length) (l:=l) (r:=r) (ks:=(wk l.length m l.length).ks) (o:=dgs l m l.length) (p:=some 8) rfl rfl rfl rfl rfl rfl (fun f n' => .gen rfl fun i hi => ⟨rfl,Vw.boolI⟩) (.inr ⟨8,_,rfl,Nat.le_refl _,rfl,fun i hi => rfl⟩) (T:=tm6 l.length al m r.length (wk l.length m l.length).ks.length (dgs l m l.length).length (wk l.length m l.length).d (wk l.length m l.length).gd) ?_ hk
   rw [tm6_spr]
   exact VwL.ofKnown b0 ⟨by rw [a0]; exact Vw.ptrI (by simp) rfl,by rw [a6]; exact Vw.slI (by simp) rfl,by rw [a10]; exact Vw.slI (by simp) rfl,by rw [a11]; exact Vw.intI,by rw [a13]; exact Vw.intI,by rw [a14]; exact Vw.slI (by simp) rfl,by rw [a15]; exact Vw.slE (by simp) rfl,by rw [a16]; exact Vw.boolI,by rw [a17]; exact Vw.intI,by rw [a18,wk_len]; exact Vw.intI,trivial⟩
  ·refine toF6 (kd:=kd) (w:=w) (n0:=n0) (n:=l.length) (l:=l) (r:=r) (ks:=(wk l.length m (i + 1)).ks) (o:=dgs l m (i + 1)) (p:=some 10) g0 g2 g3 g4 g5 g6 g7 (.inr ⟨10,g,rfl,by decide,g8,g9⟩) (T:=tm6 l.length al m r.length (wk l.length m (i + 1)).ks.length (dgs l m (i + 1)).length (wk l.length m (i + 1)).d (wk l.length m (i + 1)).gd) ?_ ⟨l.length - (i + 1),by omega,rfl,i + 1,hlt,rfl,rfl⟩
   rw [tm6_spr]
   exact VwL.ofKnown b0 ⟨by rw [a0]; exact Vw.ptrI (by simp) rfl,by rw [a6]; exact Vw.slI (by simp) rfl,by rw [a10]; exact Vw.slI (by simp) rfl,by rw [a11]; exact Vw.intI,by rw [a13]; exact Vw.intI,by rw [a14]; exact Vw.slI (by simp) rfl,by rw [a15]; exact Vw.slE (by simp) rfl,by rw [a16]; exact Vw.boolI,by rw [a17]; exact Vw.intI,by rw [a18,wk_len]; exact Vw.intI,trivial⟩
theorem vrB4 (R:RR) (is:List Nat) (kd:Int) (w:List UInt8) (n0 al m:Nat) (root:Int) (N:List NE) (l r:List Nat) (q:Exit -> Nat -> List AV -> Rows -> Fz -> Prop) (F:Fz):rnx ((env6s R is).addLoop 19 6 (lpB6 kd w n0 al m)) 1000 19 (loopOf fi19 4) (famM kd w n0 al m root N l r) (fun e st => q e st.tmps.length [nthV st.tmps 0,nthV st.tmps 6,nthV st.tmps 10,nthV st.tmps 11,nthV st.tmps 13] st.rows) F = (bif decide ((↑m:Int) < (↑al:Int)) then bif true && (decide ((↑l.length:Int) <= (↑l.length:Int)) && decide ((↑l.length:Int) * 1 <= 140737488355328)) then 133 = 133 /\ AV.ptr false 0 0 0 = AV.ptr false 0 0 0 /\ ∃ (cp:Cp),∃ (root_1:Int),∃ (N_1:List NE),∃ (l_1:List Nat),∃ (r_1:List Nat),AV.sl false 4 0 l.length Cp.no = AV.sl false 4 0 l_1.length Cp.no /\ AV.sl false 6 0 r.length Cp.no = AV.sl false 6 0 r_1.length Cp.no /\ iI (↑al:Int) = iI (↑al:Int) /\ iI (↑m:Int) = iI (↑m:Int) /\ AV.nils = AV.nils /\ AV.sl false 7 0 (↑l.length:Int).toNat (bif (↑l.length:Int) == (↑l.length:Int) then Cp.tight else Cp.room ((↑l.length:Int).toNat - (↑l.length:Int).toNat)) = AV.sl false 7 0 l_1.length cp /\ AV.bool true = AV.bool true /\ iI (↑al:Int) = iI (↑al:Int) /\ iI (0:Int) = iI 0 /\ [some (Row.lst 35 2 [AV.agg [AV.sl false 5 0 N.length Cp.no,iI root]]),none,some (Row.lst 62 3 [AV.agg [iI kd,AV.str w,AV.sl true 6 0 n0 Cp.no]]),none,some (Row.gen 3 1 l.length fun (i:Nat) => iI (↑(l.getD i 0):Int)),some (Row.gen 62 3 N.length fun (i:Nat) => neV (N.getD i dN)),some (Row.gen 3 1 r.length fun (i:Nat) => iI (↑(r.getD i 0):Int)),some (Row.gen 4 1 (↑l.length:Int).toNat fun (x:Nat) => (4,TI.mk Kd.bool 1 1 (AV.bool false) false).snd.zv)] = [some (Row.lst 35 2 [AV.agg [AV.sl false 5 0 N_1.length Cp.no,iI root_1]]),none,some (Row.lst 62 3 [AV.agg [iI kd,AV.str w,AV.sl true 6 0 n0 Cp.no]]),none,some (Row.gen 3 1 l_1.length fun (i:Nat) => iI (↑(l_1.getD i 0):Int)),some (Row.gen 62 3 N_1.length fun (i:Nat) => neV (N_1.getD i dN)),some (Row.gen 3 1 r_1.length fun (i:Nat) => iI (↑(r_1.getD i 0):Int)),some (Row.gen 4 1 l_1.length fun (x:Nat) => AV.bool false)] /\ al = l_1.length ^ l_1.length /\ m.succ.le al /\ al.le 100000 /\ l_1.length.le 1000 /\ bif (wk l_1.length m l_1.length).gd then ∃ (r:Row),∃ (kids:List Nat),some (Row.gen 3 1 (List.map (fun (i:Nat) => l_1.getD i 0) (wk l_1.length m l_1.length).ks).length fun (i:Nat) => iI (↑((List.map (fun (i:Nat) => l_1.getD i 0) (wk l_1.length m l_1.length).ks).getD i 0):Int)) = some r /\ RoOf r (RoRow.mk 3 1 kids.length fun (i:Nat) => iI (↑(kids.getD i 0):Int)) /\ (List.map (fun (i:Nat) => l_1.getD i 0) (wk l_1.length m l_1.length).ks).length = kids.length /\ ∀ (F':Fz) (x:Nat),Up F F' -> FrK F' x kids -> ∃ (N:List NE),N_1.length = N.length /\ some (Row.gen 62 3 N_1.length fun (i:Nat) => tkE 8 x (AV.agg [iI (N_1.getD i dN).kd,AV.str (N_1.getD i dN).w,AV.sl true ((N_1.getD i dN).x + 15) 0 (N_1.getD i dN).kids.length Cp.no])) = some (Row.gen 62 3 N.length fun (i:Nat) => neV (N.getD i dN)) /\ N.length.le 100000 /\ bif decide (0 + r_1.length <= r_1.length) && (true && (true && decide (((Src.gen r_1.length fun (j:Nat) => tkE 8 x (iI (↑(r_1.getD (0 + j) 0):Int))).len + 1) * 8 <= 140737488355328))) then q Exit.normal 133 [AV.ptr false 0 0 0,AV.sl false 4 0 l_1.length Cp.no,AV.sl false 13 0 ((Src.gen r_1.length fun (j:Nat) => tkE 8 x (iI (↑(r_1.getD (0 + j) 0):Int))).len + 1) Cp.no,iI (↑al:Int),iI (IntKind.i64.wrap ((↑m:Int) + 1))] [some (Row.lst 35 2 [AV.agg [AV.sl false 11 0 (N ++ [NE.mk 4 [] kids x]).length Cp.no,iI root_1]]),none,some (Row.lst 62 3 [AV.agg [iI kd,AV.str w,AV.sl true 6 0 n0 Cp.no]]),none,some (Row.gen 3 1 l_1.length fun (i:Nat) => tkE 8 x (iI (↑(l_1.getD i 0):Int))),none,none,some (Row.gen 4 1 l_1.length fun (i:Nat) => tkE 8 x (AV.bool ((wk l_1.length m l_1.length).ks.contains i))),none,none,none,some (Row.gen 62 3 (N ++ [NE.mk 4 [] kids x]).length fun (i:Nat) => neV ((N ++ [NE.mk 4 [] kids x]).getD i dN)),some (Row.lst 3 1 [iI (↑N.length:Int)]),some (Row.gen 3 1 ((Src.gen r_1.length fun (j:Nat) => tkE 8 x (iI (↑(r_1.getD (0 + j) 0):Int))).len + 1) fun (j:Nat) => bif j.blt (Src.gen r_1.length fun (j:Nat) => tkE 8 x (iI (↑(r_1.getD (0 + j) 0):Int))).len then iI (↑(r_1.getD (0 + j) 0):Int) else (Src.lst [iI (↑N.length:Int)]).at_ (j - (Src.gen r_1.length fun (j:Nat) => tkE 8 x (iI (↑(r_1.getD (0 + j) 0):Int))).len))] F' else False else q Exit.normal 133 [AV.ptr false 0 0 0,AV.sl false 4 0 l_1.length Cp.no,AV.sl false 6 0 r_1.length Cp.no,iI (↑al:Int),iI (IntKind.i64.wrap ((↑m:Int) + 1))] [some (Row.lst 35 2 [AV.agg [AV.sl false 5 0 N_1.length Cp.no,iI root_1]]),none,some (Row.lst 62 3 [AV.agg [iI kd,AV.str w,AV.sl true 6 0 n0 Cp.no]]),none,some (Row.gen 3 1 l_1.length fun (i:Nat) => iI (↑(l_1.getD i 0):Int)),some (Row.gen 62 3 N_1.length fun (i:Nat) => neV (N_1.getD i dN)),some (Row.gen 3 1 r_1.length fun (i:Nat) => iI (↑(r_1.getD i 0):Int)),some (Row.gen 4 1 l_1.length fun (j:Nat) => AV.bool ((wk l_1.length m l_1.length).ks.contains j)),some (Row.gen 3 1 (List.map (fun (i:Nat) => l_1.getD i 0) (wk l_1.length m l_1.length).ks).length fun (i:Nat) => iI (↑((List.map (fun (i:Nat) => l_1.getD i 0) (wk l_1.length m l_1.length).ks).getD i 0):Int))] F else False else q (Exit.exit 4) 133 [AV.ptr false 0 0 0,AV.sl false 4 0 l.length Cp.no,AV.sl false 6 0 r.length Cp.no,iI (↑al:Int),iI (↑m:Int)] [some (Row.lst 35 2 [AV.agg [AV.sl false 5 0 N.length Cp.no,iI root]]),none,some (Row.lst 62 3 [AV.agg [iI kd,AV.str w,AV.sl true 6 0 n0 Cp.no]]),none,some (Row.gen 3 1 l.length fun (i:Nat) => iI (↑(l.getD i 0):Int)),some (Row.gen 62 3 N.length fun (i:Nat) => neV (N.getD i dN)),some (Row.gen 3 1 r.length fun (i:Nat) => iI (↑(r.getD i 0):Int))] F):=by kernel_rfl
def allT (us:List Tr) (m:Nat):List Tr:=((List.range m).filter fun m => (wk us.length m us.length).gd).map fun m => .mk 4 [] ((wk us.length m us.length).ks.map fun i => us.getD i tD)
theorem allT_succ (us:List Tr) (m:Nat):allT us (m + 1) = allT us m ++ (bif (wk us.length m us.length).gd then [.mk 4 [] ((wk us.length m us.length).ks.map fun i => us.getD i tD)] else []):=by
 unfold allT
 rw [List.range_succ,List.filter_append,List.map_append]
 congr 1
 cases h:(wk us.length m us.length).gd with
 | true => simp [List.filter,h]
 | false => simp [List.filter,h]
theorem TrNs.sel {N:List NE} {us:List Tr} {l:List Nat} (h:TrNs N us l):∀ (ks:List Nat),(∀ k ∈ ks,k < us.length) -> TrNs N (ks.map fun i => us.getD i tD) (ks.map fun i => l.getD i 0)
 | [],_ => by simp only [List.map_nil,TrNs]
 | k :: ks,hk => by
  simp only [List.map_cons,TrNs]
  exact ⟨h.at us l k (hk k (by simp)),TrNs.sel h ks fun i hi => hk i (by simp [hi])⟩
theorem rowsM {kd root:Int} {w:List UInt8} {n0:Nat} {N:List NE} {l r:List Nat} {c:Nat} {x:Row} (h:Rows.live [some (trow 5 N.length root),none,some (e6r kd w n0),none,some (nrow l),some (arow N),some (nrow r)] c = some x):(c = 0 /\ x = trow 5 N.length root) \/ (c = 2 /\ x = e6r kd w n0) \/ (c = 4 /\ x = nrow l) \/ (c = 5 /\ x = arow N) \/ (c = 6 /\ x = nrow r):=by
 match c,h with
 | 0,h => cases h; exact .inl ⟨rfl,rfl⟩
 | 1,h => cases h
 | 2,h => cases h; exact .inr (.inl ⟨rfl,rfl⟩)
 | 3,h => cases h
 | 4,h => cases h; exact .inr (.inr (.inl ⟨rfl,rfl⟩))
 | 5,h => cases h; exact .inr (.inr (.inr (.inl ⟨rfl,rfl⟩)))
 | 6,h => cases h; exact .inr (.inr (.inr (.inr ⟨rfl,rfl⟩)))
 | c + 7,h => simp [Rows.live] at h
def mF (d:Nat) (p:Option Nat):Nat -> Option Nat:=fun c => bif Nat.beq c 5 then some d else bif Nat.beq c 6 then p else some c
theorem toFM {R:RR} {T TM:List AV} {h:Rows} {kd root:Int} {w:List UInt8} {n0 d:Nat} {N:List NE} {l r:List Nat} {p:Option Nat} {F:Fz} {S:St -> Fz -> Prop} (h0:h.live 0 = some (trow d N.length root)) (h2:h.live 2 = some (e6r kd w n0)) (h3:h.live d = some (arow N)) (h4:h.live 4 = some (nrow l))
  (h6:(p = none /\ r = []) \/ ∃ q g,p = some q /\ 5 <= q /\ h.live q = some (.gen 3 1 r.length g) /\ ∀ i,i < r.length -> g i = .int .i64 ((r.getD i 0:Nat):Int))
  (hT:VwL (mF d p) 7 T TM) (hS:S ⟨T,[some (trow 5 N.length root),none,some (e6r kd w n0),none,some (nrow l),some (arow N),some (nrow r)]⟩ F):ToX R [] 5 ⟨TM,h⟩ F S:=by
 have n0':d ≠ 0:=row_ne h3 h0 (by simp [Row.ty])
 have n2:d ≠ 2:=row_ne2 h3 h2 (by intro e; cases e)
 have n4:d ≠ 4:=row_ne h3 h4 (by simp [Row.ty])
 have q0:∀ q,p = some q -> 5 <= q /\ q ≠ d:=fun q hq => by
  rcases h6 with ⟨e,_⟩ | ⟨q',g,e,h5,h7,_⟩
  ·rw [e] at hq; cases hq
  ·rw [e] at hq; cases hq
   exact ⟨h5,row_ne h7 h3 (by simp [Row.ty])⟩
 have f0:mF d p 0 = some 0:=rfl
 have f2:mF d p 2 = some 2:=rfl
 have f4:mF d p 4 = some 4:=rfl
 have f5:mF d p 5 = some d:=rfl
 have f6:mF d p 6 = p:=rfl
 refine ToX.fitW (stE:=⟨T,[some (trow 5 N.length root),none,some (e6r kd w n0),none,some (nrow l),some (arow N),some (nrow r)]⟩) (mF d p) ⟨fun c c' b x x' hc hc' e e' => ?_,fun c x hc => ?_⟩ hT (fun c hc => ?_) (by simp) (ToX.here hS)
 ·rcases rowsM hc with ⟨rfl,_⟩ | ⟨rfl,_⟩ | ⟨rfl,_⟩ | ⟨rfl,_⟩ | ⟨rfl,_⟩ <;> rcases rowsM hc' with ⟨rfl,_⟩ | ⟨rfl,_⟩ | ⟨rfl,_⟩ | ⟨rfl,_⟩ | ⟨rfl,_⟩ <;>
   first
    | rfl
    | (exfalso; simp only [f0,f2,f4,f5,f6] at e e'; first | (have:=q0 _ e; simp only [Option.some.injEq] at e'; omega) | (have:=q0 _ e'; simp only [Option.some.injEq] at e; omega) | (simp only [Option.some.injEq] at e e'; omega))
 ·rcases rowsM hc with ⟨rfl,rfl⟩ | ⟨rfl,rfl⟩ | ⟨rfl,rfl⟩ | ⟨rfl,rfl⟩ | ⟨rfl,rfl⟩
  ·exact .inl ⟨0,_,rfl,h0,trow_v rfl (by simp)⟩
  ·exact .inl ⟨2,_,rfl,h2,(RowG.lst1' rfl rfl).vw _ _⟩
  ·exact .inl ⟨4,_,rfl,h4,(nrow_g l).vw _ _⟩
  ·exact .inl ⟨d,_,rfl,h3,(arow_g N).vw _ _⟩
  ·rcases h6 with ⟨rfl,rfl⟩ | ⟨q,g,rfl,_,hq,hg⟩
   ·exact .inr ⟨rfl,rfl⟩
   ·exact .inl ⟨q,_,rfl,hq,.gen rfl fun i hi => ⟨rfl,by rw [hg i hi]; exact Vw.intI⟩⟩
 ·match c,hc with
  | 0,_ => rfl
  | 1,_ => rfl
  | 2,_ => rfl
  | 3,_ => rfl
  | 4,_ => rfl
theorem tmM_spr (n al m r:Nat):tmM n al m r = Dc.spr [(0,.ptr false 0 0 0),(6,.sl false 4 0 n .no),(10,.sl false 6 0 r .no),(11,.int .i64 (al:Nat)),(13,.int .i64 (m:Nat))] 0 133:=by kernel_rfl
def lpB4 (kd:Int) (w:List UInt8) (n0:Nat):LoopSpX:=fun st k F => st.tmps.length = 133 /\ nthV st.tmps 0 = .ptr false 0 0 0 /\ ∃ (al:Nat) (root:Int) (N:List NE) (l:List Nat) (us:List Tr),nthV st.tmps 6 = .sl false 4 0 l.length .no /\ nthV st.tmps 10 = .nils /\ nthV st.tmps 11 = .int .i64 (al:Nat) /\ nthV st.tmps 13 = .int .i64 0 /\ st.rows = [some (trow 3 N.length root),none,some (e6r kd w n0),some (arow N),some (nrow l)] /\ NF F N /\ TrsA N us l /\ al = l.length ^ l.length /\ al <= 1000 /\ 1 <= l.length /\ l.length <= 1000 /\ N.length <= 95000 /\
 ∀ N' r F',Mo N N' -> NF F' N' -> Up F F' -> TrsA N' (allT us al) r -> N'.length = N.length + r.length -> k .normal (famM kd w n0 al al root N' l r) F'
theorem loopB4 {R : Nat → RoRow} (hR : Free6 R) (is : List Nat) (kd : Int) (w : List UInt8) (n0 : Nat) (HP : HPt) :
    ∀ st k F, lpB4 kd w n0 st k F → SafeX Try.prog (R6 R is) [] (.block 4 (.loop (loopOf fi19 4))) st F k HP := by
  rintro ⟨TM, rows⟩ k F ⟨hl0, a0, al, root, N, l, us, a6, a10, a11, a13, hr, hN, hT, hal, hb, h1, hl, hNl, hk⟩
  simp only at hl0 a0 a6 a10 a11 a13 hr
  subst hr
  have hlen : us.length = l.length := hT.is.len
  refine SafeX.loop_block (Inv := fun mm st F' => ∃ m N' r, m ≤ al ∧ mm = al - m ∧ Mo N N' ∧ NF F' N' ∧ Up F F' ∧ TrNs N' (allT us m) r ∧ N'.length = N.length + r.length ∧ r.length ≤ m ∧ st = famM kd w n0 al m root N' l r) ?_ ?_
  · refine toFM (kd := kd) (w := w) (n0 := n0) (d := 3) (l := l) (r := []) (p := none) rfl rfl rfl rfl (.inl ⟨rfl, rfl⟩) (T := tmM l.length al 0 0) ?_ ⟨_, 0, N, [], Nat.zero_le _, rfl, Mo.refl N, hN, Up.refl F, by simp [allT, TrNs], rfl, Nat.le_refl _, rfl⟩
    rw [tmM_spr]
    exact VwL.ofKnown hl0 ⟨by rw [a0]; exact Vw.ptrI (by simp) rfl, by rw [a6]; exact Vw.slI (by simp) rfl, by rw [a10]; exact Vw.slN (b := 6) (by simp) rfl, by rw [a11]; exact Vw.intI, by rw [a13]; exact Vw.intI, trivial⟩
  · rintro mm st' F' ⟨m, N', r, hm, rfl, hMo, hN', hu, hTr, hNr, hrm, rfl⟩
    have main : SafeX Try.prog (R6 R is) [] (loopOf fi19 4) (famM kd w n0 al m root N' l r) F' (fun e st F2 => st.tmps.length = 133 ∧ nthV st.tmps 0 = .ptr false 0 0 0 ∧ nthV st.tmps 6 = .sl false 4 0 l.length .no ∧ nthV st.tmps 11 = .int .i64 (al : Nat) ∧ st.rows.live 2 = some (e6r kd w n0) ∧ st.rows.live 4 = some (nrow l) ∧
        ((e = .exit 4 ∧ m = al ∧ F2 = F' ∧ nthV st.tmps 10 = .sl false 6 0 r.length .no ∧ nthV st.tmps 13 = .int .i64 (m : Nat) ∧ st.rows = (famM kd w n0 al m root N' l r).rows) ∨
         (e = .normal ∧ m < al ∧ nthV st.tmps 13 = .int .i64 ((m + 1 : Nat) : Int) ∧ (wk l.length m l.length).gd = false ∧ F2 = F' ∧ nthV st.tmps 10 = .sl false 6 0 r.length .no ∧ st.rows.live 0 = some (trow 5 N'.length root) ∧ st.rows.live 5 = some (arow N') ∧ st.rows.live 6 = some (nrow r)) ∨
         (e = .normal ∧ m < al ∧ nthV st.tmps 13 = .int .i64 ((m + 1 : Nat) : Int) ∧ (wk l.length m l.length).gd = true ∧ ∃ x, Up F' F2 ∧ FrK F2 x (dgs l m l.length) ∧ nthV st.tmps 10 = .sl false 13 0 (r ++ [N'.length]).length .no ∧ st.rows.live 0 = some (trow 11 (N' ++ [NE.mk 4 [] (dgs l m l.length) x]).length root) ∧ st.rows.live 11 = some (arow (N' ++ [NE.mk 4 [] (dgs l m l.length) x])) ∧ ∃ g, st.rows.live 13 = some (.gen 3 1 (r ++ [N'.length]).length g) ∧ ∀ i, i < (r ++ [N'.length]).length → g i = .int .i64 (((r ++ [N'.length]).getD i 0 : Nat) : Int)))) HP := by
      refine SafeX.by mixed ((env6s_ok hR is HP).addLoop (f := 19) (fi := fi19) (by kernel_rfl) (i := 6) (body := .loop (loopOf fi19 6)) (by kernel_rfl) (loop6 hR is kd w n0 al m HP)) (f := 19) (fi := fi19) (i := 4) (by kernel_rfl) (b := .loop (loopOf fi19 4)) (by kernel_rfl) (subs_loop _) 1000 (vrB4 R is kd w n0 al m root N' l r (fun e n T rows F2 => n = 133 ∧ nthV T 0 = .ptr false 0 0 0 ∧ nthV T 1 = .sl false 4 0 l.length .no ∧ nthV T 3 = .int .i64 (al : Nat) ∧ rows.live 2 = some (e6r kd w n0) ∧ rows.live 4 = some (nrow l) ∧
        ((e = .exit 4 ∧ m = al ∧ F2 = F' ∧ nthV T 2 = .sl false 6 0 r.length .no ∧ nthV T 4 = .int .i64 (m : Nat) ∧ rows = (famM kd w n0 al m root N' l r).rows) ∨
         (e = .normal ∧ m < al ∧ nthV T 4 = .int .i64 ((m + 1 : Nat) : Int) ∧ (wk l.length m l.length).gd = false ∧ F2 = F' ∧ nthV T 2 = .sl false 6 0 r.length .no ∧ rows.live 0 = some (trow 5 N'.length root) ∧ rows.live 5 = some (arow N') ∧ rows.live 6 = some (nrow r)) ∨
         (e = .normal ∧ m < al ∧ nthV T 4 = .int .i64 ((m + 1 : Nat) : Int) ∧ (wk l.length m l.length).gd = true ∧ ∃ x, Up F' F2 ∧ FrK F2 x (dgs l m l.length) ∧ nthV T 2 = .sl false 13 0 (r ++ [N'.length]).length .no ∧ rows.live 0 = some (trow 11 (N' ++ [NE.mk 4 [] (dgs l m l.length) x]).length root) ∧ rows.live 11 = some (arow (N' ++ [NE.mk 4 [] (dgs l m l.length) x])) ∧ ∃ g, rows.live 13 = some (.gen 3 1 (r ++ [N'.length]).length g) ∧ ∀ i, i < (r ++ [N'.length]).length → g i = .int .i64 (((r ++ [N'.length]).getD i 0 : Nat) : Int)))) F') ?_
      refine hcB (fun h => ?_) fun h => ⟨rfl, rfl, rfl, rfl, rfl, rfl, .inl ⟨rfl, by have := of_decide_eq_false h; omega, rfl, rfl, rfl, rfl⟩⟩
      have hlt : m < al := by have := of_decide_eq_true h; omega
      refine hcT ?_ ⟨rfl, rfl, _, root, N', l, r, rfl, rfl, rfl, rfl, rfl, rfl, rfl, rfl, rfl, rfl, hal, hlt, show al ≤ 100000 by omega, hl, hcB (fun hg => ?_) fun hg => ?_⟩
      · simp only [Bool.true_and, Bool.and_eq_true, decide_eq_true_eq]; omega
      · refine ⟨_, dgs l m l.length, rfl, nrow_ro _, rfl, fun F2 x hu2 hf => ⟨N', rfl, rfl, show N'.length ≤ 100000 by omega, ?_⟩⟩
        have bc := capN (l := r) (by omega)
        have hr1 : (r ++ [N'.length]).length = r.length + 1 := by simp
        refine hcT bc ?_
        rw [wrapSucc m (by omega)]
        exact ⟨rfl, rfl, rfl, rfl, rfl, rfl, .inr (.inr ⟨rfl, hlt, rfl, hg, x, hu2, hf, by rw [hr1]; rfl, rfl, rfl, _, by rw [hr1]; rfl, nrow_app r N'.length⟩)⟩
      · rw [wrapSucc m (by omega)]
        exact ⟨rfl, rfl, rfl, rfl, rfl, rfl, .inr (.inl ⟨rfl, hlt, rfl, hg, rfl, rfl, rfl, rfl, rfl⟩)⟩
    refine main.mono ?_ fun _ _ _ h => h
    rintro e ⟨TM2, rows2⟩ F2 ⟨b0, a0, a6, a11, g2, g4, hx⟩
    simp only at b0 a0 a6 a11 g2 g4 hx
    rcases hx with ⟨rfl, hme, rfl, a10, a13, g6⟩ | ⟨rfl, hlt, a13, hg, rfl, a10, k0, k5, k6⟩ | ⟨rfl, hlt, a13, hg, x, hu2, hf, a10, k0, k11, g, k13, k14⟩
    · subst g6
      rw [hme] at hTr
      refine toFM (kd := kd) (w := w) (n0 := n0) (d := 5) (l := l) (r := r) (p := some 6) rfl rfl rfl rfl (.inr ⟨6, _, rfl, by decide, rfl, fun i hi => rfl⟩) (T := tmM l.length al al r.length) ?_ (hk N' r F2 hMo hN' hu ⟨hTr⟩ hNr)
      rw [tmM_spr]
      exact VwL.ofKnown b0 ⟨by rw [a0]; exact Vw.ptrI (by simp) rfl, by rw [a6]; exact Vw.slI (by simp) rfl, by rw [a10]; exact Vw.slI (by simp) rfl, by rw [a11]; exact Vw.intI, by rw [a13, hme]; exact Vw.intI, trivial⟩
    · have hTm : allT us (m + 1) = allT us m := by rw [allT_succ, hlen, hg]; simp
      refine toFM (kd := kd) (w := w) (n0 := n0) (d := 5) (l := l) (r := r) (p := some 6) k0 g2 k5 g4 (.inr ⟨6, _, rfl, by decide, k6, fun i hi => rfl⟩) (T := tmM l.length al (m + 1) r.length) ?_ ⟨al - (m + 1), by omega, m + 1, N', r, hlt, rfl, hMo, hN', hu, by rw [hTm]; exact hTr, hNr, by omega, rfl⟩
      rw [tmM_spr]
      exact VwL.ofKnown b0 ⟨by rw [a0]; exact Vw.ptrI (by simp) rfl, by rw [a6]; exact Vw.slI (by simp) rfl, by rw [a10]; exact Vw.slI (by simp) rfl, by rw [a11]; exact Vw.intI, by rw [a13]; exact Vw.intI, trivial⟩
    · have hTm : allT us (m + 1) = allT us m ++ [.mk 4 [] ((wk l.length m l.length).ks.map fun i => us.getD i tD)] := by rw [allT_succ, hlen, hg]; rfl
      have hsel : TrNs N' ((wk l.length m l.length).ks.map fun i => us.getD i tD) (dgs l m l.length) := TrNs.sel (hMo.trs hT.is) _ fun k hk' => by rw [hlen]; exact wk_lt l.length m h1 l.length k hk'
      refine toFM (kd := kd) (w := w) (n0 := n0) (d := 11) (l := l) (r := r ++ [N'.length]) (p := some 13) k0 g2 k11 g4 (.inr ⟨13, g, rfl, by decide, k13, k14⟩) (T := tmM l.length al (m + 1) (r ++ [N'.length]).length) ?_ ⟨al - (m + 1), by omega, m + 1, N' ++ [NE.mk 4 [] (dgs l m l.length) x], r ++ [N'.length], hlt, rfl, hMo.trans (Mo.snoc _ _), (hN'.le hu2).snoc hf.fr, hu.trans hu2, ?_, by simp only [List.length_append, List.length_cons, List.length_nil]; omega, by simp only [List.length_append, List.length_cons, List.length_nil]; omega, rfl⟩
      · rw [tmM_spr]
        exact VwL.ofKnown b0 ⟨by rw [a0]; exact Vw.ptrI (by simp) rfl, by rw [a6]; exact Vw.slI (by simp) rfl, by rw [a10]; exact Vw.slI (by simp) rfl, by rw [a11]; exact Vw.intI, by rw [a13]; exact Vw.intI, trivial⟩
      · rw [hTm]
        exact TrNs.snoc (trn_new (kd := 4) hsel) _ _ ((Mo.snoc _ _).trs hTr)
noncomputable abbrev famZ (i:Nat) (root:Int) (N:List NE):St:=⟨[.ptr false 0 0 0,.any,.any,.any,.any,.any,.any,.any,.any,.int .i64 (i:Nat),.any,.any,.any,.any,.any,.any,.any,.any,.any,.any,.any,.any,.any,.any,.any,.any,.any,.any,.any,.any,.any,.any,.any,.any,.any,.any,.any,.any,.any,.any,.any,.any,.any,.any,.any,.any,.any,.any,.any,.any,.any,.any,.any,.any,.any,.any,.any,.any,.any,.any,.any,.any,.any,.any,.any,.any,.any,.any,.any,.any,.any,.any,.any,.any,.any,.any,.any,.any,.any,.any,.any,.any,.any,.any,.any,.any,.any,.any,.any,.any,.any,.any,.any,.any,.any,.any,.any,.any,.any,.any,.any,.any,.any,.any,.any,.any,.any,.any,.any,.any,.any,.any,.any,.any,.any,.any,.any,.any,.any,.any,.any,.any,.any,.any,.any,.any,.any,.any,.any,.any,.any,.any,.any],[some (trow 5 N.length root),none,none,none,none,some (arow N)]⟩
noncomputable abbrev endZ (v:Int) (root:Int) (N:List NE):St:=⟨[.any,.any,.any,.any,.int .i64 v,.any,.any,.any,.any,.any,.any,.any,.any,.any,.any,.any,.any,.any,.any,.any,.any,.any,.any,.any,.any,.any,.any,.any,.any,.any,.any,.any,.any,.any,.any,.any,.any,.any,.any,.any,.any,.any,.any,.any,.any,.any,.any,.any,.any,.any,.any,.any,.any,.any,.any,.any,.any,.any,.any,.any,.any,.any,.any,.any,.any,.any,.any,.any,.any,.any,.any,.any,.any,.any,.any,.any,.any,.any,.any,.any,.any,.any,.any,.any,.any,.any,.any,.any,.any,.any,.any,.any,.any,.any,.any,.any,.any,.any,.any,.any,.any,.any,.any,.any,.any,.any,.any,.any,.any,.any,.any,.any,.any,.any,.any,.any,.any,.any,.any,.any,.any,.any,.any,.any,.any,.any,.any,.any,.any,.any,.any,.any,.any],[some (trow 3 N.length root),none,none,some (arow N)]⟩
noncomputable abbrev envN (R:RR) (is:List Nat):EnvX:=((env6s R is).addLoop 19 2 fun _ _ _ => False).addLoop 19 4 fun _ _ _ => False
noncomputable abbrev envA (R:RR) (is:List Nat) (kd:Int) (w:List UInt8):EnvX:=(env6s R is).addLoop 19 4 (lpB4 kd w is.length)
theorem vc19 (R:RR) (kd:Int) (w:List UInt8) (ts:List Tr) (is:List Nat) (g:Nat) (root:Int) (N:List NE) (q:Exit -> St -> Fz -> Prop) (K:St -> Fz -> Prop) (F:Fz):chain ((env19 R ts is).addLoop 19 0 (lp19 kd w ts is g)) 1000 19 q K 2 (tailC 2 fi19.body) (st19 kd w is.length root N) F = (133 = 133 /\ AV.ptr false 0 0 0 = AV.ptr false 0 0 0 /\ AV.ptr false 2 0 0 = AV.ptr false 2 0 0 /\ AV.nils = AV.nils /\ iI (0:Int) = iI 0 /\ ∃ (root_1:Int),∃ (N_1:List NE),[some (Row.lst 35 2 [AV.agg [AV.sl false 1 0 N.length Cp.no,iI root]]),some (Row.gen 62 3 N.length fun (i:Nat) => neV (N.getD i dN)),some (Row.lst 62 3 [AV.agg [iI kd,AV.str w,AV.sl true 6 0 is.length Cp.no]])] = [some (Row.lst 35 2 [AV.agg [AV.sl false 1 0 N_1.length Cp.no,iI root_1]]),some (Row.gen 62 3 N_1.length fun (i:Nat) => neV (N_1.getD i dN)),some (Row.lst 62 3 [AV.agg [iI kd,AV.str w,AV.sl true 6 0 is.length Cp.no]])] /\ NF F N_1 /\ TrsA N_1 ts is /\ (N_1.length + 30 * sizes ts).le g /\ (∀ (us:List Tr),SprsIs ts (some us) -> ∀ (N':List NE) (l:List Nat) (F':Fz),G19 N_1 F N' F' g -> TrsA N' us l -> K (St.mk [AV.ptr false 0 0 0,AV.any,AV.any,AV.any,AV.any,AV.ptr false 2 0 0,AV.sl false 4 0 l.length Cp.no,iI (↑is.length:Int),AV.any,AV.any,AV.any,AV.any,AV.any,AV.any,AV.any,AV.any,AV.any,AV.any,AV.any,AV.any,AV.any,AV.any,AV.any,AV.any,AV.any,AV.any,AV.any,AV.any,AV.any,AV.any,AV.any,AV.any,AV.any,AV.any,AV.any,AV.any,AV.any,AV.any,AV.any,AV.any,AV.any,AV.any,AV.any,AV.any,AV.any,AV.any,AV.any,AV.any,AV.any,AV.any,AV.any,AV.any,AV.any,AV.any,AV.any,AV.any,AV.any,AV.any,AV.any,AV.any,AV.any,AV.any,AV.any,AV.any,AV.any,AV.any,AV.any,AV.any,AV.any,AV.any,AV.any,AV.any,AV.any,AV.any,AV.any,AV.any,AV.any,AV.any,AV.any,AV.any,AV.any,AV.any,AV.any,AV.any,AV.any,AV.any,AV.any,AV.any,AV.any,AV.any,AV.any,AV.any,AV.any,AV.any,AV.any,AV.any,AV.any,AV.any,AV.any,AV.any,AV.any,AV.any,AV.any,AV.any,AV.any,AV.any,AV.any,AV.any,AV.any,AV.any,AV.any,AV.any,AV.any,AV.any,AV.any,AV.any,AV.any,AV.any,AV.any,AV.any,AV.any,AV.any,AV.any,AV.any,AV.any,AV.any,AV.any,AV.any,AV.any,AV.any,AV.any,AV.any,AV.any] [some (Row.lst 35 2 [AV.agg [AV.sl false 3 0 N'.length Cp.no,iI root_1]]),none,some (Row.lst 62 3 [AV.agg [iI kd,AV.str w,AV.sl true 6 0 is.length Cp.no]]),some (Row.gen 62 3 N'.length fun (i:Nat) => neV (N'.getD i dN)),some (Row.gen 3 1 l.length fun (i:Nat) => iI (↑(l.getD i 0):Int))]) F') /\ (SprsIs ts none -> ∀ (N':List NE) (F':Fz),G19 N_1 F N' F' g -> q Exit.ret (St.mk [AV.any,AV.any,AV.any,AV.any,iI (-1),AV.any,AV.any,AV.any,AV.any,AV.any,AV.any,AV.any,AV.any,AV.any,AV.any,AV.any,AV.any,AV.any,AV.any,AV.any,AV.any,AV.any,AV.any,AV.any,AV.any,AV.any,AV.any,AV.any,AV.any,AV.any,AV.any,AV.any,AV.any,AV.any,AV.any,AV.any,AV.any,AV.any,AV.any,AV.any,AV.any,AV.any,AV.any,AV.any,AV.any,AV.any,AV.any,AV.any,AV.any,AV.any,AV.any,AV.any,AV.any,AV.any,AV.any,AV.any,AV.any,AV.any,AV.any,AV.any,AV.any,AV.any,AV.any,AV.any,AV.any,AV.any,AV.any,AV.any,AV.any,AV.any,AV.any,AV.any,AV.any,AV.any,AV.any,AV.any,AV.any,AV.any,AV.any,AV.any,AV.any,AV.any,AV.any,AV.any,AV.any,AV.any,AV.any,AV.any,AV.any,AV.any,AV.any,AV.any,AV.any,AV.any,AV.any,AV.any,AV.any,AV.any,AV.any,AV.any,AV.any,AV.any,AV.any,AV.any,AV.any,AV.any,AV.any,AV.any,AV.any,AV.any,AV.any,AV.any,AV.any,AV.any,AV.any,AV.any,AV.any,AV.any,AV.any,AV.any,AV.any,AV.any,AV.any,AV.any,AV.any,AV.any,AV.any,AV.any,AV.any,AV.any,AV.any,AV.any,AV.any] [some (Row.lst 35 2 [AV.agg [AV.sl false 3 0 N'.length Cp.no,iI root_1]]),none,none,some (Row.gen 62 3 N'.length fun (i:Nat) => neV (N'.getD i dN))]) F')):=by kernel_rfl
theorem vd19 (R:RR) (kd:Int) (w:List UInt8) (ts:List Tr) (is:List Nat) (root:Int) (N:List NE) (l:List Nat) (q:Exit -> Nat -> AV -> AV -> AV -> AV -> Rows -> Fz -> Prop) (F:Fz):rnx (bx (R6 R is)) 1000 19 (hdC (tailC 4 fi19.body)) (fam19 kd w is.length is.length root N l) (fun e st => q e st.tmps.length (nthV st.tmps 0) (nthV st.tmps 5) (nthV st.tmps 6) (nthV st.tmps 7) st.rows) F = (q Exit.normal 133 (AV.ptr false 0 0 0) (AV.ptr false 2 0 0) (AV.sl false 4 0 l.length Cp.no) (iI (↑is.length:Int)) [some (Row.lst 35 2 [AV.agg [AV.sl false 3 0 N.length Cp.no,iI root]]),none,some (Row.lst 62 3 [AV.agg [iI kd,AV.str w,AV.sl true 6 0 is.length Cp.no]]),some (Row.gen 62 3 N.length fun (i:Nat) => neV (N.getD i dN)),some (Row.gen 3 1 l.length fun (i:Nat) => iI (↑(l.getD i 0):Int))] F):=by kernel_rfl
theorem vn19 (R:RR) (kd:Int) (w:List UInt8) (ts:List Tr) (is:List Nat) (root:Int) (N:List NE) (l:List Nat) (q:Exit -> Nat -> AV -> AV -> AV -> Rows -> Fz -> Prop) (F:Fz):rnx (envN R is) 1000 19 (hdC (tailC 5 fi19.body)) (fam19 kd w is.length is.length root N l) (fun e st => q e st.tmps.length (nthV st.tmps 0) (nthV st.tmps 4) (nthV st.tmps 9) st.rows) F = (bif kd != 6 then ∃ (r:Row),∃ (kids:List Nat),some (Row.gen 3 1 l.length fun (i:Nat) => iI (↑(l.getD i 0):Int)) = some r /\ RoOf r (RoRow.mk 3 1 kids.length fun (i:Nat) => iI (↑(kids.getD i 0):Int)) /\ l.length = kids.length /\ ∀ (F':Fz) (x:Nat),Up F F' -> FrK F' x kids -> ∃ (N_1:List NE),N.length = N_1.length /\ some (Row.gen 62 3 N.length fun (i:Nat) => tkE 4 x (AV.agg [iI (N.getD i dN).kd,AV.str (N.getD i dN).w,AV.sl true ((N.getD i dN).x + 15) 0 (N.getD i dN).kids.length Cp.no])) = some (Row.gen 62 3 N_1.length fun (i:Nat) => neV (N_1.getD i dN)) /\ N_1.length.le 100000 /\ q Exit.normal 133 (AV.ptr false 0 0 0) AV.any (iI (↑N_1.length:Int)) [some (Row.lst 35 2 [AV.agg [AV.sl false 7 0 (N_1 ++ [NE.mk kd w kids x]).length Cp.no,iI root]]),none,some (Row.lst 62 3 [AV.agg [iI kd,AV.str w,AV.sl true 6 0 is.length Cp.no]]),none,none,none,none,some (Row.gen 62 3 (N_1 ++ [NE.mk kd w kids x]).length fun (i:Nat) => neV ((N_1 ++ [NE.mk kd w kids x]).getD i dN))] F' else bif decide ((↑l.length:Int) > 4) then q Exit.ret 133 (AV.ptr false 0 0 0) (iI (-1)) AV.any [some (Row.lst 35 2 [AV.agg [AV.sl false 3 0 N.length Cp.no,iI root]]),none,some (Row.lst 62 3 [AV.agg [iI kd,AV.str w,AV.sl true 6 0 is.length Cp.no]]),some (Row.gen 62 3 N.length fun (i:Nat) => neV (N.getD i dN)),some (Row.gen 3 1 l.length fun (i:Nat) => iI (↑(l.getD i 0):Int))] F else False):=by kernel_rfl
theorem vz19 (R:RR) (is:List Nat) (i:Nat) (root:Int) (N:List NE) (q:Exit -> Nat -> AV -> Option Row -> Option Row -> Nat -> Fz -> Prop) (F:Fz):rnx (env6s R is) 1000 19 (tailC 6 fi19.body) (famZ i root N) (fun e st => q e st.tmps.length (nthV st.tmps 4) (st.rows.live 0) (st.rows.live 5) st.rows.length) F = (∃ (t:Tr),∃ (N_1:List NE),∃ (i0:Nat),N.length = N_1.length /\ some (Row.gen 62 3 N.length fun (i:Nat) => neV (N.getD i dN)) = some (Row.gen 62 3 N_1.length fun (i:Nat) => neV (N_1.getD i dN)) /\ (↑i:Int) = (↑i0:Int) /\ NF F N_1 /\ TrA N_1 t i0 /\ (size t).le 10000000 /\ ∀ (F':Fz),Up F F' -> bif decide ((↑(size t):Int) > 4096) then q Exit.ret 133 (iI (-1)) (some (Row.lst 35 2 [AV.agg [AV.sl false 5 0 N.length Cp.no,iI root]])) (some (Row.gen 62 3 N.length fun (i:Nat) => neV (N.getD i dN))) 8 F' else q Exit.ret 133 (iI (↑i:Int)) (some (Row.lst 35 2 [AV.agg [AV.sl false 5 0 N.length Cp.no,iI root]])) (some (Row.gen 62 3 N.length fun (i:Nat) => neV (N.getD i dN))) 8 F'):=by kernel_rfl
theorem va19_2 (R:RR) (w:List UInt8) (is:List Nat) (i0 i1:Nat) (root:Int) (N:List NE) (q:Exit -> Nat -> AV -> AV -> Option Row -> Option Row -> Nat -> Fz -> Prop) (F:Fz):rnx (envA R is 6 w) 1000 19 (hdC (tailC 5 fi19.body)) (fam19 6 w is.length is.length root N [i0,i1]) (fun e st => q e st.tmps.length (nthV st.tmps 0) (nthV st.tmps 9) (st.rows.live 0) (st.rows.live 9) st.rows.length) F = (133 = 133 /\ AV.ptr false 0 0 0 = AV.ptr false 0 0 0 /\ ∃ (al:Nat),∃ (root_1:Int),∃ (N_1:List NE),∃ (l:List Nat),∃ (us:List Tr),AV.sl false 4 0 2 Cp.no = AV.sl false 4 0 l.length Cp.no /\ AV.nils = AV.nils /\ iI 4 = iI (↑al:Int) /\ iI (0:Int) = iI 0 /\ [some (Row.lst 35 2 [AV.agg [AV.sl false 3 0 N.length Cp.no,iI root]]),none,some (Row.lst 62 3 [AV.agg [iI 6,AV.str w,AV.sl true 6 0 is.length Cp.no]]),some (Row.gen 62 3 N.length fun (i:Nat) => neV (N.getD i dN)),some (Row.gen 3 1 2 fun (i:Nat) => iI (↑([i0,i1].getD i 0):Int))] = [some (Row.lst 35 2 [AV.agg [AV.sl false 3 0 N_1.length Cp.no,iI root_1]]),none,some (Row.lst 62 3 [AV.agg [iI 6,AV.str w,AV.sl true 6 0 is.length Cp.no]]),some (Row.gen 62 3 N_1.length fun (i:Nat) => neV (N_1.getD i dN)),some (Row.gen 3 1 l.length fun (i:Nat) => iI (↑(l.getD i 0):Int))] /\ NF F N_1 /\ TrsA N_1 us l /\ al = l.length ^ l.length /\ al.le 1000 /\ Nat.le 1 l.length /\ l.length.le 1000 /\ N_1.length.le 95000 /\ ∀ (N':List NE) (r:List Nat) (F':Fz),Mo N_1 N' -> NF F' N' -> Up F F' -> TrsA N' (allT us al) r -> N'.length = N_1.length + r.length -> ∃ (r_1:Row),∃ (kids:List Nat),some (Row.gen 3 1 r.length fun (i:Nat) => iI (↑(r.getD i 0):Int)) = some r_1 /\ RoOf r_1 (RoRow.mk 3 1 kids.length fun (i:Nat) => iI (↑(kids.getD i 0):Int)) /\ r.length = kids.length /\ ∀ (F'_1:Fz) (x:Nat),Up F' F'_1 -> FrK F'_1 x kids -> ∃ (N:List NE),N'.length = N.length /\ some (Row.gen 62 3 N'.length fun (i:Nat) => tkE 6 x (AV.agg [iI (N'.getD i dN).kd,AV.str (N'.getD i dN).w,AV.sl true ((N'.getD i dN).x + 15) 0 (N'.getD i dN).kids.length Cp.no])) = some (Row.gen 62 3 N.length fun (i:Nat) => neV (N.getD i dN)) /\ N.length.le 100000 /\ q Exit.normal 133 (AV.ptr false 0 0 0) (iI (↑N.length:Int)) (some (Row.lst 35 2 [AV.agg [AV.sl false 9 0 (N ++ [NE.mk 5 [] kids x]).length Cp.no,iI root_1]])) (some (Row.gen 62 3 (N ++ [NE.mk 5 [] kids x]).length fun (i:Nat) => neV ((N ++ [NE.mk 5 [] kids x]).getD i dN))) 10 F'_1):=by kernel_rfl
theorem va19_3 (R:RR) (w:List UInt8) (is:List Nat) (i0 i1 i2:Nat) (root:Int) (N:List NE) (q:Exit -> Nat -> AV -> AV -> Option Row -> Option Row -> Nat -> Fz -> Prop) (F:Fz):rnx (envA R is 6 w) 1000 19 (hdC (tailC 5 fi19.body)) (fam19 6 w is.length is.length root N [i0,i1,i2]) (fun e st => q e st.tmps.length (nthV st.tmps 0) (nthV st.tmps 9) (st.rows.live 0) (st.rows.live 9) st.rows.length) F = (133 = 133 /\ AV.ptr false 0 0 0 = AV.ptr false 0 0 0 /\ ∃ (al:Nat),∃ (root_1:Int),∃ (N_1:List NE),∃ (l:List Nat),∃ (us:List Tr),AV.sl false 4 0 3 Cp.no = AV.sl false 4 0 l.length Cp.no /\ AV.nils = AV.nils /\ iI 27 = iI (↑al:Int) /\ iI (0:Int) = iI 0 /\ [some (Row.lst 35 2 [AV.agg [AV.sl false 3 0 N.length Cp.no,iI root]]),none,some (Row.lst 62 3 [AV.agg [iI 6,AV.str w,AV.sl true 6 0 is.length Cp.no]]),some (Row.gen 62 3 N.length fun (i:Nat) => neV (N.getD i dN)),some (Row.gen 3 1 3 fun (i:Nat) => iI (↑([i0,i1,i2].getD i 0):Int))] = [some (Row.lst 35 2 [AV.agg [AV.sl false 3 0 N_1.length Cp.no,iI root_1]]),none,some (Row.lst 62 3 [AV.agg [iI 6,AV.str w,AV.sl true 6 0 is.length Cp.no]]),some (Row.gen 62 3 N_1.length fun (i:Nat) => neV (N_1.getD i dN)),some (Row.gen 3 1 l.length fun (i:Nat) => iI (↑(l.getD i 0):Int))] /\ NF F N_1 /\ TrsA N_1 us l /\ al = l.length ^ l.length /\ al.le 1000 /\ Nat.le 1 l.length /\ l.length.le 1000 /\ N_1.length.le 95000 /\ ∀ (N':List NE) (r:List Nat) (F':Fz),Mo N_1 N' -> NF F' N' -> Up F F' -> TrsA N' (allT us al) r -> N'.length = N_1.length + r.length -> ∃ (r_1:Row),∃ (kids:List Nat),some (Row.gen 3 1 r.length fun (i:Nat) => iI (↑(r.getD i 0):Int)) = some r_1 /\ RoOf r_1 (RoRow.mk 3 1 kids.length fun (i:Nat) => iI (↑(kids.getD i 0):Int)) /\ r.length = kids.length /\ ∀ (F'_1:Fz) (x:Nat),Up F' F'_1 -> FrK F'_1 x kids -> ∃ (N:List NE),N'.length = N.length /\ some (Row.gen 62 3 N'.length fun (i:Nat) => tkE 6 x (AV.agg [iI (N'.getD i dN).kd,AV.str (N'.getD i dN).w,AV.sl true ((N'.getD i dN).x + 15) 0 (N'.getD i dN).kids.length Cp.no])) = some (Row.gen 62 3 N.length fun (i:Nat) => neV (N.getD i dN)) /\ N.length.le 100000 /\ q Exit.normal 133 (AV.ptr false 0 0 0) (iI (↑N.length:Int)) (some (Row.lst 35 2 [AV.agg [AV.sl false 9 0 (N ++ [NE.mk 5 [] kids x]).length Cp.no,iI root_1]])) (some (Row.gen 62 3 (N ++ [NE.mk 5 [] kids x]).length fun (i:Nat) => neV ((N ++ [NE.mk 5 [] kids x]).getD i dN))) 10 F'_1):=by kernel_rfl
theorem va19_4 (R:RR) (w:List UInt8) (is:List Nat) (i0 i1 i2 i3:Nat) (root:Int) (N:List NE) (q:Exit -> Nat -> AV -> AV -> Option Row -> Option Row -> Nat -> Fz -> Prop) (F:Fz):rnx (envA R is 6 w) 1000 19 (hdC (tailC 5 fi19.body)) (fam19 6 w is.length is.length root N [i0,i1,i2,i3]) (fun e st => q e st.tmps.length (nthV st.tmps 0) (nthV st.tmps 9) (st.rows.live 0) (st.rows.live 9) st.rows.length) F = (133 = 133 /\ AV.ptr false 0 0 0 = AV.ptr false 0 0 0 /\ ∃ (al:Nat),∃ (root_1:Int),∃ (N_1:List NE),∃ (l:List Nat),∃ (us:List Tr),AV.sl false 4 0 4 Cp.no = AV.sl false 4 0 l.length Cp.no /\ AV.nils = AV.nils /\ iI 256 = iI (↑al:Int) /\ iI (0:Int) = iI 0 /\ [some (Row.lst 35 2 [AV.agg [AV.sl false 3 0 N.length Cp.no,iI root]]),none,some (Row.lst 62 3 [AV.agg [iI 6,AV.str w,AV.sl true 6 0 is.length Cp.no]]),some (Row.gen 62 3 N.length fun (i:Nat) => neV (N.getD i dN)),some (Row.gen 3 1 4 fun (i:Nat) => iI (↑([i0,i1,i2,i3].getD i 0):Int))] = [some (Row.lst 35 2 [AV.agg [AV.sl false 3 0 N_1.length Cp.no,iI root_1]]),none,some (Row.lst 62 3 [AV.agg [iI 6,AV.str w,AV.sl true 6 0 is.length Cp.no]]),some (Row.gen 62 3 N_1.length fun (i:Nat) => neV (N_1.getD i dN)),some (Row.gen 3 1 l.length fun (i:Nat) => iI (↑(l.getD i 0):Int))] /\ NF F N_1 /\ TrsA N_1 us l /\ al = l.length ^ l.length /\ al.le 1000 /\ Nat.le 1 l.length /\ l.length.le 1000 /\ N_1.length.le 95000 /\ ∀ (N':List NE) (r:List Nat) (F':Fz),Mo N_1 N' -> NF F' N' -> Up F F' -> TrsA N' (allT us al) r -> N'.length = N_1.length + r.length -> ∃ (r_1:Row),∃ (kids:List Nat),some (Row.gen 3 1 r.length fun (i:Nat) => iI (↑(r.getD i 0):Int)) = some r_1 /\ RoOf r_1 (RoRow.mk 3 1 kids.length fun (i:Nat) => iI (↑(kids.getD i 0):Int)) /\ r.length = kids.length /\ ∀ (F'_1:Fz) (x:Nat),Up F' F'_1 -> FrK F'_1 x kids -> ∃ (N:List NE),N'.length = N.length /\ some (Row.gen 62 3 N'.length fun (i:Nat) => tkE 6 x (AV.agg [iI (N'.getD i dN).kd,AV.str (N'.getD i dN).w,AV.sl true ((N'.getD i dN).x + 15) 0 (N'.getD i dN).kids.length Cp.no])) = some (Row.gen 62 3 N.length fun (i:Nat) => neV (N.getD i dN)) /\ N.length.le 100000 /\ q Exit.normal 133 (AV.ptr false 0 0 0) (iI (↑N.length:Int)) (some (Row.lst 35 2 [AV.agg [AV.sl false 9 0 (N ++ [NE.mk 5 [] kids x]).length Cp.no,iI root_1]])) (some (Row.gen 62 3 (N ++ [NE.mk 5 [] kids x]).length fun (i:Nat) => neV ((N ++ [NE.mk 5 [] kids x]).getD i dN))) 10 F'_1):=by kernel_rfl
structure Fin19 (o:Option Tr) (g:Nat) (root:Int) (N:List NE) (F:Fz) (e:Exit) (st:St) (F':Fz):Prop where
 e:e = .ret
 n:st.tmps.length = 133
 l:3 <= st.rows.length
 is:∃ (N':List NE) (d:Nat),G19 N F N' F' g /\ 3 <= d /\ st.rows.live 0 = some (trow d N'.length root) /\ st.rows.live d = some (arow N') /\ ((∃ t i,o = some t /\ TrN N' t i /\ nthV st.tmps 4 = .int .i64 (i:Nat)) \/ (o = none /\ nthV st.tmps 4 = .int .i64 (-1)))
theorem sp19_4:tailC 4 fi19.body = .seq (hdC (tailC 4 fi19.body)) (tailC 5 fi19.body):=by kernel_rfl
theorem sp19_5:tailC 5 fi19.body = .seq (hdC (tailC 5 fi19.body)) (tailC 6 fi19.body):=by kernel_rfl
theorem subt19 (n:Nat):∀ p ∈ subs (tailC n fi19.body),p ∈ subs fi19.body:=subs_tail n _
theorem subh19 (n:Nat):∀ p ∈ subs (hdC (tailC n fi19.body)),p ∈ subs fi19.body:=fun p hp => subs_tail n _ p (by
 cases h:tailC n fi19.body with
 | seq x y => rw [h] at hp; simp only [subs]; exact List.mem_append_left _ hp
 | _ => rw [h] at hp; exact hp)
theorem end19 {R:RR} (hR:Free6 R) (is:List Nat) (i:Nat) (root:Int) (N N0:List NE) (F0 F:Fz) (g:Nat) (t:Tr) (hG:G19 N0 F0 N F g) (ht:TrN N t i) (hz:size t <= 10000000) (HP:HPt) :
  SafeX Try.prog (R6 R is) [] (tailC 6 fi19.body) (famZ i root N) F (fun e st F' => Fin19 (chk (some t)) g root N0 F0 e st F') HP:=by
 have h1:SafeX Try.prog (R6 R is) [] (tailC 6 fi19.body) (famZ i root N) F (fun e st F' => e = .ret /\ st.tmps.length = 133 /\ 3 <= st.rows.length /\ Up F F' /\ st.rows.live 0 = some (trow 5 N.length root) /\ st.rows.live 5 = some (arow N) /\ ((chk (some t) = some t /\ nthV st.tmps 4 = .int .i64 (i:Nat)) \/ (chk (some t) = none /\ nthV st.tmps 4 = .int .i64 (-1)))) HP:=by
  refine SafeX.rnx mixed (env6s_ok hR is HP) (f:=19) (fun p hp => by unfold Env.subsOf; rw [show (env6s R is).F 19 = some fi19 by kernel_rfl]; exact subt19 6 p hp) 1000 ?_
  refine Eq.mpr (vz19 R is i root N (fun e n a r0 r5 m F' => e = .ret /\ n = 133 /\ 3 <= m /\ Up F F' /\ r0 = some (trow 5 N.length root) /\ r5 = some (arow N) /\ ((chk (some t) = some t /\ a = .int .i64 (i:Nat)) \/ (chk (some t) = none /\ a = .int .i64 (-1)))) F) ?_
  exact ⟨t,N,i,rfl,rfl,rfl,hG.nf,⟨ht⟩,hz,fun F' hu => hcB (fun h => ⟨rfl,rfl,by decide,hu,rfl,rfl,.inr ⟨chk_none (by have:=of_decide_eq_true h; omega),rfl⟩⟩) fun h => ⟨rfl,rfl,by decide,hu,rfl,rfl,.inl ⟨chk_some (by have:=of_decide_eq_false h; omega),rfl⟩⟩⟩
 refine h1.mono ?_ fun _ _ _ h => h
 rintro e st F' ⟨rfl,h1,h2,hu,h3,h4,⟨h5,h6⟩ | ⟨h5,h6⟩⟩
 ·exact ⟨rfl,h1,h2,N,5,⟨hG.mo,hG.nf.le hu,hG.up.trans hu,hG.le⟩,by decide,h3,h4,.inl ⟨t,i,h5,ht,h6⟩⟩
 ·exact ⟨rfl,h1,h2,N,5,⟨hG.mo,hG.nf.le hu,hG.up.trans hu,hG.le⟩,by decide,h3,h4,.inr ⟨h5,h6⟩⟩
theorem famZ_spr (i:Nat) (root:Int) (N:List NE):(famZ i root N).tmps = Dc.spr [(0,.ptr false 0 0 0),(9,.int .i64 (i:Nat))] 0 133:=by kernel_rfl
theorem toZ {R:RR} {TM:List AV} {rows:Rows} {i d:Nat} {root:Int} {N:List NE} {F:Fz} {S:St -> Fz -> Prop} (b0:TM.length = 133) (b1:nthV TM 0 = .ptr false 0 0 0) (b2:nthV TM 9 = .int .i64 (i:Nat)) (h0:rows.live 0 = some (trow d N.length root)) (h1:rows.live d = some (arow N)) (hS:S (famZ i root N) F):ToX R [] 5 ⟨TM,rows⟩ F S:=by
 have nd:d ≠ 0:=row_ne h1 h0 (by simp [Row.ty])
 refine ToX.fitW (stE:=famZ i root N) (mvR 5 d) ⟨fun c c' b r r' hc hc' e e' => ?_,fun c r hc => ?_⟩ ?_ (mvR_lt (Nat.le_refl 5)) (by simp) (ToX.here hS)
 ·have l2:∀ {c:Nat} {x:Row},Rows.live (famZ i root N).rows c = some x -> c = 0 \/ c = 5:=by
   intro c x hc
   match c with
   | 0 => exact .inl rfl
   | 5 => exact .inr rfl
   | 1 => cases hc
   | 2 => cases hc
   | 3 => cases hc
   | 4 => cases hc
   | c + 6 => simp [Rows.live] at hc
  have f0:mvR 5 d 0 = some 0:=rfl
  have f5:mvR 5 d 5 = some d:=rfl
  rcases l2 hc with rfl | rfl <;> rcases l2 hc' with rfl | rfl <;> first | rfl | (exfalso; simp only [f0,f5,Option.some.injEq] at e e'; omega)
 ·match c with
  | 0 => cases hc; exact .inl ⟨0,_,rfl,h0,trow_v rfl (by simp)⟩
  | 1 => cases hc
  | 2 => cases hc
  | 3 => cases hc
  | 4 => cases hc
  | 5 => cases hc; exact .inl ⟨d,_,rfl,h1,(arow_g N).vw _ _⟩
  | c + 6 => simp [Rows.live] at hc
 ·show VwL (mvR 5 d) 6 (famZ i root N).tmps TM
  rw [famZ_spr]
  exact VwL.ofKnown b0 ⟨by rw [b1]; exact Vw.ptrI (by simp) rfl,by rw [b2]; exact Vw.intI,trivial⟩
theorem allT_ords (us:List Tr) (h:us.length = 2 \/ us.length = 3 \/ us.length = 4):allT us (us.length ^ us.length) = (ords us.length).map fun o => .mk 4 [] (o.map fun i => us.getD i tD):=by
 have key:((List.range (us.length ^ us.length)).filter fun m => (wk us.length m us.length).gd).map (fun m => (wk us.length m us.length).ks) = ords us.length:=by
  generalize us.length = n at h
  rcases h with rfl | rfl | rfl
  ·kernel_rfl
  ·kernel_rfl
  ·kernel_rfl
 unfold allT
 rw [<- key,List.map_map]
 rfl
theorem bot_ok {R:RR} {c:Code} {HP:HPt}:∀ st (k:Exit -> St -> Fz -> Prop) F,(fun (_:St) (_:Exit -> St -> Fz -> Prop) (_:Fz) => False) st k F -> SafeX Try.prog R [] c st F k HP:=fun _ _ _ h => h.elim
theorem all19_2 {R:RR} (hR:Free6 R) (is:List Nat) (w:List UInt8) (i0 i1:Nat) (root:Int) (N N0:List NE) (F0 F:Fz) (g:Nat) (us:List Tr) (hG:G19 N0 F0 N F g) (hg:N.length + 25 <= g) (hg2:g <= 90000) (hT:TrNs N us [i0,i1]) (hz:size (outAll us) <= 10000000) (HP:HPt) :
  SafeX Try.prog (R6 R is) [] (tailC 5 fi19.body) (fam19 6 w is.length is.length root N [i0,i1]) F (fun e st F' => Fin19 (chk (some (outAll us))) g root N0 F0 e st F') HP:=by
 have hus:us.length = 2:=hT.len
 have hao:=allT_ords us (by omega)
 rw [hus] at hao
 have hol:=(ords_len 2 (by omega)).1
 rw [sp19_5]
 refine SafeX.seq ?_
 have h1:SafeX Try.prog (R6 R is) [] (hdC (tailC 5 fi19.body)) (fam19 6 w is.length is.length root N [i0,i1]) F (fun e st F' => e = .normal /\ ∃ N' i,G19 N F N' F' (N.length + 25) /\ TrN N' (outAll us) i /\ st.tmps.length = 133 /\ nthV st.tmps 0 = .ptr false 0 0 0 /\ nthV st.tmps 9 = .int .i64 (i:Nat) /\ st.rows.live 0 = some (trow 9 N'.length root) /\ st.rows.live 9 = some (arow N')) HP:=by
  refine SafeX.rnx mixed ((env6s_ok hR is HP).addLoop (f:=19) (fi:=fi19) (by kernel_rfl) (i:=4) (body:=.loop (loopOf fi19 4)) (by kernel_rfl) (loopB4 hR is 6 w is.length HP)) (f:=19) (fun p hp => by unfold Env.subsOf; rw [show (envA R is 6 w).F 19 = some fi19 by kernel_rfl]; exact subh19 5 p hp) 1000 ?_
  refine Eq.mpr (va19_2 R w is i0 i1 root N (fun e n a b r0 r9 m F' => e = .normal /\ ∃ N' i,G19 N F N' F' (N.length + 25) /\ TrN N' (outAll us) i /\ n = 133 /\ a = .ptr false 0 0 0 /\ b = .int .i64 (i:Nat) /\ r0 = some (trow 9 N'.length root) /\ r9 = some (arow N')) F) ?_
  refine ⟨rfl,rfl,4,root,N,[i0,i1],us,rfl,rfl,rfl,rfl,rfl,hG.nf,⟨hT⟩,rfl,nle rfl,nle rfl,nle rfl,show N.length <= 95000 by omega,fun N' r F' hMo hNF hu hTr hlen => ⟨_,r,rfl,nrow_ro r,rfl,fun F2 x hu2 hf => ⟨N',rfl,rfl,?_,rfl,N' ++ [NE.mk 5 [] r x],N'.length,⟨hMo.trans (Mo.snoc _ _),(hNF.le hu2).snoc hf.fr,hu.trans hu2,?_⟩,?_,rfl,rfl,rfl,rfl,rfl⟩⟩⟩
  ·have h5:=hTr.is.len
   rw [hao,List.length_map] at h5
   show N'.length <= 100000
   omega
  ·have h5:=hTr.is.len
   rw [hao,List.length_map] at h5
   simp only [List.length_append,List.length_cons,List.length_nil]
   omega
  ·have h6:=hTr.is
   rw [hao] at h6
   have:=trn_new (kd:=5) (w:=[]) (x:=x) h6
   unfold outAll
   rw [hus]
   exact this
 have h2:SafeX Try.prog (R6 R is) [] (hdC (tailC 5 fi19.body)) (fam19 6 w is.length is.length root N [i0,i1]) F (fun e st F' => e = .normal /\ ∃ N' i,G19 N F N' F' (N.length + 25) /\ TrN N' (outAll us) i /\ st = famZ i root N') HP:=by
  refine SafeX.post h1 ?_
  rintro e ⟨TM,rows⟩ F' _ ⟨rfl,N',i,hG2,ht,b0,b1,b2,k0,k9⟩
  exact toZ b0 b1 b2 k0 k9 ⟨rfl,N',i,hG2,ht,rfl⟩
 refine h2.mono ?_ fun _ _ _ h => h
 rintro e st F' ⟨rfl,N',i,hG2,ht,rfl⟩
 exact end19 hR is i root N' N0 F0 F' g (outAll us) ⟨hG.mo.trans hG2.mo,hG2.nf,hG.up.trans hG2.up,Nat.le_trans hG2.le hg⟩ ht hz HP
theorem all19_3 {R:RR} (hR:Free6 R) (is:List Nat) (w:List UInt8) (i0 i1 i2:Nat) (root:Int) (N N0:List NE) (F0 F:Fz) (g:Nat) (us:List Tr) (hG:G19 N0 F0 N F g) (hg:N.length + 25 <= g) (hg2:g <= 90000) (hT:TrNs N us [i0,i1,i2]) (hz:size (outAll us) <= 10000000) (HP:HPt) :
  SafeX Try.prog (R6 R is) [] (tailC 5 fi19.body) (fam19 6 w is.length is.length root N [i0,i1,i2]) F (fun e st F' => Fin19 (chk (some (outAll us))) g root N0 F0 e st F') HP:=by
 have hus:us.length = 3:=hT.len
 have hao:=allT_ords us (by omega)
 rw [hus] at hao
 have hol:=(ords_len 3 (by omega)).1
 rw [sp19_5]
 refine SafeX.seq ?_
 have h1:SafeX Try.prog (R6 R is) [] (hdC (tailC 5 fi19.body)) (fam19 6 w is.length is.length root N [i0,i1,i2]) F (fun e st F' => e = .normal /\ ∃ N' i,G19 N F N' F' (N.length + 25) /\ TrN N' (outAll us) i /\ st.tmps.length = 133 /\ nthV st.tmps 0 = .ptr false 0 0 0 /\ nthV st.tmps 9 = .int .i64 (i:Nat) /\ st.rows.live 0 = some (trow 9 N'.length root) /\ st.rows.live 9 = some (arow N')) HP:=by
  refine SafeX.rnx mixed ((env6s_ok hR is HP).addLoop (f:=19) (fi:=fi19) (by kernel_rfl) (i:=4) (body:=.loop (loopOf fi19 4)) (by kernel_rfl) (loopB4 hR is 6 w is.length HP)) (f:=19) (fun p hp => by unfold Env.subsOf; rw [show (envA R is 6 w).F 19 = some fi19 by kernel_rfl]; exact subh19 5 p hp) 1000 ?_
  refine Eq.mpr (va19_3 R w is i0 i1 i2 root N (fun e n a b r0 r9 m F' => e = .normal /\ ∃ N' i,G19 N F N' F' (N.length + 25) /\ TrN N' (outAll us) i /\ n = 133 /\ a = .ptr false 0 0 0 /\ b = .int .i64 (i:Nat) /\ r0 = some (trow 9 N'.length root) /\ r9 = some (arow N')) F) ?_
  refine ⟨rfl,rfl,27,root,N,[i0,i1,i2],us,rfl,rfl,rfl,rfl,rfl,hG.nf,⟨hT⟩,rfl,nle rfl,nle rfl,nle rfl,show N.length <= 95000 by omega,fun N' r F' hMo hNF hu hTr hlen => ⟨_,r,rfl,nrow_ro r,rfl,fun F2 x hu2 hf => ⟨N',rfl,rfl,?_,rfl,N' ++ [NE.mk 5 [] r x],N'.length,⟨hMo.trans (Mo.snoc _ _),(hNF.le hu2).snoc hf.fr,hu.trans hu2,?_⟩,?_,rfl,rfl,rfl,rfl,rfl⟩⟩⟩
  ·have h5:=hTr.is.len
   rw [hao,List.length_map] at h5
   show N'.length <= 100000
   omega
  ·have h5:=hTr.is.len
   rw [hao,List.length_map] at h5
   simp only [List.length_append,List.length_cons,List.length_nil]
   omega
  ·have h6:=hTr.is
   rw [hao] at h6
   have:=trn_new (kd:=5) (w:=[]) (x:=x) h6
   unfold outAll
   rw [hus]
   exact this
 have h2:SafeX Try.prog (R6 R is) [] (hdC (tailC 5 fi19.body)) (fam19 6 w is.length is.length root N [i0,i1,i2]) F (fun e st F' => e = .normal /\ ∃ N' i,G19 N F N' F' (N.length + 25) /\ TrN N' (outAll us) i /\ st = famZ i root N') HP:=by
  refine SafeX.post h1 ?_
  rintro e ⟨TM,rows⟩ F' _ ⟨rfl,N',i,hG2,ht,b0,b1,b2,k0,k9⟩
  exact toZ b0 b1 b2 k0 k9 ⟨rfl,N',i,hG2,ht,rfl⟩
 refine h2.mono ?_ fun _ _ _ h => h
 rintro e st F' ⟨rfl,N',i,hG2,ht,rfl⟩
 exact end19 hR is i root N' N0 F0 F' g (outAll us) ⟨hG.mo.trans hG2.mo,hG2.nf,hG.up.trans hG2.up,Nat.le_trans hG2.le hg⟩ ht hz HP
theorem all19_4 {R:RR} (hR:Free6 R) (is:List Nat) (w:List UInt8) (i0 i1 i2 i3:Nat) (root:Int) (N N0:List NE) (F0 F:Fz) (g:Nat) (us:List Tr) (hG:G19 N0 F0 N F g) (hg:N.length + 25 <= g) (hg2:g <= 90000) (hT:TrNs N us [i0,i1,i2,i3]) (hz:size (outAll us) <= 10000000) (HP:HPt) :
  SafeX Try.prog (R6 R is) [] (tailC 5 fi19.body) (fam19 6 w is.length is.length root N [i0,i1,i2,i3]) F (fun e st F' => Fin19 (chk (some (outAll us))) g root N0 F0 e st F') HP:=by
 have hus:us.length = 4:=hT.len
 have hao:=allT_ords us (by omega)
 rw [hus] at hao
 have hol:=(ords_len 4 (by omega)).1
 rw [sp19_5]
 refine SafeX.seq ?_
 have h1:SafeX Try.prog (R6 R is) [] (hdC (tailC 5 fi19.body)) (fam19 6 w is.length is.length root N [i0,i1,i2,i3]) F (fun e st F' => e = .normal /\ ∃ N' i,G19 N F N' F' (N.length + 25) /\ TrN N' (outAll us) i /\ st.tmps.length = 133 /\ nthV st.tmps 0 = .ptr false 0 0 0 /\ nthV st.tmps 9 = .int .i64 (i:Nat) /\ st.rows.live 0 = some (trow 9 N'.length root) /\ st.rows.live 9 = some (arow N')) HP:=by
  refine SafeX.rnx mixed ((env6s_ok hR is HP).addLoop (f:=19) (fi:=fi19) (by kernel_rfl) (i:=4) (body:=.loop (loopOf fi19 4)) (by kernel_rfl) (loopB4 hR is 6 w is.length HP)) (f:=19) (fun p hp => by unfold Env.subsOf; rw [show (envA R is 6 w).F 19 = some fi19 by kernel_rfl]; exact subh19 5 p hp) 1000 ?_
  refine Eq.mpr (va19_4 R w is i0 i1 i2 i3 root N (fun e n a b r0 r9 m F' => e = .normal /\ ∃ N' i,G19 N F N' F' (N.length + 25) /\ TrN N' (outAll us) i /\ n = 133 /\ a = .ptr false 0 0 0 /\ b = .int .i64 (i:Nat) /\ r0 = some (trow 9 N'.length root) /\ r9 = some (arow N')) F) ?_
  refine ⟨rfl,rfl,256,root,N,[i0,i1,i2,i3],us,rfl,rfl,rfl,rfl,rfl,hG.nf,⟨hT⟩,rfl,nle rfl,nle rfl,nle rfl,show N.length <= 95000 by omega,fun N' r F' hMo hNF hu hTr hlen => ⟨_,r,rfl,nrow_ro r,rfl,fun F2 x hu2 hf => ⟨N',rfl,rfl,?_,rfl,N' ++ [NE.mk 5 [] r x],N'.length,⟨hMo.trans (Mo.snoc _ _),(hNF.le hu2).snoc hf.fr,hu.trans hu2,?_⟩,?_,rfl,rfl,rfl,rfl,rfl⟩⟩⟩
  ·have h5:=hTr.is.len
   rw [hao,List.length_map] at h5
   show N'.length <= 100000
   omega
  ·have h5:=hTr.is.len
   rw [hao,List.length_map] at h5
   simp only [List.length_append,List.length_cons,List.length_nil]
   omega
  ·have h6:=hTr.is
   rw [hao] at h6
   have:=trn_new (kd:=5) (w:=[]) (x:=x) h6
   unfold outAll
   rw [hus]
   exact this
 have h2:SafeX Try.prog (R6 R is) [] (hdC (tailC 5 fi19.body)) (fam19 6 w is.length is.length root N [i0,i1,i2,i3]) F (fun e st F' => e = .normal /\ ∃ N' i,G19 N F N' F' (N.length + 25) /\ TrN N' (outAll us) i /\ st = famZ i root N') HP:=by
  refine SafeX.post h1 ?_
  rintro e ⟨TM,rows⟩ F' _ ⟨rfl,N',i,hG2,ht,b0,b1,b2,k0,k9⟩
  exact toZ b0 b1 b2 k0 k9 ⟨rfl,N',i,hG2,ht,rfl⟩
 refine h2.mono ?_ fun _ _ _ h => h
 rintro e st F' ⟨rfl,N',i,hG2,ht,rfl⟩
 exact end19 hR is i root N' N0 F0 F' g (outAll us) ⟨hG.mo.trans hG2.mo,hG2.nf,hG.up.trans hG2.up,Nat.le_trans hG2.le hg⟩ ht hz HP
theorem rest19 {R:RR} (hR:Free6 R) (kd:Nat) (w:List UInt8) (is l:List Nat) (root:Int) (N N0:List NE) (F0 F:Fz) (g:Nat) (us:List Tr) (hG:G19 N0 F0 N F g) (hg:N.length + 25 <= g) (hg2:g <= 90000) (hT:TrNs N us l) (h2:kd = 6 -> 2 <= us.length) (hn:us.length <= 2000) (hsz:∀ u ∈ us,size u <= 4096) (HP:HPt) :
  SafeX Try.prog (R6 R is) [] (tailC 5 fi19.body) (fam19 (kd:Int) w is.length is.length root N l) F (fun e st F' => Fin19 (chk (outOf kd w us)) g root N0 F0 e st F') HP:=by
 have hlen:us.length = l.length:=hT.len
 have envN_ok:OKX Try.prog (envN R is) [] HP:=((env6s_ok hR is HP).addLoop (f:=19) (fi:=fi19) (by kernel_rfl) (i:=2) (body:=.loop (loopOf fi19 2)) (by kernel_rfl) bot_ok).addLoop (f:=19) (fi:=fi19) (by kernel_rfl) (i:=4) (body:=.loop (loopOf fi19 4)) (by kernel_rfl) bot_ok
 by_cases hk:kd = 6
 ·subst hk
  have h2:=h2 rfl
  by_cases h4:us.length > 4
  ·rw [sp19_5]
   refine SafeX.seq ?_
   have e:chk (outOf 6 w us) = none:=by unfold outOf; rw [if_pos rfl,if_pos h4]; rfl
   have h1:SafeX Try.prog (R6 R is) [] (hdC (tailC 5 fi19.body)) (fam19 ((6:Nat):Int) w is.length is.length root N l) F (fun e st F' => e = .ret /\ F' = F /\ st.tmps.length = 133 /\ nthV st.tmps 4 = .int .i64 (-1) /\ 3 <= st.rows.length /\ st.rows.live 0 = some (trow 3 N.length root) /\ st.rows.live 3 = some (arow N)) HP:=by
    refine SafeX.rnx mixed envN_ok (f:=19) (fun p hp => by unfold Env.subsOf; rw [show (envN R is).F 19 = some fi19 by kernel_rfl]; exact subh19 5 p hp) 1000 ?_
    refine Eq.mpr (vn19 R ((6:Nat):Int) w us is root N l (fun e n a b c rows F' => e = .ret /\ F' = F /\ n = 133 /\ b = .int .i64 (-1) /\ 3 <= rows.length /\ rows.live 0 = some (trow 3 N.length root) /\ rows.live 3 = some (arow N)) F) ?_
    exact hcF rfl (hcT (decide_eq_true (by omega)) ⟨rfl,rfl,rfl,rfl,by simp,rfl,rfl⟩)
   refine h1.mono ?_ fun _ _ _ h => h
   rintro e st F' ⟨rfl,rfl,g1,g2,g3,g4,g5⟩
   show Fin19 _ _ _ _ _ _ _ _
   rw [‹chk _ = none›]
   exact ⟨rfl,g1,g3,N,3,hG,Nat.le_refl _,g4,g5,.inr ⟨rfl,g2⟩⟩
  ·rcases (by omega:us.length = 2 \/ us.length = 3 \/ us.length = 4) with h | h | h
   ·have hn:l.length = 2:=by omega
    match l,hn,hT,hlen with
    | [i0,i1],_,hT,hlen =>
     have e:outOf 6 w us = some (outAll us):=by unfold outOf; rw [if_pos rfl,if_neg (by omega)]
     rw [e]
     exact all19_2 hR is w i0 i1 root N N0 F0 F g us hG hg hg2 hT (outAll_le (by omega) hsz) HP
   ·have hn:l.length = 3:=by omega
    match l,hn,hT,hlen with
    | [i0,i1,i2],_,hT,hlen =>
     have e:outOf 6 w us = some (outAll us):=by unfold outOf; rw [if_pos rfl,if_neg (by omega)]
     rw [e]
     exact all19_3 hR is w i0 i1 i2 root N N0 F0 F g us hG hg hg2 hT (outAll_le (by omega) hsz) HP
   ·have hn:l.length = 4:=by omega
    match l,hn,hT,hlen with
    | [i0,i1,i2,i3],_,hT,hlen =>
     have e:outOf 6 w us = some (outAll us):=by unfold outOf; rw [if_pos rfl,if_neg (by omega)]
     rw [e]
     exact all19_4 hR is w i0 i1 i2 i3 root N N0 F0 F g us hG hg hg2 hT (outAll_le (by omega) hsz) HP
 ·rw [sp19_5]
  refine SafeX.seq ?_
  have hz:size (.mk kd w us) <= 10000000:=by
   have:=sizes_bd hsz
   simp only [size]
   have h3:4096 * us.length <= 4096 * 2000:=Nat.mul_le_mul_left _ hn
   omega
  have e:outOf kd w us = some (.mk kd w us):=by unfold outOf; rw [if_neg hk]
  have h1:SafeX Try.prog (R6 R is) [] (hdC (tailC 5 fi19.body)) (fam19 (kd:Int) w is.length is.length root N l) F (fun e st F' => e = .normal /\ ∃ x,Up F F' /\ FrK F' x l /\ st = famZ N.length root (N ++ [NE.mk (kd:Int) w l x])) HP:=by
   have h0:SafeX Try.prog (R6 R is) [] (hdC (tailC 5 fi19.body)) (fam19 (kd:Int) w is.length is.length root N l) F (fun e st F' => e = .normal /\ ∃ x,Up F F' /\ FrK F' x l /\ st.tmps.length = 133 /\ nthV st.tmps 0 = .ptr false 0 0 0 /\ nthV st.tmps 9 = .int .i64 (N.length:Nat) /\ st.rows.live 0 = some (trow 7 (N ++ [NE.mk (kd:Int) w l x]).length root) /\ st.rows.live 7 = some (arow (N ++ [NE.mk (kd:Int) w l x]))) HP:=by
    refine SafeX.rnx mixed envN_ok (f:=19) (fun p hp => by unfold Env.subsOf; rw [show (envN R is).F 19 = some fi19 by kernel_rfl]; exact subh19 5 p hp) 1000 ?_
    refine Eq.mpr (vn19 R (kd:Int) w us is root N l (fun e n a b c rows F' => e = .normal /\ ∃ x,Up F F' /\ FrK F' x l /\ n = 133 /\ a = .ptr false 0 0 0 /\ c = .int .i64 (N.length:Nat) /\ rows.live 0 = some (trow 7 (N ++ [NE.mk (kd:Int) w l x]).length root) /\ rows.live 7 = some (arow (N ++ [NE.mk (kd:Int) w l x]))) F) ?_
    exact hcT (by rw [bne_iff_ne]; omega) ⟨_,l,rfl,nrow_ro l,rfl,fun F' x hu hf => ⟨N,rfl,rfl,show N.length <= 100000 by omega,rfl,x,hu,hf,rfl,rfl,rfl,rfl,rfl⟩⟩
   refine SafeX.post h0 ?_
   rintro e ⟨TM,rows⟩ F' _ ⟨rfl,x,hu,hf,b0,b1,b2,k0,k7⟩
   exact toZ b0 b1 b2 k0 k7 ⟨rfl,x,hu,hf,rfl⟩
  refine h1.mono ?_ fun _ _ _ h => h
  rintro e st F' ⟨rfl,x,hu,hf,rfl⟩
  show SafeX _ _ _ _ _ _ _ _
  rw [‹outOf _ _ _ = _›]
  exact end19 hR is N.length root _ N0 F0 F' g (.mk kd w us) ⟨hG.mo.trans (Mo.snoc _ _),(hG.nf.le hu).snoc hf.fr,hG.up.trans hu,by simp only [List.length_append,List.length_cons,List.length_nil]; omega⟩ (trn_new hT) hz HP
theorem sp19_22:tailC 2 (tailC 2 fi19.body) = tailC 4 fi19.body:=by kernel_rfl
theorem row_self {kd root:Int} {w:List UInt8} {n:Nat} {N:List NE} {l:List Nat}:∀ c r,Rows.live [some (trow 3 N.length root),none,some (e6r kd w n),some (arow N),some (nrow l)] c = some r -> RowV some 5 r r:=by
 intro c r h
 rcases rows19 h with ⟨rfl,rfl⟩ | ⟨rfl,rfl⟩ | ⟨rfl,rfl⟩ | ⟨rfl,rfl⟩
 ·exact trow_v rfl (by simp)
 ·exact (RowG.lst1' rfl rfl).vw _ _
 ·exact (arow_g N).vw _ _
 ·exact (nrow_g l).vw _ _
theorem step5 {R:RR} (kd:Int) (w:List UInt8) (is l:List Nat) (root:Int) (N:List NE) (F:Fz) (HP:HPt) :
  SafeX Try.prog (R6 R is) [] (hdC (tailC 4 fi19.body)) (fam19 kd w is.length is.length root N l) F (fun e st F' => e = .normal /\ F' = F /\ st = fam19 kd w is.length is.length root N l) HP:=by
 have h0:SafeX Try.prog (R6 R is) [] (hdC (tailC 4 fi19.body)) (fam19 kd w is.length is.length root N l) F (fun e st F' => e = .normal /\ F' = F /\ st.tmps.length = 133 /\ nthV st.tmps 0 = .ptr false 0 0 0 /\ nthV st.tmps 5 = .ptr false 2 0 0 /\ nthV st.tmps 6 = .sl false 4 0 l.length .no /\ nthV st.tmps 7 = .int .i64 (is.length:Nat) /\ st.rows = (fam19 kd w is.length is.length root N l).rows) HP:=by
  refine SafeX.rnx mixed (bx_ok (R6 R is) [] HP) (f:=19) (fun p hp => by unfold Env.subsOf; rw [show (bx (R6 R is)).F 19 = some fi19 by kernel_rfl]; exact subh19 4 p hp) 1000 ?_
  refine Eq.mpr (vd19 R kd w [] is root N l (fun e n a b c d rows F' => e = .normal /\ F' = F /\ n = 133 /\ a = .ptr false 0 0 0 /\ b = .ptr false 2 0 0 /\ c = .sl false 4 0 l.length .no /\ d = .int .i64 (is.length:Nat) /\ rows = (fam19 kd w is.length is.length root N l).rows) F) ?_
  exact ⟨rfl,rfl,rfl,rfl,rfl,rfl,rfl,rfl⟩
 refine SafeX.post h0 ?_
 rintro e ⟨TM,rows⟩ F' _ ⟨rfl,rfl,b0,b1,b2,b3,b4,b5⟩
 simp only at b0 b1 b2 b3 b4 b5
 subst b5
 refine ToX.fitW (stE:=fam19 kd w is.length is.length root N l) some ⟨fun c c' b r r' _ _ h h' => by cases h; cases h'; rfl,fun c r hc => .inl ⟨c,r,rfl,hc,row_self c r hc⟩⟩ ?_ (fun _ _ => rfl) (Nat.le_refl _) (ToX.here ⟨rfl,rfl,rfl⟩)
 show VwL some 5 (tm19 l.length is.length) TM
 rw [tm19_spr]
 exact VwL.ofKnown b0 ⟨by rw [b1]; exact Vw.ptrI (by simp) rfl,by rw [b2]; exact Vw.ptrI (by simp) rfl,by rw [b3]; exact Vw.slI (by simp) rfl,by rw [b4]; exact Vw.intI,trivial⟩
inductive End19 (o:Option Tr) (g:Nat) (root:Int) (N:List NE) (F:Fz):Exit -> St -> Fz -> Prop
 | ok (t:Tr) (i:Nat) (N':List NE) (F':Fz) (h:o = some t) (hG:G19 N F N' F' g) (ht:TrN N' t i):End19 o g root N F .ret (endZ (i:Nat) root N') F'
 | big (N':List NE) (F':Fz) (h:o = none) (hG:G19 N F N' F' g):End19 o g root N F .ret (endZ (-1) root N') F'
theorem endZ_spr (v:Int) (root:Int) (N:List NE):(endZ v root N).tmps = Dc.spr [(4,.int .i64 v)] 0 133:=by kernel_rfl
theorem toEndZ {R:RR} {TM:List AV} {rows:Rows} {v:Int} {d:Nat} {root:Int} {N:List NE} {F:Fz} {S:St -> Fz -> Prop} (b0:TM.length = 133) (b1:nthV TM 4 = .int .i64 v) (hd:3 <= d) (h0:rows.live 0 = some (trow d N.length root)) (h1:rows.live d = some (arow N)) (hS:S (endZ v root N) F):ToX R [] 3 ⟨TM,rows⟩ F S:=by
 refine ToX.fitW (stE:=endZ v root N) (mvR 3 d) ⟨fun c c' b r r' hc hc' e e' => ?_,fun c r hc => ?_⟩ ?_ (mvR_lt (Nat.le_refl 3)) (by simp) (ToX.here hS)
 ·have l2:∀ {c:Nat} {x:Row},Rows.live (endZ v root N).rows c = some x -> c = 0 \/ c = 3:=by
   intro c x hc
   match c with
   | 0 => exact .inl rfl
   | 3 => exact .inr rfl
   | 1 => cases hc
   | 2 => cases hc
   | c + 4 => simp [Rows.live] at hc
  have f0:mvR 3 d 0 = some 0:=rfl
  have f3:mvR 3 d 3 = some d:=rfl
  rcases l2 hc with rfl | rfl <;> rcases l2 hc' with rfl | rfl <;> first | rfl | (exfalso; simp only [f0,f3,Option.some.injEq] at e e'; omega)
 ·match c with
  | 0 => cases hc; exact .inl ⟨0,_,rfl,h0,trow_v rfl (by simp)⟩
  | 1 => cases hc
  | 2 => cases hc
  | 3 => cases hc; exact .inl ⟨d,_,rfl,h1,(arow_g N).vw _ _⟩
  | c + 4 => simp [Rows.live] at hc
 ·show VwL (mvR 3 d) 4 (endZ v root N).tmps TM
  rw [endZ_spr]
  exact VwL.ofKnown b0 ⟨by rw [b1]; exact Vw.intI,trivial⟩
theorem tail19 {R:RR} (hR:Free6 R) (kd:Nat) (w:List UInt8) (ts:List Tr) (is:List Nat) (root:Int) (N:List NE) (F:Fz) (hs:∀ t ∈ ts,Spr19 t) (hN:NF F N) (hT:TrNs N ts is) (h2:kd = 6 -> 2 <= ts.length) (hn:ts.length <= 2000) (hg:grw N.length (.mk kd w ts) <= 90000) (HP:HPt) :
  SafeX Try.prog (R6 R is) [] (tailC 2 fi19.body) (st19 (kd:Int) w is.length root N) F (End19 (spr (.mk kd w ts)) (grw N.length (.mk kd w ts)) root N F) HP:=by
 have hgw:grw N.length (.mk kd w ts) = N.length + 30 * (1 + sizes ts):=rfl
 have main:SafeX Try.prog (R6 R is) [] (tailC 2 fi19.body) (st19 (kd:Int) w is.length root N) F (fun e st F' => Fin19 (spr (.mk kd w ts)) (grw N.length (.mk kd w ts)) root N F e st F') HP:=by
  refine chain_ok ((env19_ok hR hs HP).addLoop (f:=19) (fi:=fi19) (by kernel_rfl) (i:=0) (body:=.loop (loopOf fi19 0)) (by kernel_rfl) (loop19 hR (kd:Int) w (N.length + 30 * sizes ts) hs (by omega) (by omega) HP)) (f:=19) (K:=fun st F1 => ∃ us N' l,sprs ts = some us /\ G19 N F N' F1 (N.length + 30 * sizes ts) /\ TrNs N' us l /\ st = fam19 (kd:Int) w is.length is.length root N' l) 1000 2 (tailC 2 fi19.body) _ _ (fun p hp => by unfold Env.subsOf; rw [show ((env19 R ts is).addLoop 19 0 (lp19 (kd:Int) w ts is (N.length + 30 * sizes ts))).F 19 = some fi19 by kernel_rfl]; exact subt19 2 p hp) ?_ ?_
  ·rintro st F1 ⟨us,N',l,hus,hG,hTl,rfl⟩
   have hle:=sprs_le hus
   rw [sp19_22,sp19_4]
   refine SafeX.seq ((step5 (kd:Int) w is l root N' F1 HP).mono ?_ fun _ _ _ h => h)
   rintro e st F2 ⟨rfl,rfl,rfl⟩
   have e:spr (.mk kd w ts) = chk (outOf kd w us):=by rw [spr_mk,hus]
   show SafeX _ _ _ _ _ _ _ _
   rw [e]
   have hl:=hG.le
   exact rest19 hR kd w is l root N' N F F2 _ us ⟨hG.mo,hG.nf,hG.up,by omega⟩ (by omega) hg hTl (by rw [hle.1]; exact h2) (by rw [hle.1]; exact hn) hle.2 HP
  ·refine Eq.mpr (vc19 R (kd:Int) w ts is (N.length + 30 * sizes ts) root N _ _ F) ?_
   refine ⟨rfl,rfl,rfl,rfl,rfl,root,N,rfl,hN,⟨hT⟩,Nat.le_refl _,fun us hus N' l F' hG hTl => ⟨us,N',l,hus.is,hG,hTl.is,rfl⟩,fun hb N' F' hG => ?_⟩
   have e:spr (.mk kd w ts) = none:=by rw [spr_mk,hb.is]
   show Fin19 (spr (.mk kd w ts)) _ _ _ _ .ret (bad19 root N') F'
   rw [e]
   exact ⟨rfl,by kernel_rfl,by simp,N',3,⟨hG.mo,hG.nf,hG.up,by have:=hG.le; omega⟩,Nat.le_refl _,rfl,rfl,.inr ⟨rfl,by kernel_rfl⟩⟩
 refine SafeX.post main ?_
 rintro e ⟨TM,rows⟩ F' _ ⟨rfl,b0,b1,N',d,hG,hd,k0,k1,⟨t,i,ho,ht,b2⟩ | ⟨ho,b2⟩⟩
 ·exact toEndZ b0 b2 hd k0 k1 (.ok t i N' F' ho hG ht)
 ·exact toEndZ b0 b2 hd k0 k1 (.big N' F' ho hG)
theorem vs19 (R:RR) (i:Nat) (root:Int) (N:List NE) (q:Exit -> St -> Fz -> Prop) (K:Nat -> AV -> AV -> Rows -> Fz -> Prop) (F:Fz):chain (bx R) 1000 19 q (fun st F => K st.tmps.length (nthV st.tmps 0) (nthV st.tmps 5) st.rows F) 2 fi19.body ⟨enterT [.ptr false 0 0 0,.int .i64 (i:Nat)] fi19.ntmps,[some (trow 1 N.length root),some (arow N)]⟩ F = (bif true && decide ((↑i:Int) < (↑N.length:Int)) then bif decide (0 + (↑i:Int).toNat < N.length) then K 133 (AV.ptr false 0 0 0) (AV.ptr false 2 0 0) [some (Row.lst 35 2 [AV.agg [AV.sl false 1 0 N.length Cp.no,iI root]]),some (Row.gen 62 3 N.length fun (i:Nat) => neV (N.getD i dN)),some (Row.lst 62 3 [AV.agg [iI (N.getD (0 + (↑i:Int).toNat) dN).kd,AV.str (N.getD (0 + (↑i:Int).toNat) dN).w,AV.sl true ((N.getD (0 + (↑i:Int).toNat) dN).x + 15) 0 (N.getD (0 + (↑i:Int).toNat) dN).kids.length Cp.no]])] F else False else False):=by kernel_rfl
theorem res19:fi19.results = [.tmp 4]:=by kernel_rfl
theorem tm19s_spr:tm19s = Dc.spr [(0,.ptr false 0 0 0),(5,.ptr false 2 0 0)] 0 133:=by kernel_rfl
theorem endZ_nm (x:Nat) (v root:Int) (N:List NE):nmSt 6 x (endZ v root N) = endZ v root N:=by kernel_rfl
abbrev e62q (kd:Int) (w:List UInt8) (x n:Nat):Row:=.lst 62 3 [.agg [.int .i64 kd,.str w,.sl true (x + 15) 0 n .no]]
theorem spr19_step (kd:Nat) (w:List UInt8) (ts:List Tr) (hs:∀ t ∈ ts,Spr19 t) (h2:kd = 6 -> 2 <= ts.length) (hn:ts.length <= 2000):Spr19 (.mk kd w ts):=by
 intro R hR i root N F HP hN ht hg
 simp only [TrN] at ht
 obtain ⟨e,he,hkd,hw,hT⟩:=ht
 have hi:i < N.length:=(List.getElem?_eq_some_iff.1 he).1
 have hem:e ∈ N:=List.mem_of_getElem? he
 have hfrN:=hN.is e hem
 have tl:=tail19 hR kd w ts e.kids root N F hs hN hT h2 hn hg (fun _ _ _ => False)
 have s6:=SafeX.swap (R:=R) (k:=6) (x:=e.x) (by decide) hfrN hR.n hR.q tl (Q1:=End19 (spr (.mk kd w ts)) (grw N.length (.mk kd w ts)) root N F) (HP1:=fun _ _ _ => False) (by
  rintro x st' F' _ h
  refine ⟨?_,h⟩
  cases h <;> exact endZ_nm _ _ _ _) (fun v h' F' _ h => h.elim)
 have e0:nmSt 6 e.x (st19 (kd:Int) w e.kids.length root N) = ⟨tm19s,[some (trow 1 N.length root),some (arow N),some (e62q (kd:Int) w e.x e.kids.length)]⟩:=by kernel_rfl
 rw [e0] at s6
 refine SafeCallX.post (Q:=fun v h' F' => ∃ N',Out19 (.mk kd w ts) N F v N' F' /\ h' = (endZ 0 root N').rows) (HP:=fun _ _ _ => False) ?_ ?_ (fun v h' F' _ h => h.elim)
 ·refine SafeCallX.of_body (fi:=fi19) (bx_ok R [] (fun _ _ _ => False)).T ((bx_ok R [] (fun _ _ _ => False)).F 19 fi19 (by kernel_rfl)) ?_
  have main:SafeX Try.prog R [] fi19.body ⟨enterT [.ptr false 0 0 0,.int .i64 (i:Nat)] fi19.ntmps,[some (trow 1 N.length root),some (arow N)]⟩ F (End19 (spr (.mk kd w ts)) (grw N.length (.mk kd w ts)) root N F) (fun _ _ _ => False):=by
   refine chain_ok (bx_ok R [] _) (f:=19) (K:=fun st F1 => F1 = F /\ st.tmps.length = 133 /\ nthV st.tmps 0 = .ptr false 0 0 0 /\ nthV st.tmps 5 = .ptr false 2 0 0 /\ st.rows = [some (trow 1 N.length root),some (arow N),some (e62q (kd:Int) w e.x e.kids.length)]) 1000 2 fi19.body _ _ (fun p hp => by unfold Env.subsOf; rw [show (bx R).F 19 = some fi19 by kernel_rfl]; exact hp) ?_ ?_
   ·rintro ⟨TM,rows⟩ F1 ⟨rfl,h1,h2,h3,h4⟩
    simp only at h1 h2 h3 h4
    subst h4
    refine SafeX.pre (ToX.fitW (stE:=⟨tm19s,[some (trow 1 N.length root),some (arow N),some (e62q (kd:Int) w e.x e.kids.length)]⟩) some ⟨fun c c' b r r' _ _ h h' => by cases h; cases h'; rfl,fun c r hc => ?_⟩ ?_ (fun _ _ => rfl) (Nat.le_refl _) (ToX.here s6))
    ·match c with
     | 0 => cases hc; exact .inl ⟨0,_,rfl,rfl,trow_v rfl (by simp)⟩
     | 1 => cases hc; exact .inl ⟨1,_,rfl,rfl,(arow_g N).vw _ _⟩
     | 2 => cases hc; exact .inl ⟨2,_,rfl,rfl,(RowG.lst1' rfl rfl).vw _ _⟩
     | c + 3 => simp [Rows.live] at hc
    ·rw [tm19s_spr]
     exact VwL.ofKnown h1 ⟨by rw [h2]; exact Vw.ptrI (by simp) rfl,by rw [h3]; exact Vw.ptrI (by simp) rfl,trivial⟩
   ·refine Eq.mpr (vs19 R i root N (End19 (spr (.mk kd w ts)) (grw N.length (.mk kd w ts)) root N F) (fun n a b rows F1 => F1 = F /\ n = 133 /\ a = .ptr false 0 0 0 /\ b = .ptr false 2 0 0 /\ rows = [some (trow 1 N.length root),some (arow N),some (e62q (kd:Int) w e.x e.kids.length)]) F) ?_
    have e1:((i:Nat):Int) < (N.length:Int):=by omega
    refine hcT (by rw [decide_eq_true e1]; rfl) (hcT (decide_eq_true (by simpa using hi)) ⟨rfl,rfl,rfl,rfl,?_⟩)
    rw [getN he,hkd,hw]
  refine main.mono ?_ fun _ _ _ h => h
  rintro x st' F' h
  cases h with
  | ok t' i' N' F'' ho hG hT' =>
   refine ⟨.inr rfl,[.int .i64 (i':Nat)],?_,N',.ok t' N' i' F' ho hG hT',rfl⟩
   rw [res19]
   exact ⟨_,[],rfl,rfl,rfl⟩
  | big N' F'' ho hG =>
   refine ⟨.inr rfl,[.int .i64 (-1)],?_,N',.big N' F' ho hG,rfl⟩
   rw [res19]
   exact ⟨_,[],rfl,rfl,rfl⟩
 ·rintro v h' F' _ ⟨N',ho,rfl⟩
  refine ToV.fitW (vE:=v) (hE:=[some (trow 2 N'.length root),none,some (arow N')]) (mvR 2 3) ⟨fun c c' b r r' hc hc' e e' => ?_,fun c r hc => ?_⟩ (gnd_vw _ _ _ ho.gnd.1) (mvR_lt (n:=2) (by decide)) (by simp) (ToV.here ⟨N',ho,rfl⟩)
  ·match c,c' with
   | 0,0 => rfl
   | 2,2 => rfl
   | 0,2 => cases e; cases e'
   | 2,0 => cases e; cases e'
   | 1,_ => cases hc
   | _,1 => cases hc'
   | c + 3,_ => simp [Rows.live] at hc
   | 0,c + 3 => simp [Rows.live] at hc'
   | 2,c + 3 => simp [Rows.live] at hc'
  ·match c with
   | 0 => cases hc; exact .inl ⟨0,_,rfl,rfl,trow_v rfl (by simp)⟩
   | 1 => cases hc
   | 2 => cases hc; exact .inl ⟨3,_,rfl,rfl,(arow_g N').vw _ _⟩
   | c + 3 => simp [Rows.live] at hc
mutual
theorem spr19:∀ (t:Tr),Frm t -> sz t <= 2000 -> Spr19 t
 | .mk k w ts,hf,hz => by
  simp only [Frm] at hf
  simp only [sz] at hz
  have:=szs_len ts
  exact spr19_step k w ts (spr19s ts hf.2 (by omega)) (fun h => (hf.1.c (by omega)).2) (by omega)
theorem spr19s:∀ (ts:List Tr),Frms ts -> szs ts <= 2000 -> ∀ u ∈ ts,Spr19 u
 | [],_,_,u,h => by cases h
 | t :: ts,hf,hz,u,h => by
  simp only [Frms] at hf
  simp only [szs] at hz
  rcases List.mem_cons.1 h with e | h
  ·rw [e]; exact spr19 t hf.1 (by omega)
  ·exact spr19s ts hf.2 (by omega) u h
end
def spec19:CallSpecX:=fun args h k => match args with
 | [.ptr false b 0 0,.int .i64 i] => atT botX h b fun c n root => fun F => ∃ (t:Tr) (N:List NE) (i0:Nat),n = N.length /\ h.live c = some (arow N) /\ i = (i0:Nat) /\ NF F N /\ TrA N t i0 /\ Fit19 t /\ grw N.length t <= 90000 /\
   (∀ t',SprIs t (some t') -> ∀ N' i' F',G19 N F N' F' (grw N.length t) -> TrA N' t' i' -> k (.int .i64 (i':Nat)) (addRows h b c root N') F') /\ (SprIs t none -> ∀ N' F',G19 N F N' F' (grw N.length t) -> k (.int .i64 (-1)) (addRows h b c root N') F')
 | _ => botX
theorem spec19_ok {R:RR} (hR:Free6 R) (HP:HPt):∀ args h k F,spec19 args h k F -> SafeCallX Try.prog R 19 args h F k HP:=by
 intro args h k F hk
 unfold spec19 at hk
 split at hk
 ·obtain ⟨c,n,root,hb,t,N,i0,rfl,hc,rfl,hN,hT,hz,hg,hok,hbad⟩:=atT_ofX hk
  exact at19 hb hc (spr19 t hz.f hz.s R hR i0 root N F _ hN hT.is hg) hok hbad
 ·exact hk.elim
noncomputable abbrev env8 (R:RR):EnvX:=((((envZ R).addCall 11 spec11).addCall 12 spec12).addCall 18 spec18).addCall 19 spec19
theorem free6_RX8:Free6 RX:=⟨⟨rfl,RX_quits 5⟩,rfl,RX_quits 6⟩
theorem env8_ok {R:RR} (hR:Free6 R) (HP:HPt):OKX Try.prog (env8 R) [] HP :=
 ((((envZ_ok hR.f HP).addCall (f:=11) (fi:=fi11) (by kernel_rfl) (spec11_ok R HP)).addCall (f:=12) (fi:=fi12) (by kernel_rfl) (spec12_ok hR HP)).addCall (f:=18) (fi:=fi18) (by kernel_rfl) (spec18_ok hR.f HP)).addCall (f:=19) (fi:=fi19) (by kernel_rfl) (spec19_ok hR HP)
theorem vc8 (R:RR) (s:List UInt8) (q:AV -> Fz -> Prop) (F:Fz):vcx (env8 R) 1000 8 fi8 [.str s] [] (fun v _ F => q v F) F = (∀ (F':Fz),Up F F' -> (∀ (t:Tr),parse s = PR.ok t 0 -> ∀ (N:List NE) (i:Nat) (F'_1:Fz),TrA N t i -> NF F'_1 N -> Up F' F'_1 -> N.length.le 2000 -> (∀ (t:Tr),parse s = PR.ok t 0 -> ∀ (x:Nat) (F':Fz),Up F'_1 F' -> TAt F' t x -> ∃ (t_1:Tr),∃ (x_1:Nat),AV.agg [iI (↑t.kind:Int),AV.str t.word,AV.sl true (x + 15) 0 t.kids.length Cp.no] = AV.agg [iI (↑t_1.kind:Int),AV.str t_1.word,AV.sl true (x_1 + 15) 0 t_1.kids.length Cp.no] /\ TAt F' t_1 x_1 /\ NiceT t_1 /\ ∀ (F'_2:Fz),Up F' F'_2 -> ∃ (t_2:Tr),∃ (x_2:Nat),AV.agg [iI (↑t.kind:Int),AV.str t.word,AV.sl true (x + 15) 0 t.kids.length Cp.no] = AV.agg [iI (↑t_2.kind:Int),AV.str t_2.word,AV.sl true (x_2 + 15) 0 t_2.kids.length Cp.no] /\ TAt F'_2 t_2 x_2 /\ (Frm t_2 /\ (sz t_2).le 2000) /\ (∀ (t':Tr),SprIs t_2 (some t') -> ∀ (x':Nat) (F':Fz),Up F'_2 F' -> TAt F' t' x' -> ∃ (t_3:Tr),∃ (N_1:List NE),∃ (i0:Nat),N.length = N_1.length /\ some (Row.gen 62 3 N.length fun (i:Nat) => neV (N.getD i dN)) = some (Row.gen 62 3 N_1.length fun (i:Nat) => neV (N_1.getD i dN)) /\ (↑i:Int) = (↑i0:Int) /\ NF F' N_1 /\ TrA N_1 t_3 i0 /\ Fit19 t_3 /\ (grw N_1.length t_3).le 90000 /\ (∀ (t'_1:Tr),SprIs t_3 (some t'_1) -> ∀ (N':List NE) (i':Nat) (F'_3:Fz),G19 N_1 F' N' F'_3 (grw N_1.length t_3) -> TrA N' t'_1 i' -> ∃ (t_4:Tr),∃ (x_3:Nat),∃ (N:List NE),∃ (i0:Nat),AV.agg [iI (↑t'.kind:Int),AV.str t'.word,AV.sl true (x' + 15) 0 t'.kids.length Cp.no] = AV.agg [iI (↑t_4.kind:Int),AV.str t_4.word,AV.sl true (x_3 + 15) 0 t_4.kids.length Cp.no] /\ N'.length = N.length /\ some (Row.gen 62 3 N'.length fun (i:Nat) => neV (N'.getD i dN)) = some (Row.gen 62 3 N.length fun (i:Nat) => neV (N.getD i dN)) /\ (↑i':Int) = (↑i0:Int) /\ TAt F'_3 t_4 x_3 /\ NF F'_3 N /\ TrA N t_4 i0 /\ (size t_4).le 100000 /\ ∀ (F':Fz),Up F'_3 F' -> ∃ (t_5:Tr),∃ (x_4:Nat),AV.agg [iI (↑t.kind:Int),AV.str t.word,AV.sl true (x + 15) 0 t.kids.length Cp.no] = AV.agg [iI (↑t_5.kind:Int),AV.str t_5.word,AV.sl true (x_4 + 15) 0 t_5.kids.length Cp.no] /\ TAt F' t_5 x_4 /\ NiceT t_5 /\ ∀ (F'_4:Fz),Up F' F'_4 -> q (AV.bool (shw t_5 == shw t_1)) F'_4) /\ (SprIs t_3 none -> ∀ (N':List NE) (F'_3:Fz),G19 N_1 F' N' F'_3 (grw N_1.length t_3) -> q (AV.bool false) F'_3)) /\ (SprIs t_2 none -> ∀ (F':Fz),Up F'_2 F' -> ∃ (t:Tr),∃ (N_1:List NE),∃ (i0:Nat),N.length = N_1.length /\ some (Row.gen 62 3 N.length fun (i:Nat) => neV (N.getD i dN)) = some (Row.gen 62 3 N_1.length fun (i:Nat) => neV (N_1.getD i dN)) /\ (↑i:Int) = (↑i0:Int) /\ NF F' N_1 /\ TrA N_1 t i0 /\ Fit19 t /\ (grw N_1.length t).le 90000 /\ (∀ (t':Tr),SprIs t (some t') -> ∀ (N':List NE) (i':Nat) (F'_3:Fz),G19 N_1 F' N' F'_3 (grw N_1.length t) -> TrA N' t' i' -> q (AV.bool false) F'_3) /\ (SprIs t none -> ∀ (N':List NE) (F'_3:Fz),G19 N_1 F' N' F'_3 (grw N_1.length t) -> q (AV.bool true) F'_3))) /\ ∀ (a c:Nat),parse s = PR.err a c -> ∀ (F':Fz),Up F'_1 F' -> ∃ (t:Tr),∃ (x:Nat),AV.agg [iI (0:Int),AV.str [],AV.nils] = AV.agg [iI (↑t.kind:Int),AV.str t.word,AV.sl true (x + 15) 0 t.kids.length Cp.no] /\ TAt F' t x /\ NiceT t /\ ∀ (F'_2:Fz),Up F' F'_2 -> ∃ (t_1:Tr),∃ (x:Nat),AV.agg [iI (0:Int),AV.str [],AV.nils] = AV.agg [iI (↑t_1.kind:Int),AV.str t_1.word,AV.sl true (x + 15) 0 t_1.kids.length Cp.no] /\ TAt F'_2 t_1 x /\ (Frm t_1 /\ (sz t_1).le 2000) /\ (∀ (t':Tr),SprIs t_1 (some t') -> ∀ (x':Nat) (F':Fz),Up F'_2 F' -> TAt F' t' x' -> ∃ (t_2:Tr),∃ (N_1:List NE),∃ (i0:Nat),N.length = N_1.length /\ some (Row.gen 62 3 N.length fun (i:Nat) => neV (N.getD i dN)) = some (Row.gen 62 3 N_1.length fun (i:Nat) => neV (N_1.getD i dN)) /\ (↑i:Int) = (↑i0:Int) /\ NF F' N_1 /\ TrA N_1 t_2 i0 /\ Fit19 t_2 /\ (grw N_1.length t_2).le 90000 /\ (∀ (t'_1:Tr),SprIs t_2 (some t'_1) -> ∀ (N':List NE) (i':Nat) (F'_3:Fz),G19 N_1 F' N' F'_3 (grw N_1.length t_2) -> TrA N' t'_1 i' -> ∃ (t_3:Tr),∃ (x:Nat),∃ (N:List NE),∃ (i0:Nat),AV.agg [iI (↑t'.kind:Int),AV.str t'.word,AV.sl true (x' + 15) 0 t'.kids.length Cp.no] = AV.agg [iI (↑t_3.kind:Int),AV.str t_3.word,AV.sl true (x + 15) 0 t_3.kids.length Cp.no] /\ N'.length = N.length /\ some (Row.gen 62 3 N'.length fun (i:Nat) => neV (N'.getD i dN)) = some (Row.gen 62 3 N.length fun (i:Nat) => neV (N.getD i dN)) /\ (↑i':Int) = (↑i0:Int) /\ TAt F'_3 t_3 x /\ NF F'_3 N /\ TrA N t_3 i0 /\ (size t_3).le 100000 /\ ∀ (F':Fz),Up F'_3 F' -> ∃ (t_4:Tr),∃ (x:Nat),AV.agg [iI (0:Int),AV.str [],AV.nils] = AV.agg [iI (↑t_4.kind:Int),AV.str t_4.word,AV.sl true (x + 15) 0 t_4.kids.length Cp.no] /\ TAt F' t_4 x /\ NiceT t_4 /\ ∀ (F'_4:Fz),Up F' F'_4 -> q (AV.bool (shw t_4 == shw t)) F'_4) /\ (SprIs t_2 none -> ∀ (N':List NE) (F'_3:Fz),G19 N_1 F' N' F'_3 (grw N_1.length t_2) -> q (AV.bool false) F'_3)) /\ (SprIs t_1 none -> ∀ (F':Fz),Up F'_2 F' -> ∃ (t:Tr),∃ (N_1:List NE),∃ (i0:Nat),N.length = N_1.length /\ some (Row.gen 62 3 N.length fun (i:Nat) => neV (N.getD i dN)) = some (Row.gen 62 3 N_1.length fun (i:Nat) => neV (N_1.getD i dN)) /\ (↑i:Int) = (↑i0:Int) /\ NF F' N_1 /\ TrA N_1 t i0 /\ Fit19 t /\ (grw N_1.length t).le 90000 /\ (∀ (t':Tr),SprIs t (some t') -> ∀ (N':List NE) (i':Nat) (F'_3:Fz),G19 N_1 F' N' F'_3 (grw N_1.length t) -> TrA N' t' i' -> q (AV.bool false) F'_3) /\ (SprIs t none -> ∀ (N':List NE) (F'_3:Fz),G19 N_1 F' N' F'_3 (grw N_1.length t) -> q (AV.bool true) F'_3))) /\ ∀ (a e:Nat),parse s = PR.err a e -> ∀ (F'_1:Fz),Up F' F'_1 -> bif (↑e:Int) != 0 then q (AV.bool true) F'_1 else (∀ (t:Tr),parse s = PR.ok t 0 -> ∀ (x:Nat) (F':Fz),Up F'_1 F' -> TAt F' t x -> ∃ (t_1:Tr),∃ (x_1:Nat),AV.agg [iI (↑t.kind:Int),AV.str t.word,AV.sl true (x + 15) 0 t.kids.length Cp.no] = AV.agg [iI (↑t_1.kind:Int),AV.str t_1.word,AV.sl true (x_1 + 15) 0 t_1.kids.length Cp.no] /\ TAt F' t_1 x_1 /\ NiceT t_1 /\ ∀ (F'_2:Fz),Up F' F'_2 -> ∃ (t_2:Tr),∃ (x_2:Nat),AV.agg [iI (↑t.kind:Int),AV.str t.word,AV.sl true (x + 15) 0 t.kids.length Cp.no] = AV.agg [iI (↑t_2.kind:Int),AV.str t_2.word,AV.sl true (x_2 + 15) 0 t_2.kids.length Cp.no] /\ TAt F'_2 t_2 x_2 /\ (Frm t_2 /\ (sz t_2).le 2000) /\ (∀ (t':Tr),SprIs t_2 (some t') -> ∀ (x':Nat) (F':Fz),Up F'_2 F' -> TAt F' t' x' -> False) /\ (SprIs t_2 none -> ∀ (F':Fz),Up F'_2 F' -> False)) /\ ∀ (a c:Nat),parse s = PR.err a c -> ∀ (F':Fz),Up F'_1 F' -> ∃ (t:Tr),∃ (x:Nat),AV.agg [iI (0:Int),AV.str [],AV.nils] = AV.agg [iI (↑t.kind:Int),AV.str t.word,AV.sl true (x + 15) 0 t.kids.length Cp.no] /\ TAt F' t x /\ NiceT t /\ ∀ (F'_2:Fz),Up F' F'_2 -> ∃ (t:Tr),∃ (x:Nat),AV.agg [iI (0:Int),AV.str [],AV.nils] = AV.agg [iI (↑t.kind:Int),AV.str t.word,AV.sl true (x + 15) 0 t.kids.length Cp.no] /\ TAt F'_2 t x /\ (Frm t /\ (sz t).le 2000) /\ (∀ (t':Tr),SprIs t (some t') -> ∀ (x':Nat) (F':Fz),Up F'_2 F' -> TAt F' t' x' -> False) /\ (SprIs t none -> ∀ (F':Fz),Up F'_2 F' -> False)):=by kernel_rfl
theorem spreads_ok (s:List UInt8):SafeCallX Try.prog RX 8 [.str s] [] Fz.empty (fun v _ _ => v = .bool true) (fun _ _ _ => False):=by
 refine SafeCallX.by mixed (env8_ok free6_RX8 _) (f:=8) (fi:=fi8) (by kernel_rfl) 1000 (vc8 RX s (fun v _ => v = .bool true) _) ?_
 intro F0 u0
 refine ⟨?_,?_⟩
 ·intro t ht N i F1 hA hN u1 hl
  have hl:N.length <= 2000:=hl
  have hf:=parse_frm ht
  have hfit:=parse_fits ht
  have hsm:=parse_small ht
  have hgw:grw N.length t = N.length + 30 * size t:=rfl
  have f19:Fit19 t:=⟨hf.1,by omega,by omega⟩
  have hg:grw N.length t <= 90000:=by omega
  refine ⟨?_,?_⟩
  ·intro t2 ht2 x F2 u2 hx
   rw [ht] at ht2
   cases ht2
   refine ⟨t,x,rfl,hx,parse_nice ht,fun F3 u3 => ⟨t,x,rfl,hx.le u3,⟨hf.1,show sz t <= 2000 by omega⟩,?_,?_⟩⟩
   ·intro t' hs x' F4 u4 hx'
    have hz':size t' <= 100000:=by have:=spr_le hs.is; omega
    refine ⟨t,N,i,rfl,rfl,rfl,hN.le ((u2.trans u3).trans u4),hA,f19,hg,?_,?_⟩
    ·intro t3 hs3 N' i' F5 g5 hA5
     have e:t3 = t':=Option.some.inj (hs3.is.symm.trans hs.is)
     subst e
     exact ⟨t3,x',N',i',rfl,rfl,rfl,rfl,hx'.le g5.up,g5.nf,hA5,hz',fun F6 u6 => ⟨t,x,rfl,hx.le (((u3.trans u4).trans g5.up).trans u6),parse_nice ht,fun F7 u7 => by simp⟩⟩
    ·intro hb N' F5 g5
     have:=hb.is.symm.trans hs.is
     cases this
   ·intro hs F4 u4
    refine ⟨t,N,i,rfl,rfl,rfl,hN.le ((u2.trans u3).trans u4),hA,f19,hg,?_,?_⟩
    ·intro t3 hs3 N' i' F5 g5 hA5
     have:=hs3.is.symm.trans hs.is
     cases this
    ·intro hb N' F5 g5
     rfl
  ·intro a c hc
   rw [ht] at hc; cases hc
 ·intro a e he F1 u1
  exact hcT (ne0 (parse_nz s a e he)) rfl
theorem spreads_walk (s:ByteArray) (hs:s.size <= 140737488351232) (w:World):Calls Try.prog 8 #[.string s] w fun e w' => e = .returned (.bool true) /\ Below w.heap.size w w' :=
 (spreads_ok s.data.toList).law #[.string s] w (by simp [DenL,Den])
#print axioms spreads_walk
end Go.Dc.Ke
end
