/- One row's contracts anywhere; regions that end in a panic. -/
import Derived.Test.YtfajmjhijanggaaDcXc
import Derived.Test.YtfajmjhijanggaaDcX
set_option linter.unusedVariables false
set_option linter.unusedSimpArgs false
section
namespace Go.Dc
structure RowG (r:Row):Prop where
 vw:∀ f n,RowV f n r r
 ren:∀ g,renRow g r = r
theorem View.setSame {h:Rows} {b:Nat} {r':Row} (hb:b < h.length) (hr:RowG r') (j:Rows) (hV:View some h h) (ho:∃ r,h.live b = some r):View some (h.set b (some r')) (h.set b (some r') ++ j) where
 lt:=fun c d hc hd => by have:=hV.lt c d (by simpa using hc) hd; simp; omega
 inj:=fun c c' d hc hc' => hV.inj c c' d (by simpa using hc) (by simpa using hc')
 row:=fun c q hc => by
  have hlt:c < h.length:=by have:=live_lt hc; simpa using this
  by_cases hcb:c = b
  ·subst hcb
   have hq:q = r':=by
    unfold Rows.live at hc
    rw [List.getElem?_set_self hlt] at hc
    simpa using hc.symm
   subst hq
   refine .inl ⟨c,q,rfl,?_,hr.vw _ _⟩
   rw [live_append (by simpa using hlt)]
   exact hc
  ·have hc':h.live c = some q:=by
    unfold Rows.live at hc ⊢
    rw [List.getElem?_set_ne (fun e => hcb e.symm)] at hc
    exact hc
   rcases hV.row c q hc' with ⟨d,q',h1,h2,h3⟩ | ⟨h1,h2⟩
   ·cases h1
    rw [hc'] at h2; cases h2
    refine .inl ⟨c,q,rfl,?_,by simpa using h3⟩
    rw [live_append (by simpa using hlt)]
    exact hc
   ·exact .inr ⟨h1,h2⟩
theorem SafeCallX.at1 {P:Program} {R:Nat -> RoRow} {fn:FuncId} {argsL args:List AV} {r:Row} {h:Rows} {b:Nat} {F:Fz} {Q HP:AV -> Row -> Fz -> Prop}
  (hb:h.live b = some r) (hr:RowG r) (hA:VwL (oneV b) 1 argsL args)
  (hs:SafeCallX P R fn argsL [some r] F (fun v h' F' => ∃ r' tl,h' = some r' :: tl /\ gnd v = true /\ RowG r' /\ Q v r' F') (fun v h' F' => ∃ r' tl,h' = some r' :: tl /\ gnd v = true /\ RowG r' /\ HP v r' F')) :
  SafeCallX P R fn args h F (fun v h' F' => ∃ r',h' = h.set b (some r') /\ Q v r' F') (fun v h' F' => ∃ r',h' = h.set b (some r') /\ HP v r' F'):=by
 have hlt:b < h.length:=live_lt hb
 have hb':h[b]? = some (some r):=by
  unfold Rows.live at hb
  rw [List.getElem?_eq_getElem hlt] at hb ⊢
  simpa using hb
 have hV:View (oneV b) [some r] h:=View.of (fun c o ho => by
  cases c with
  | zero => cases ho; exact ViewL.at_ (b:=b) rfl hb' (hr.vw _ _)
  | succ c => simp at ho) (fun c c' d hc hc' _ _ => by simp at hc hc'; omega)
 intro m w m0 h0 w0 F0 as hd hW hf hst hl
 have hV0:=hW.idView
 refine (SafeCallX.focus hV hA hs m w m h w F as hd hW hf (Step.refl _ _ _) (.refl _ _ _ _)).mono ?_
 have fin:∀ {c v v':AV} {cv:Value} {h':Rows} {m':Map} {F':Fz} {w':World} {r':Row} {tl:Rows},h' = some r' :: tl -> gnd v' = true -> RowG r' -> v = ren (ext (oneV b) [some r].length h.length) v' -> Den m' (merged (oneV b) [some r].length [some r].length h h').length v cv ->
   WR R m' (merged (oneV b) [some r].length [some r].length h h') w' -> FzOK F' m' (merged (oneV b) [some r].length [some r].length h h') w' -> Step m h w m' (merged (oneV b) [some r].length [some r].length h h') w' ->
   ∃ m2,WR R m2 (h.set b (some r')) w' /\ FzOK F' m2 (h.set b (some r')) w' /\ Step m h w m2 (h.set b (some r')) w' /\ Den m2 (h.set b (some r')).length v' cv:=by
  intro c v v' cv h' m' F' w' r' tl e1 hg hrg e2 hd' hW' hf' hS'
  subst e1
  have em:merged (oneV b) [some r].length [some r].length h (some r' :: tl) = h.set b (some r') ++ (Option.none :: tl.map (Option.map (renRow (g1 b h.length)))):=by
   have:=merged_one hlt (some r') tl
   rw [Option.map_some,hrg.ren] at this
   exact this
  rw [em] at hd' hW' hf' hS'
  have hV2:=View.setSame hlt hrg (Option.none :: tl.map (Option.map (renRow (g1 b h.length)))) hV0 ⟨r,hb⟩
  rw [gnd_ren _ _ hg] at e2
  subst e2
  exact ⟨_,hW'.view hV2,hf'.view hV2,hS'.forget hV2 (fun c hc => rfl) (by simp),(gnd_vw some _ v hg).den _ _ _ hd'⟩
 rintro e w' ⟨m',h',F',hW',hf',hl',hs',⟨c,v,rfl,⟨v',h2,⟨r',tl,e1,hg,hrg,hq⟩,e2,e3⟩,hd'⟩ | ⟨c,v,rfl,⟨v',h2,⟨r',tl,e1,hg,hrg,hq⟩,e2,e3⟩,hd'⟩⟩
 ·subst e3
  obtain ⟨m2,q1,q2,q3,q4⟩:=fin (c:=v) e1 hg hrg e2 hd' hW' hf' hs'
  exact ⟨m2,_,F',q1,q2,hl.trans hst hl',hst.trans q3,.inl ⟨c,v',rfl,⟨r',rfl,hq⟩,q4⟩⟩
 ·subst e3
  obtain ⟨m2,q1,q2,q3,q4⟩:=fin (c:=v) e1 hg hrg e2 hd' hW' hf' hs'
  exact ⟨m2,_,F',q1,q2,hl.trans hst hl',hst.trans q3,.inr ⟨c,v',rfl,⟨r',rfl,hq⟩,q4⟩⟩
theorem upon_mono {P:Program} {o:Oper} {a:Act} {K K':Act -> World -> Prop} {Q Q':Exit -> Act -> World -> Prop} (hk:∀ a w,K a w -> K' a w) (hp:∀ e a w,e ≠ .normal -> Q e a w -> Q' e a w):∀ r,o.upon P a K Q r -> o.upon P a K' Q' r:=by
 intro r h
 unfold Oper.upon at h ⊢
 split at h
 ·exact hk _ _ h
 ·exact hk _ _ h
 ·exact hk _ _ h
 ·refine Calls.mono h ?_
  intro e w' he
  cases e with
  | returned v => exact hk _ _ he
  | panicked ch => exact hp _ _ _ (by simp) he
  | outgrown => obtain ⟨a',w2,h2⟩:=he; exact ⟨a',w2,hp _ _ _ (by simp) h2⟩
 ·exact Rows.mono h fun v w' hh => hk _ _ hh
 ·exact hp _ _ _ (by simp) h
 ·exact h.elim
theorem wpList_append {P:Program} {ops:Array Oper} {Q:Exit -> Act -> World -> Prop} {l2:List Oper}:∀ (l1:List Oper) (a:Act) (w:World),wpList P ops (fun e a w => match e with | .normal => wpList P ops Q l2 a w | e => Q e a w) l1 a w -> wpList P ops Q (l1 ++ l2) a w
 | [],a,w,h => h
 | o :: l1,a,w,h => by
  simp only [List.cons_append]
  unfold wpList at h ⊢
  split
  ·rename_i hw
   rw [if_pos hw] at h
   rcases h with h | ⟨h1,a',w',h2⟩
   ·refine .inl (upon_mono (fun a w h => wpList_append l1 a w h) ?_ _ h)
    intro e a w hne hq
    cases e with
    | normal => exact absurd rfl hne
    | _ => exact hq
   ·exact .inr ⟨h1,a',w',h2⟩
  ·rename_i hw
   rw [if_neg hw] at h
   exact wpList_append l1 _ _ h
theorem SafeX.panicEnd {P:Program} {E:EnvX} {HP:AV -> Rows -> Fz -> Prop} {ds:List Deferred} (hT:TabOK P E.T) {id:Nat} {ops:Array Oper} {pre:List Oper} {o:Oper} {x:Operand} (ho:ops.toList = pre ++ [o]) (hop:o.op = .panic x) (hog:o.guard = none)
  {st:St} {F:Fz} {Q:Exit -> St -> Fz -> Prop}
  (hk:runOpsB ansX E (fun _ _ _ _ _ => False) ops.toList pre st (fun st' F' => HP (st'.ev x) st'.rows F' /\ ∃ t y,st'.ev x = .ifc t y) F):SafeX P E.R ds (.region id ops false) st F Q HP:=by
 intro m a w m0 h0 w0 F0 hr hf hs hl
 refine wp_region_list ?_
 rw [ho]
 refine wpList_append pre a w ?_
 refine runOps_okX (HP:=HP) ansX_holds hT (call:=fun _ _ _ _ _ => False) (fun f args h k F hh => hh.elim) ops pre st _ F hk hr hf hs hl _ ?_ ?_
 ·intro a' c v m' h' w' F' hd h1 h2 h3 h4 h5 h6
  exact ⟨m',h',v,c,F',rfl,h1,h2,h3,h4,h5,h6,hd⟩
 ·rintro F' m' st' a' w' ⟨hh,t,y,hy⟩ hr' hf' hs' hl'
  unfold wpList
  have hw:Region.wanted o (yielded ops a'.tmps) = true:=by simp [Region.wanted,hog]
  rw [if_pos hw]
  refine .inl ?_
  unfold Oper.wp
  have hev:=hr'.ev x
  rw [hy] at hev
  have hev2:=hev
  simp only [Den] at hev
  obtain ⟨u,hu,hdu⟩:=hev
  have hrun:(execOp a'.eval o).run P w' = .halt (.panic (a'.eval x)) w':=by
   obtain ⟨dst,op,type,pos,after,guard⟩:=o
   simp only at hop
   subst hop
   have h9:(Instr.panic (a'.eval x)).run P w' = .halt (.panic (a'.eval x)) w':=by rw [hu]; rfl
   simp only [execOp,Sem.run_bind,h9,Result.andThen]
  rw [hrun]
  exact ⟨m',st'.rows,st'.ev x,a'.eval x,F',rfl,hh,by rw [hy]; exact hev2,hr'.wr,hf',hs',hl',hr'.defers⟩
end Go.Dc
end
section
namespace Go.Dc
end Go.Dc
end
section
namespace Go.Dc
structure Others (W W':World):Prop where
 size:W.heap.size <= W'.heap.size
 same:∀ (k:Nat) c t fz,W.heap[k]? = some (Obj.cells c t fz) -> W'.heap[k]? = some (Obj.cells c t fz)
theorem WR.others {R:Nat -> RoRow} {m:Map} {h:Rows} {W W':World} (hW:WR R m h W) (ho:Others W W'):WR R m h W' where
 row:=fun b r hb => by
  obtain ⟨h1,h2,h3⟩:=hW.row b r hb
  refine ⟨h1,h2,?_⟩
  cases hv:(m.mu b).vir with
  | true => rw [hv] at h3; simpa using h3
  | false =>
   rw [hv] at h3
   simp only [Bool.false_eq_true,if_false] at h3 ⊢
   obtain ⟨c,fz,hc,rest⟩:=h3
   exact ⟨c,fz,ho.same _ _ _ _ hc,rest⟩
 apart:=hW.apart
 ro:=fun i => by
  obtain ⟨h1,h2,h3⟩:=hW.ro i
  refine ⟨h1,h2,?_⟩
  cases hv:(m.ro i).vir with
  | true => rw [hv] at h3; simpa using h3
  | false =>
   rw [hv] at h3
   simp only [Bool.false_eq_true,if_false] at h3 ⊢
   intro hn
   obtain ⟨c,fz,hc,rest⟩:=h3 hn
   exact ⟨c,fz,ho.same _ _ _ _ hc,rest⟩
 roApart:=hW.roApart
structure Turned (B:Nat) (W W':World):Prop where
 os:W'.os = W.os
 tape:W'.tape = W.tape
 output:W'.output = W.output
 others:Others W W'
 below:∀ k,k < B -> W'.heap[k]? = W.heap[k]?
theorem Step.turned {m0 m:Map} {h0 h:Rows} {w0 W W':World} (hs:Step m0 h0 w0 m h W) (ht:Turned w0.heap.size W W'):Step m0 h0 w0 m h W' where
 os:=ht.os.trans hs.os
 tape:=ht.tape.trans hs.tape
 output:=ht.output.trans hs.output
 size:=Nat.le_trans hs.size ht.others.size
 block:=fun k hk hn => (ht.below k hk).trans (hs.block k hk hn)
 len:=hs.len
 mu:=hs.mu
 ro:=hs.ro
 new:=hs.new
end Go.Dc
end
section
namespace Go.Dc
open Go.RowKit
theorem SafeCall.knownRead {P:Program} {R:Nat -> RoRow} {fn:FuncId} {args:List AV} {h:Rows} {v:AV}
  (hs:∀ m w (as:Array Value),WR R m h w -> DenL m h.length args as.toList -> Calls P fn as w fun e w' => ∃ c,e = .returned c /\ (∀ m n,Den m n v c) /\ Below w.heap.size w w') :
  SafeCall P R fn args h fun v' h' => v' = v /\ h' = h:=by
 intro m w m0 h0 w0 as has hW hS
 refine (hs m w as hW has).mono ?_
 rintro e w' ⟨c,rfl,hd,hb⟩
 have ho:Others w w':=⟨hb.size,fun k c t fz hk => by rw [hb.block k (Array.getElem?_eq_some_iff.1 hk).1]; exact hk⟩
 have ht:Turned w0.heap.size w w':=⟨hb.os,hb.tape,hb.output,ho,fun k hk => hb.block k (Nat.lt_of_lt_of_le hk hS.size)⟩
 exact ⟨c,v,m,h,rfl,⟨rfl,rfl⟩,hd _ _,hW.others ho,hS.turned ht⟩
theorem strs_cells {R:Nat -> RoRow} {m:Map} {h:Rows} {w:World} (hW:WR R m h w) {q:Nat} {ty:TypeId} {l:List (List UInt8)} {at_:Nat -> AV} (hq:h.live q = some (.gen ty 1 l.length at_)) (hat:∀ j,j < l.length -> at_ j = .str (l.getD j [])) {u:Value} {c:Cp} (hd:Den m h.length (.sl false q 0 l.length c) u) :
  (l = [] /\ ∃ a cap,u = .slice a 0 cap) \/ ∃ bk o cap,u = .slice (some ⟨bk,o,none⟩) l.length cap /\ l.length <= cap /\ bk < w.heap.size /\ ∀ j s,l[j]? = some s -> w.cell? ⟨bk,o + j,none⟩ = some (.string ⟨⟨s⟩⟩):=by
 simp only [Den,Map.loc,Bool.false_eq_true,if_false] at hd
 obtain ⟨_,hsl⟩:=hd
 cases l with
 | nil =>
  refine .inl ⟨rfl,?_⟩
  unfold SlDen at hsl
  split at hsl
  ·obtain ⟨_,ao,rfl,_⟩:=hsl; exact ⟨ao,0,rfl⟩
  ·obtain ⟨a,cap,rfl,_⟩:=hsl; exact ⟨_,cap,rfl⟩
 | cons s0 l =>
  refine .inr ?_
  unfold SlDen at hsl
  split at hsl
  ·obtain ⟨h0,_⟩:=hsl; simp at h0
  ·rename_i hv
   have hv:(m.mu q).vir = false:=by simpa using hv
   obtain ⟨a,cap,rfl,h1,_,_,h4⟩:=hsl
   obtain ⟨rfl,_⟩:=h4 (by simp at h1; omega)
   obtain ⟨e1,e2,h3⟩:=hW.row q _ hq
   rw [hv] at h3
   simp only [Bool.false_eq_true,if_false] at h3
   obtain ⟨cs,fz,hc,_,_,hel⟩:=h3
   have hesz:(m.mu q).esz = 1:=e1
   refine ⟨_,_,cap,rfl,h1,(Array.getElem?_eq_some_iff.1 hc).1,fun j s hj => ?_⟩
   have hjl:j < (s0 :: l).length:=(List.getElem?_eq_some_iff.1 hj).1
   have hg:(Row.gen ty 1 (s0 :: l).length at_).get? j = some (.str s):=by
    rw [Row.get_gen hjl,hat j hjl]
    simp only [List.getD,hj,Option.getD_some]
   obtain ⟨_,hcell⟩:=hel j _ hg
   obtain ⟨_,v,hv2,hden⟩:=hcell 0 (.str s) (by simp [AV.cells])
   simp only [Den] at hden
   subst hden
   rw [hesz] at hv2
   simp only [World.cell?,hc,hesz]
   simpa using hv2
theorem View.nil:View (fun _ => Option.none) [] []:=⟨fun c b hc => absurd hc (Nat.not_lt_zero _),fun c c' b hc => absurd hc (Nat.not_lt_zero _),fun c r hc => by simp [Rows.live] at hc⟩
theorem Fit.nil {T T':List AV} (h:VwL (fun _ => Option.none) 0 T T'):Fit 0 ⟨T,[]⟩ ⟨T',[]⟩:=⟨fun _ => Option.none,⟨View.nil,h⟩,fun c hc => absurd hc (Nat.not_lt_zero _),Nat.le_refl _⟩
theorem subs_loop (b:Code):subs b = subs (.loop b):=rfl
def strOf:AV -> List UInt8
 | .str s => s
 | _ => []
def strsOf (n:Nat) (at_:Nat -> AV):List (List UInt8):=(List.range n).map fun j => strOf (at_ j)
theorem strsOf_length (n:Nat) (at_:Nat -> AV):(strsOf n at_).length = n:=by simp [strsOf]
theorem strsOf_getD {n:Nat} {at_:Nat -> AV} {j:Nat} (hj:j < n):(strsOf n at_).getD j [] = strOf (at_ j):=by
 simp [strsOf,List.getD,hj]
theorem strsOf_row (l:List (List UInt8)):strsOf l.length (fun j => .str (l.getD j [])) = l:=by
 apply List.ext_getElem
 ·simp [strsOf]
 ·intro i h1 h2
  simp [strsOf,strOf,List.getD,h2]
def spr (l:List (Nat × AV)):Nat -> Nat -> List AV
 | _,0 => []
 | k,n + 1 => (match l.lookup k with | some a => a | none => .any) :: spr l (k + 1) n
theorem VwL.spr {f:Nat -> Option Nat} {N:Nat} {l:List (Nat × AV)}:∀ {n k:Nat} {T:List AV},T.length = n -> (∀ i a,l.lookup (k + i) = some a -> i < n -> Vw f N a (nthV T i)) -> VwL f N (Dc.spr l k n) T
 | 0,k,T,h,_ => by
  cases T with
  | nil => exact VwL.nil
  | cons x T => simp at h
 | n + 1,k,T,h,hp => by
  cases T with
  | nil => simp at h
  | cons x T =>
   refine VwL.cons ?_ (VwL.spr (by simpa using h) fun i a hl hi => ?_)
   ·cases hl:l.lookup k with
    | none => exact Vw.anyI
    | some a =>
     have:=hp 0 a (by simpa using hl) (by omega)
     simpa only [nthV_eq,List.getD_cons_zero] using this
   ·have:=hp (i + 1) a (by rw [show k + (i + 1) = k + 1 + i by omega]; exact hl) (by omega)
    simpa only [nthV_eq,List.getD_cons_succ] using this
def known (f:Nat -> Option Nat) (N:Nat) (T:List AV):List (Nat × AV) -> Prop
 | [] => True
 | (i,a) :: l => Vw f N a (nthV T i) /\ known f N T l
theorem known.at_ {f:Nat -> Option Nat} {N:Nat} {T:List AV}:∀ {l:List (Nat × AV)},known f N T l -> ∀ i a,l.lookup i = some a -> Vw f N a (nthV T i)
 | [],_,i,a,h => by simp at h
 | (j,b) :: l,hk,i,a,h => by
  rw [List.lookup_cons] at h
  by_cases e:i = j
  ·subst e
   simp at h
   exact h ▸ hk.1
  ·rw [show (i == j) = false by simpa using e] at h
   exact hk.2.at_ i a h
theorem VwL.ofKnown {f:Nat -> Option Nat} {N n:Nat} {l:List (Nat × AV)} {T:List AV} (h:T.length = n) (hk:known f N T l):VwL f N (Dc.spr l 0 n) T :=
 VwL.spr h fun i a hl _ => hk.at_ i a (by rw [Nat.zero_add] at hl; exact hl)
end Go.Dc
end
section
namespace Go.Dc
noncomputable def loopOf (fi:FI) (id:Nat):Code:=match blockOf fi id with | some (.loop b) => b | _ => .skip
theorem hcT {b:Bool} {X Y:Prop} (h:b = true) (hx:X):cond b X Y:=by subst h; exact hx
theorem hcF {b:Bool} {X Y:Prop} (h:b = false) (hy:Y):cond b X Y:=by subst h; exact hy
theorem hcB {b:Bool} {X Y:Prop} (h1:b = true -> X) (h2:b = false -> Y):cond b X Y:=by
 cases b
 ·exact h2 rfl
 ·exact h1 rfl
theorem wrapI64 (x:Int) (h0:-9223372036854775808 <= x) (h1:x <= 9223372036854775807):IntKind.i64.wrap x = x:=by
 have e:IntKind.i64.wrap x = if (decide (x % 18446744073709551616 ≥ 9223372036854775808)) = true then x % 18446744073709551616 - 18446744073709551616 else x % 18446744073709551616:=rfl
 rw [e]
 simp only [decide_eq_true_eq]
 split <;> omega
theorem wrapSucc (i:Nat) (h:i <= 4611686018427387904):IntKind.i64.wrap ((i:Int) + 1) = ((i + 1:Nat):Int):=by rw [wrapI64 _ (by omega) (by omega)]; omega
def mvR (c0 b0:Nat):Nat -> Option Nat:=fun c => bif Nat.beq c c0 then some b0 else some c
theorem mvR_lt {c0 b0 n:Nat} (hn:n <= c0) (c:Nat) (hc:c < n):mvR c0 b0 c = some c:=by
 unfold mvR
 rw [show Nat.beq c c0 = false by rw [Bool.eq_false_iff]; exact fun e => by have:=Nat.eq_of_beq_eq_true e; omega]
 rfl
theorem mvR_at (c0 b0 c:Nat):mvR c0 b0 c = some (if c = c0 then b0 else c):=by
 unfold mvR
 by_cases h:c = c0
 ·subst h; rw [Nat.beq_refl,if_pos rfl]; rfl
 ·rw [show Nat.beq c c0 = false by rw [Bool.eq_false_iff]; exact fun e => h (Nat.eq_of_beq_eq_true e),if_neg h]; rfl
theorem mvR_inj {c0 b0 N:Nat} (hb:N <= b0 + 1) (hN:N <= c0 + 1) (c c' b:Nat) (hc:c < N) (hc':c' < N) (h1:mvR c0 b0 c = some b) (h2:mvR c0 b0 c' = some b):c = c':=by
 rw [mvR_at] at h1 h2
 injection h1 with h1
 injection h2 with h2
 split at h1 <;> split at h2 <;> omega
def upR (n:Nat):Nat -> Option Nat:=fun c => bif Nat.blt c n then some c else none
theorem upR_lt {n c:Nat} (h:c < n):upR n c = some c:=by unfold upR; rw [show c.blt n = true by simpa [Nat.blt_eq] using h]; rfl
theorem upR_ge {n c:Nat} (h:n <= c):upR n c = none:=by unfold upR; rw [show c.blt n = false by rw [Bool.eq_false_iff]; simp [Nat.blt_eq]; omega]; rfl
theorem upR_inj {n N:Nat} (c c' b:Nat) (_:c < N) (_:c' < N) (h1:upR n c = some b) (h2:upR n c' = some b):c = c':=by
 rcases Nat.lt_or_ge c n with h | h
 ·rw [upR_lt h] at h1
  rcases Nat.lt_or_ge c' n with h' | h'
  ·rw [upR_lt h'] at h2; cases h1; cases h2; rfl
  ·rw [upR_ge h'] at h2; cases h2
 ·rw [upR_ge h] at h1; cases h1
structure RowsAre (h h0:Rows):Prop where
 h:h = h0
theorem capOK {m z:Nat} (h:(m + 1) * z <= 140737488355328):(decide (0 + m <= m) && (true && (true && decide ((m + 1) * z <= 140737488355328)))) = true:=by simp; exact h
theorem app_gen {n:Nat} {F G:Nat -> AV} {e:AV} (hF:∀ j,j < n -> F (0 + j) = G j) (he:e = G n) (j:Nat) (hj:j < n + 1):(bif j.blt n then F (0 + j) else (Src.lst [e]).at_ (j - n)) = G j:=by
 by_cases h:j < n
 ·rw [show j.blt n = true by simpa [Nat.blt_eq] using h]; exact hF j h
 ·have:j = n:=by omega
  subst this
  rw [show j.blt j = false by rw [Bool.eq_false_iff]; simp [Nat.blt_eq],Nat.sub_self,he.symm]
  rfl
end Go.Dc
end
section
namespace Go.Dc
theorem SafeCall.by {P:Program} (hm:P.follows .mixedOrders = true) {E:Env Prop} (hE:EnvOK P E id) {f:FuncId} {fi:FI} (hF:E.F f = some fi) {args:List AV} {h:Rows} {Q:AV -> Rows -> Prop} (n:Nat) {C:Prop} (he:Dc.vcd E n f fi args h Q = C) (hc:C):SafeCall P E.R f args h Q :=
 SafeCall.vcd hm hE hF n (he ▸ hc)
theorem Safe.by {P:Program} (hm:P.follows .mixedOrders = true) {E:Env Prop} (hE:EnvOK P E id) {f:FuncId} {fi:FI} (hF:E.F f = some fi) {i:Nat} {b c:Code} (hb:blockOf fi i = some b) (hcs:subs c = subs b) {st:St} {k:Exit -> St -> Prop} (n:Nat) {C:Prop} (he:Dc.rnd E n f c st k = C) (hc:C):Safe P E.R c st k :=
 Safe.rnd hm hE hF hb hcs n (he ▸ hc)
theorem SafeCallX.by {P:Program} {E:EnvX} {HP:AV -> Rows -> Fz -> Prop} (hm:P.follows .mixedOrders = true) (hE:OKX P E [] HP) {f:FuncId} {fi:FI} (hF:E.F f = some fi) {args:List AV} {h:Rows} {F:Fz} {Q:AV -> Rows -> Fz -> Prop} (n:Nat) {C:Prop} (he:Dc.vcx E n f fi args h Q F = C) (hc:C):SafeCallX P E.R f args h F Q HP :=
 SafeCallX.vcx hm hE hF n (he ▸ hc)
theorem SafeX.by {P:Program} {E:EnvX} {HP:AV -> Rows -> Fz -> Prop} (hm:P.follows .mixedOrders = true) (hE:OKX P E [] HP) {f:FuncId} {fi:FI} (hF:E.F f = some fi) {i:Nat} {b c:Code} (hb:blockOf fi i = some b) (hcs:subs c = subs b) {st:St} {F:Fz} {k:Exit -> St -> Fz -> Prop} (n:Nat) {C:Prop} (he:Dc.rnx E n f c st k F = C) (hc:C):SafeX P E.R [] c st F k HP :=
 SafeX.round hm hE hF hb hcs n (he ▸ hc)
theorem View.preX {L tl:Rows} (hL:∀ c r,L.live c = some r -> RowV some L.length r r):View some L (L ++ tl) where
 lt:=fun c b hc hb => by simp at hb; simp; omega
 inj:=fun c c' b _ _ h1 h2 => by simp at h1 h2; omega
 row:=fun c r hc => .inl ⟨c,r,rfl,by rw [live_append (live_lt hc)]; exact hc,hL c r hc⟩
theorem Fit.pre {L tl:Rows} {T T':List AV} (hL:∀ c r,L.live c = some r -> RowV some L.length r r) (hT:VwL some L.length T T'):Fit L.length ⟨T,L⟩ ⟨T',L ++ tl⟩ :=
 ⟨some,⟨View.preX hL,hT⟩,fun _ _ => rfl,Nat.le_refl _⟩
theorem live1 {r q:Row} {c:Nat} (h:Rows.live [some r] c = some q):q = r:=by
 match c with
 | 0 => simp [Rows.live] at h; exact h.symm
 | c + 1 => simp [Rows.live] at h
theorem Fit.row1 {r:Row} {T T':List AV} {tl:Rows} (hr:RowG r) (hT:VwL some 1 T T'):Fit 1 ⟨T,[some r]⟩ ⟨T',some r :: tl⟩ :=
 Fit.pre (L:=[some r]) (fun c q h => by rw [live1 h]; exact hr.vw _ _) hT
theorem RowG.lst1 {t z:Nat} {e:AV} (h1:ones e = true) (h2:gnd e = true) (h3:∀ g,Go.Dc.ren g e = e):RowG (.lst t z [e]):=⟨fun f n => .gnd h1 h2,fun g => by simp only [renRow,List.map_cons,List.map_nil,h3]⟩
theorem RowG.lst1' {t z:Nat} {e:AV} (h1:ones e = true) (h2:gnd e = true):RowG (.lst t z [e]):=.lst1 h1 h2 fun g => gnd_ren g e h2
theorem FitV.row1 {r:Row} {v:AV} {tl:Rows} (hr:RowG r) (hv:gnd v = true):FitV 1 v [some r] v (some r :: tl) :=
 ⟨some,View.preX (L:=[some r]) (fun c q h => by rw [live1 h]; exact hr.vw _ _),gnd_vw _ _ _ hv,fun _ _ => rfl,Nat.le_refl _⟩
theorem SafeCall.at1 {P:Program} {R:Nat -> RoRow} {fn:FuncId} {argsL args:List AV} {r:Row} {h:Rows} {b:Nat} {Q:AV -> Row -> Prop}
  (hb:h.live b = some r) (hr:RowG r) (hA:VwL (oneV b) 1 argsL args)
  (hs:SafeCall P R fn argsL [some r] fun v h' => ∃ r' tl,h' = some r' :: tl /\ gnd v = true /\ RowG r' /\ Q v r') :
  SafeCall P R fn args h fun v h' => ∃ r',h' = h.set b (some r') /\ Q v r':=by
 have hlt:b < h.length:=live_lt hb
 have hb':h[b]? = some (some r):=by
  unfold Rows.live at hb
  rw [List.getElem?_eq_getElem hlt] at hb ⊢
  simpa using hb
 have hV:View (oneV b) [some r] h:=View.of (fun c o ho => by
  cases c with
  | zero => cases ho; exact ViewL.at_ (b:=b) rfl hb' (hr.vw _ _)
  | succ c => simp at ho) (fun c c' d hc hc' _ _ => by simp at hc hc'; omega)
 intro m w m0 h0 w0 as hd hW hst
 have hV0:=hW.idView
 refine (SafeCall.focus hV hA hs m w m h w as hd hW (Step.refl _ _ _)).mono ?_
 rintro e w' ⟨c,v,m',h',rfl,⟨v',h2,⟨r',tl,rfl,hg,hrg,hq⟩,e2,rfl⟩,hd',hW',hs'⟩
 have em:merged (oneV b) [some r].length [some r].length h (some r' :: tl) = h.set b (some r') ++ (Option.none :: tl.map (Option.map (renRow (g1 b h.length)))):=by
  have:=merged_one hlt (some r') tl
  rw [Option.map_some,hrg.ren] at this
  exact this
 rw [em] at hd' hW' hs'
 have hV2:=View.setSame hlt hrg (Option.none :: tl.map (Option.map (renRow (g1 b h.length)))) hV0 ⟨r,hb⟩
 rw [gnd_ren _ _ hg] at e2
 subst e2
 exact ⟨c,v,_,_,rfl,⟨r',rfl,hq⟩,(gnd_vw some _ v hg).den _ _ _ hd',hW'.view hV2,hst.trans (hs'.forget hV2 (fun c hc => rfl) (by simp))⟩
theorem live_set_self {h:Rows} {b:Nat} {r:Row} (hb:h.live b = some r):h.set b (some r) = h:=by
 have hlt:b < h.length:=live_lt hb
 apply List.ext_getElem?
 intro i
 rw [List.getElem?_set]
 by_cases e:b = i
 ·subst e
  rw [if_pos rfl,if_pos hlt]
  unfold Rows.live at hb
  rw [List.getElem?_eq_getElem hlt] at hb ⊢
  simp at hb
  rw [hb]
 ·rw [if_neg e]
structure ViewW (f:Nat -> Option Nat) (hL h:Rows):Prop where
 inj:∀ c c' b r r',hL.live c = some r -> hL.live c' = some r' -> f c = some b -> f c' = some b -> c = c'
 row:∀ c r,hL.live c = some r -> (∃ b r',f c = some b /\ h.live b = some r' /\ RowV f hL.length r r') \/ (f c = none /\ r.len = 0)
theorem ViewW.real {m:Map} {f:Nat -> Option Nat} {hL h:Rows} (hV:ViewW f hL h) {c:Nat} {r:Row} (hc:hL.live c = some r) (hv:((m.view f hL.es).mu c).vir = false) :
  ∃ b r',f c = some b /\ h.live b = some r' /\ RowV f hL.length r r' /\ (m.view f hL.es).mu c = m.mu b:=by
 rcases hV.row c r hc with ⟨b,r',h1,h2,h3⟩ | ⟨h1,h2⟩
 ·exact ⟨b,r',h1,h2,h3,view_some h1⟩
 ·rw [view_none h1] at hv; simp at hv
theorem WR.viewW {R:Nat -> RoRow} {m:Map} {f:Nat -> Option Nat} {hL h:Rows} {w:World} (hW:WR R m h w) (hV:ViewW f hL h):WR R (m.view f hL.es) hL w where
 row:=fun c r hc => by
  rcases hV.row c r hc with ⟨b,r',h1,h2,h3⟩ | ⟨h1,h2⟩
  ·rw [view_some h1]; exact (hW.row _ _ h2).view h3
  ·rw [view_none h1]
   refine ⟨?_,by rw [h2]; exact Nat.zero_le _,?_⟩
   ·show hL.es c = r.esz
    unfold Rows.es
    rw [hc]
   ·rw [if_pos rfl]; exact ⟨h2,rfl⟩
 apart:=fun b b' r r' hb hb' hv hv' he => by
  obtain ⟨d,r1,h1,h2,_,e1⟩:=hV.real hb hv
  obtain ⟨d',r2,h1',h2',_,e2⟩:=hV.real hb' hv'
  rw [e1] at hv he; rw [e2] at hv' he
  have:=hW.apart _ _ _ _ h2 h2' hv hv' he
  subst this
  exact hV.inj b b' _ _ _ hb hb' h1 h1'
 ro:=fun i => (hW.ro i).same fun _ _ _ _ _ hd => Den.ground (m:=m) (m':=m.view f hL.es) rfl hd
 roApart:=fun i b r hb hv hr hn => by
  obtain ⟨d,r1,h1,h2,_,e1⟩:=hV.real hb hv
  rw [e1] at hv ⊢
  exact hW.roApart i _ _ h2 hv hr hn
theorem ToX.fitW {R:Nat -> RoRow} {ds:List Deferred} {nk:Nat} {st stE:St} {F:Fz} {S:St -> Fz -> Prop} (f:Nat -> Option Nat) (hV:ViewW f stE.rows st.rows) (hT:VwL f stE.rows.length stE.tmps st.tmps) (hf:∀ c,c < nk -> f c = some c) (hl:nk <= stE.rows.length)
  (h:ToX R ds nk stE F S):ToX R ds nk st F S:=by
 intro m a w m0 h0 w0 F0 hn hr hF hs hl0
 refine h (m.view f stE.rows.es) a w m0 h0 w0 F0 hn ⟨hr.size.trans hT.length.symm,?_,hr.defers,hr.wr.viewW hV⟩ ⟨hF.blk,?_,hF.ro⟩ ⟨hs.os,hs.tape,hs.output,hs.size,hs.block,Nat.le_trans hn hl,?_,hs.ro,?_⟩ hl0
 ·intro i x hx
  obtain ⟨y,hy,hxy⟩:=hT.get hx
  obtain ⟨c,hc,hd⟩:=hr.tmps i y hy
  exact ⟨c,hc,hxy.den _ _ _ hd⟩
 ·intro c r hc hv
  obtain ⟨b,r',h1,h2,h3,h4⟩:=hV.real hc hv
  rw [h4] at hv ⊢
  exact hF.apart b r' h2 hv
 ·intro b hb
  rw [view_some (hf b (Nat.lt_of_lt_of_le hb hn)),hs.mu b hb]
 ·intro b r hb hv
  obtain ⟨d,r1,h1,h2,_,e1⟩:=hV.real hb hv
  rw [e1] at hv ⊢
  exact hs.new _ _ h2 hv
def dupR (b n:Nat):Nat -> Option Nat:=fun c => bif Nat.beq c n then some b else some c
end Go.Dc
end
