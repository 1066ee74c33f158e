/- What is shown for code outside a round of a range over a function holds inside one too, where nothing is deferred. -/
import Derived.OrdersIn
import Derived.TacticsIn
import Derived.LoopNIn
import Derived.RangeFuncLeaves
import Derived.RangeFuncOne
import Derived.Test.YtlhplhncdljicaaDcYi
import Derived.RangeFuncRecord
set_option linter.unusedVariables false
set_option linter.unusedSimpArgs false
section
namespace Go.Dc
def Fd (rd:Option Nat):Fence:={ Fence.wide with round:=rd }
theorem callsR {rd:Option Nat} {n:Nat} {P:Program} {f:FuncId} {args:Array Value} {w:World} {R:Ending -> World -> Prop} (h:Calls P f args w R):CallsIn (Fd rd) n P f args w R:=(callsIn_wide (n:=n)).2 h
theorem rowsR {rd:Option Nat} {n:Nat} {P:Program} {row:String} {args:Array Value} {w:World} {R:Value -> World -> Prop} (h:Go.Rows P row args w R):RowsIn (Fd rd) n P row args w R:=by
 intro c cs hroom
 obtain ⟨v,w',r,s⟩:=h c cs
 exact ⟨v,w',r,stepsIn_wide.2 s⟩
def noDefer (o:Oper):Bool:=match o.op with | .defer _ => false | _ => true
theorem noDefer_ne {o:Oper} (h:noDefer o = true):∀ c,o.op ≠ .defer c:=by
 intro c e
 unfold noDefer at h
 rw [e] at h
 simp at h
variable {rd:Option Nat} {n:Nat} {P:Program} {ops:Array Oper} {Q:Exit -> Act -> World -> Prop}
def clr (a:Act):Act:={ a with defers:=[] }
theorem clr_put (a:Act) (d:Option Tmp) (v:Value):clr (a.put d v) = (clr a).put d v:=by cases d <;> rfl
theorem put_defers (a:Act) (d:Option Tmp) (v:Value):(a.put d v).defers = a.defers:=by cases d <;> rfl
def KD (ds:List Deferred) (K:Act -> World -> Prop) (a:Act) (w:World):Prop:=K (clr a) w /\ a.defers = ds
def QD (ds:List Deferred) (Q:Exit -> Act -> World -> Prop) (e:Exit) (a:Act) (w:World):Prop:=Q e (clr a) w /\ a.defers = ds
structure Tame (Q:Exit -> Act -> World -> Prop):Prop where
 out:¬ LetsOut Q
 panic:∀ ch a w,¬ Q (.panic ch) a w
variable {ds:List Deferred}
theorem uponD (hQ:Tame Q) {o:Oper} {a:Act} (ha:a.defers = ds) {K:Act -> World -> Prop} {r:Result Next} (hK:∀ a w,K a w -> a.defers = []) (h:o.upon P (clr a) K Q r):o.uponIn (Fd rd) n P a (KD ds K) (QD ds Q) r:=by
 cases r with
 | ok x w =>
  cases x with
  | value v => exact ⟨by rw [clr_put]; exact h,by rw [put_defers]; exact ha⟩
  | skip => exact ⟨by rw [clr_put]; exact h,by rw [put_defers]; exact ha⟩
  | defer d =>
   have:=hK _ _ h
   rw [put_defers] at this
   simp at this
  | enter f args =>
   refine ⟨fun e => by simp [Fd,Fence.wide] at e,callsR (Calls.mono h ?_)⟩
   intro e w' he
   cases e with
   | returned v => exact ⟨by rw [clr_put]; exact he,by rw [put_defers]; exact ha⟩
   | panicked ch => exact absurd he (hQ.panic _ _ _)
   | outgrown => exact absurd he hQ.out
  | row row args =>
   refine ⟨fun e => by simp [Fd,Fence.wide] at e,rowsR (Go.Rows.mono h ?_)⟩
   intro v w' he
   exact ⟨by rw [clr_put]; exact he,by rw [put_defers]; exact ha⟩
  | _ => exact h.elim
 | halt x w =>
  cases x with
  | panic v => exact absurd h (hQ.panic _ _ _)
  | _ => exact h.elim
theorem upon_defers {o:Oper} {a:Act} {K:Act -> World -> Prop} {r:Result Next} (hQ:Tame Q) (hK:∀ a w,K a w -> a.defers = []) (h:o.upon P a K Q r):a.defers = []:=by
 cases r with
 | ok x w =>
  cases x with
  | value v => have:=hK _ _ h; rwa [put_defers] at this
  | skip => have:=hK _ _ h; rwa [put_defers] at this
  | defer d => have:=hK _ _ h; rw [put_defers] at this; simp at this
  | enter f args =>
   obtain ⟨e,w',fr,hR,_⟩:=h []
   cases e with
   | returned v => have:=hK _ _ hR; rwa [put_defers] at this
   | panicked ch => exact absurd hR (hQ.panic _ _ _)
   | outgrown => exact absurd hR hQ.out
  | row row args =>
   obtain ⟨v,w',hR,_⟩:=h default []
   have:=hK _ _ hR
   rwa [put_defers] at this
  | _ => exact h.elim
 | halt x w =>
  cases x with
  | panic v => exact absurd h (hQ.panic _ _ _)
  | _ => exact h.elim
theorem list_defers (hQ:Tame Q) (hQd:∀ a w,Q .normal a w -> a.defers = []):∀ (l:List Oper) (a:Act) (w:World),wpList P ops Q l a w -> a.defers = []
 | [],a,w,h => hQd a w h
 | o :: l,a,w,h => by
  unfold wpList at h
  split at h
  ·rcases h with h | h
   ·exact upon_defers hQ (list_defers hQ hQd l) h
   ·exact absurd h.2 hQ.out
  ·have:=list_defers hQ hQd l _ w h
   rwa [put_defers] at this
theorem any_defers {md:Region.Mode} (hQ:Tame Q) (hQd:∀ a w,Q .normal a w -> a.defers = []):∀ (fuel:Nat) (listed:Array Bool) (a:Act) (w:World),wpAny P md ops Q fuel listed a w -> a.defers = []
 | 0,listed,a,w,h => hQd a w h.2
 | fuel + 1,listed,a,w,h => by
  cases hr:Region.ready md ops listed with
  | nil => exact hQd a w (h.1 hr)
  | cons i is =>
   have h1:=h.2 i (by rw [hr]; simp)
   unfold wpOp at h1
   split at h1
   ·exact any_defers hQ hQd fuel _ a w h1
   ·split at h1
    ·rcases h1 with h1 | h1
     ·exact upon_defers hQ (any_defers hQ hQd fuel _) h1
     ·exact absurd h1.2 hQ.out
    ·have:=any_defers hQ hQd fuel _ _ w h1
     rwa [put_defers] at this
theorem operD (hQ:Tame Q) {o:Oper} {a:Act} {w:World} {K:Act -> World -> Prop} (hd:noDefer o = true) (ha:a.defers = ds) (hK:∀ a w,K a w -> a.defers = []) (h:o.wp P (clr a) w K Q):o.wpIn (Fd rd) n P a w (KD ds K) (QD ds Q):=by
 refine ⟨fun _ _ => trivial,?_⟩
 rw [Oper.semAt_eq _ _ _ (noDefer_ne hd)]
 exact uponD hQ ha hK h
theorem listD (hQ:Tame Q) (hQd:∀ a w,Q .normal a w -> a.defers = []):∀ (l:List Oper) (a:Act) (w:World),l.all noDefer = true -> a.defers = ds -> wpList P ops Q l (clr a) w -> wpListIn (Fd rd) n P ops (QD ds Q) l a w
 | [],a,w,_,ha,h => ⟨h,ha⟩
 | o :: l,a,w,hd,ha,h => by
  simp only [List.all_cons,Bool.and_eq_true] at hd
  unfold wpListIn
  unfold wpList at h
  split
  ·rename_i hw
   rw [if_pos (show Region.wanted o (yielded ops (clr a).tmps) = true from hw)] at h
   rcases h with h | h
   ·exact Oper.wpIn_mono (fun a w hk => listD hQ hQd l a w hd.2 hk.2 hk.1) (operD hQ hd.1 ha (list_defers hQ hQd l) h)
   ·exact absurd h.2 hQ.out
  ·rename_i hw
   rw [if_neg (show ¬ Region.wanted o (yielded ops (clr a).tmps) = true from hw)] at h
   refine ⟨fun _ _ => trivial,listD hQ hQd l _ w hd.2 (by rw [put_defers]; exact ha) ?_⟩
   rw [clr_put]
   exact h
theorem anyD {md:Region.Mode} (hQ:Tame Q) (hQd:∀ a w,Q .normal a w -> a.defers = []) (hd:ops.toList.all noDefer = true):∀ (fuel:Nat) (listed:Array Bool) (a:Act) (w:World),a.defers = ds -> wpAny P md ops Q fuel listed (clr a) w -> wpAnyIn (Fd rd) n P md ops (QD ds Q) fuel listed a w
 | 0,listed,a,w,ha,h => ⟨h.1,h.2,ha⟩
 | fuel + 1,listed,a,w,ha,h => by
  refine ⟨fun hr => ⟨h.1 hr,ha⟩,fun i hi => ?_⟩
  have h1:=h.2 i hi
  unfold wpOp at h1
  unfold wpOpIn
  cases ho:ops[i]? with
  | none => rw [ho] at h1; exact anyD hQ hQd hd fuel _ a w ha h1
  | some o =>
   rw [ho] at h1
   simp only [] at h1 ⊢
   have hdo:noDefer o = true:=by
    have hm:o ∈ ops.toList:=by
     have:=Array.mem_of_getElem? ho
     simpa using this
    exact List.all_eq_true.1 hd o hm
   split
   ·rename_i hw
    rw [if_pos (show Region.wanted o (yielded ops (clr a).tmps) = true from hw)] at h1
    rcases h1 with h1 | h1
    ·exact Oper.wpIn_mono (fun a w hk => anyD hQ hQd hd fuel _ a w hk.2 hk.1) (operD hQ hdo ha (any_defers hQ hQd fuel _) h1)
    ·exact absurd h1.2 hQ.out
   ·rename_i hw
    rw [if_neg (show ¬ Region.wanted o (yielded ops (clr a).tmps) = true from hw)] at h1
    refine ⟨fun _ _ => trivial,anyD hQ hQd hd fuel _ _ w (by rw [put_defers]; exact ha) ?_⟩
    rw [clr_put]
    exact h1
end Go.Dc
end
section
namespace Go.Dc
def SafeR (rd:Option Nat) (ds:List Deferred) (P:Program) (R:Nat -> RoRow) (c:Code) (st:St) (Q:Exit -> St -> Prop):Prop :=
 ∀ m a w m0 h0 w0,a.defers = ds -> Rel R m st (clr a) w -> Step m0 h0 w0 m st.rows w -> c.wpIn (Fd rd) 0 P (QD ds (Post R Q m0 h0 w0)) a w
theorem post_tame (R:Nat -> RoRow) (Q:Exit -> St -> Prop) (m0:Map) (h0:Rows) (w0:World):Tame (Post R Q m0 h0 w0) where
 out:=by
  rintro ⟨a,w,m,st,h,_⟩
  exact h
 panic:=by
  rintro ch a w ⟨m,st,h,_⟩
  exact h
theorem post_defers {R:Nat -> RoRow} {Q:Exit -> St -> Prop} {m0:Map} {h0:Rows} {w0:World} (a:Act) (w:World) (h:Post R Q m0 h0 w0 .normal a w):a.defers = []:=by
 obtain ⟨m,st,_,_,hr,_⟩:=h
 exact hr.defers
def codeND:Code -> Bool
 | .seq a b => codeND a && codeND b
 | .cond _ a b => codeND a && codeND b
 | .block _ b => codeND b
 | .loop b => codeND b
 | .region _ ops _ => ops.toList.all noDefer
 | .rangeFunc _ _ a b => codeND a && codeND b
 | _ => true
theorem nd_seq {a b:Code} (h:codeND (.seq a b) = true):codeND a = true /\ codeND b = true:=by simpa [codeND] using h
theorem nd_cond {c:Operand} {a b:Code} (h:codeND (.cond c a b) = true):codeND a = true /\ codeND b = true:=by simpa [codeND] using h
section
variable {α:Type} {A:Ans α} {E:Env α} {hold:α -> Prop} {P:Program} {rd:Option Nat} {ds:List Deferred}
theorem drawAll_okR (hA:Holds A hold) (hT:TabOK P E.T) (hm:P.follows .mixedOrders = true):∀ call,CallOK P E.R hold call -> ∀ id ops st k,ops.toList.all noDefer = true -> hold (drawAll A E call ops st k) -> ∀ m a w m0 h0 w0,a.defers = ds -> Rel E.R m st (clr a) w -> Step m0 h0 w0 m st.rows w ->
  (Code.region id ops true).wpIn (Fd rd) 0 P (QD ds (Post E.R (fun e st' => e = .normal /\ hold (k st')) m0 h0 w0)) a w:=by
 intro call hcall id ops st k hnd h m a w m0 h0 w0 ha hr hs
 unfold drawAll at h
 cases hn:neat ops with
 | false => rw [hn] at h; exact (hA.bot h).elim
 | true =>
  rw [hn] at h
  simp only [cond_true] at h
  refine wpIn_region_any hm (anyD (post_tame _ _ _ _ _) post_defers hnd _ _ _ _ ha ?_)
  refine drawGo_ok (m0:=m0) (h0:=h0) (w0:=w0) (Q:=Post E.R (fun e st' => e = .normal /\ hold (k st')) m0 h0 w0) hA hT hcall hn ?_ _ _ _ _ h _ _ m _ _ ?_ ?_
  ·intro m' st' a' w' hk hr' hs'
   exact ⟨m',st',trivial,⟨rfl,hk⟩,hr',hs'⟩
  ·have hW:WR E.R m st.rows { w with drawn:=w.drawn + 1 }:=hr.wr.same rfl
   constructor
   ·intro i hi
    rw [Array.getD_eq_getD_getElem?] at hi
    rcases Nat.lt_or_ge i ops.size with h1 | h1
    ·rw [Array.getElem?_eq_getElem (by simpa using h1)] at hi; simp at hi
    ·rw [Array.getElem?_eq_none (by simpa using h1)] at hi; simp at hi
   ·simp
   ·intro i hi; simp at hi
   ·intro i o hi
    rw [Array.getD_eq_getD_getElem?] at hi
    rcases Nat.lt_or_ge i ops.size with h1 | h1
    ·rw [Array.getElem?_eq_getElem (by simpa using h1)] at hi; simp at hi
    ·rw [Array.getElem?_eq_none (by simpa using h1)] at hi; simp at hi
   ·trivial
   ·intro i hi; simp at hi
   ·exact ⟨st.tmps,rfl,fun _ _ => rfl,hr.size,hr.tmps,hr.defers,hW⟩
   ·exact ⟨hs.os,hs.tape,hs.output,hs.size,hs.block,hs.len,hs.mu,hs.ro,hs.new⟩
  ·unfold cnt
   refine Nat.le_trans List.countP_le_length ?_
   simp
theorem code_okR (hA : Holds A hold) (hE : EnvOK P E hold) (hm : P.follows .mixedOrders = true)
    (f : FuncId) (hL : ∀ id spec, E.loops f id = some spec → ∀ body, (id, body) ∈ E.subsOf f → ∀ st k, hold (spec st k) → SafeR rd ds P E.R (.block id body) st fun e st' => hold (k e st')) :
    ∀ (n : Nat) (c : Code) (st : St) (k : Exit → St → α), codeND c = true → (∀ p ∈ subs c, p ∈ E.subsOf f) → hold (code A E (drawAll A E) n f c st k) →
    SafeR rd ds P E.R c st fun e st' => hold (k e st') := by
  intro n
  induction n using Nat.strongRecOn with
  | ind n IH =>
   cases n with
   | zero => intro c st k _ _ h; exact (hA.bot h).elim
   | succ n =>
    have ih := IH n (Nat.lt_succ_self n)
    intro c st k hnd hsub h
    -- the calls
    have hcall : CallOK P E.R hold (fun g args rows k => match E.calls g with
      | some spec => spec args rows k
      | none => match E.F g with
        | none => A.bot
        | some fi => forceL (enterT args fi.ntmps) fun ts => code A E (drawAll A E) n g fi.body ⟨ts, rows⟩ fun e st => match e with
          | .normal | .ret => resK A E st fi.results fun v => k v st.rows
          | _ => A.bot) := by
      intro g args rows k hk
      simp only [] at hk
      cases hc : E.calls g with
      | some spec => rw [hc] at hk; exact hE.calls g spec hc args rows k hk
      | none =>
        rw [hc] at hk
        simp only [] at hk
        cases hf : E.F g with
        | none => rw [hf] at hk; exact (hA.bot hk).elim
        | some fi =>
          rw [hf] at hk
          have hk := forced hk
          have hF := hE.F g fi hf
          have hb := code_ok hA hE (drawAll_ok hA hE.T hm) n g fi.body _ _ (fun p hp => by unfold Env.subsOf; rw [hf]; exact hp) hk
          obtain ⟨fn, h1, h2, h3, h4, h5⟩ := hF.fn
          refine ⟨SafeCall.of_body hE.T hF (hb.mono ?_), fn, h1, by rw [h2]; rfl, h5⟩
          intro e st' he
          cases e <;> first
            | exact ⟨.inl rfl, resL_ok hA he⟩
            | exact ⟨.inr rfl, resL_ok hA he⟩
            | exact (hA.bot he).elim
    intro m a w m0 h0 w0 ha hr hs
    cases c with
    | skip => exact wpIn_skip ⟨⟨m, st, trivial, h, hr, hs⟩, ha⟩
    | label l => exact wpIn_label ⟨⟨m, st, trivial, h, hr, hs⟩, ha⟩
    | exit id => exact wpIn_exit ⟨⟨m, st, trivial, h, hr, hs⟩, ha⟩
    | ret => exact wpIn_ret ⟨⟨m, st, trivial, h, hr, hs⟩, ha⟩
    | seq x y =>
      have hx := ih x st _ (nd_seq hnd).1 (fun p hp => hsub p (by simp [subs, hp])) h
      refine wpIn_seq (wpIn_mono (hx m a w m0 h0 w0 ha hr hs) ?_)
      rintro e a' w' ⟨⟨m', st', hok, hq, hr', hs'⟩, ha'⟩
      cases e <;> first
        | exact hok.elim
        | exact ⟨⟨m', st', trivial, hq, hr', hs'⟩, ha'⟩
        | exact ih y st' k (nd_seq hnd).2 (fun p hp => hsub p (by simp [subs, hp])) hq m' a' w' m0 h0 w0 ha' hr' hs'
    | cond x y z =>
      have hev := hr.ev x
      simp only [code, setBoolK_eq] at h
      split at h
      · rename_i b he
        rw [he] at hev
        simp only [Den] at hev
        have hset : Rel E.R m (setBool st x b) (clr a) w ∧ (setBool st x b).rows = st.rows := by
          cases x with
          | tmp d => exact ⟨hr.known (by simpa [St.ev, nthV_eq] using he), rfl⟩
          | _ => exact ⟨hr, rfl⟩
        rcases hold_cond b _ _ h with ⟨rfl, hk⟩ | ⟨rfl, hk⟩
        · exact wpIn_cond_true hev (ih y _ k (nd_cond hnd).1 (fun p hp => hsub p (by simp [subs, hp])) hk m a w m0 h0 w0 ha hset.1 (by rw [hset.2]; exact hs))
        · exact wpIn_cond_false hev (ih z _ k (nd_cond hnd).2 (fun p hp => hsub p (by simp [subs, hp])) hk m a w m0 h0 w0 ha hset.1 (by rw [hset.2]; exact hs))
      · exact (hA.bot h).elim
    | block id body =>
      simp only [code] at h
      cases hl : E.loops f id with
      | some spec =>
        rw [hl] at h
        exact hL id spec hl body (hsub _ (by simp [subs])) st k h m a w m0 h0 w0 ha hr hs
      | none =>
        rw [hl] at h
        have hb := ih body st _ (by simpa [codeND] using hnd) (fun p hp => hsub p (by simp [subs, hp])) h
        refine wpIn_block (wpIn_mono (hb m a w m0 h0 w0 ha hr hs) ?_)
        rintro e a' w' ⟨⟨m', st', hok, hq, hr', hs'⟩, ha'⟩
        cases e with
        | normal => exact ⟨⟨m', st', trivial, hq, hr', hs'⟩, ha'⟩
        | ret => exact ⟨⟨m', st', trivial, hq, hr', hs'⟩, ha'⟩
        | exit id' =>
          simp only [Exit.inBlock]
          by_cases hid : id' = id
          · rw [if_pos hid]
            subst hid
            simp only [Nat.beq_refl, cond_true] at hq
            exact ⟨⟨m', st', trivial, hq, hr', hs'⟩, ha'⟩
          · rw [if_neg hid]
            have : Nat.beq id' id = false := by rw [Bool.eq_false_iff]; exact fun e => hid (Nat.eq_of_beq_eq_true e)
            simp only [this, cond_false] at hq
            exact ⟨⟨m', st', trivial, hq, hr', hs'⟩, ha'⟩
        | goto l => exact hok.elim
        | panic ch => exact hok.elim
        | outgrown => exact hok.elim
    | loop body =>
      -- rounds
      have key : ∀ (j : Nat), j ≤ n + 1 → ∀ (st : St), hold (code A E (drawAll A E) j f (.loop body) st k) → ∀ m a w, a.defers = ds → Rel E.R m st (clr a) w → Step m0 h0 w0 m st.rows w →
          Code.roundsIn (Fd rd) 0 P body (QD ds (Post E.R (fun e st' => hold (k e st')) m0 h0 w0)) j a w := by
        intro j
        induction j with
        | zero => intro _ st h m a w _ _ _; exact (hA.bot h).elim
        | succ j ihj =>
          intro hj st h m a w ha hr hs
          rw [roundsIn_succ]
          simp only [code] at h
          refine wpIn_mono (IH j (by omega) body st _ (by simpa [codeND] using hnd) (fun p hp => hsub p (by simpa [subs] using hp)) h m a w m0 h0 w0 ha hr hs) ?_
          rintro e a' w' ⟨⟨m', st', hok, hq, hr', hs'⟩, ha'⟩
          cases e with
          | normal => exact ihj (by omega) st' hq m' a' w' ha' hr' hs'
          | _ => first | exact hok.elim | exact ⟨⟨m', st', trivial, hq, hr', hs'⟩, ha'⟩
      exact wpIn_loop_rounds (n + 1) (key (n + 1) (Nat.le_refl _) st h m a w ha hr hs)
    | region id ops d =>
      cases d with
      | false =>
        refine wpIn_region_list (listD (post_tame _ _ _ _ _) post_defers _ _ _ (by simpa [codeND] using hnd) ha ?_)
        exact runOps_ok hA hE.T hcall ops ops.toList st _ h hr hs _ (fun m' st' a' w' hk hr' hs' => ⟨m', st', trivial, hk, hr', hs'⟩)
      | true =>
        refine wpIn_mono (drawAll_okR hA hE.T hm _ hcall id ops st _ (by simpa [codeND] using hnd) h m a w m0 h0 w0 ha hr hs) fun e a' w' hp => ⟨hp.1.mono ?_, hp.2⟩
        rintro e st' ⟨rfl, hk⟩
        exact hk
    | scope b => exact (hA.bot h).elim
    | goto l => exact (hA.bot h).elim
    | refuse why => exact (hA.bot h).elim
    | rangeFunc g ps x y => exact (hA.bot h).elim
end
end Go.Dc
end
section
namespace Go.Dc
structure Others (W W':World):Prop where
 size:W.heap.size <= W'.heap.size
 same:∀ (k:Nat) c t fz,W.heap[k]? = some (Obj.cells c t fz) -> W'.heap[k]? = some (Obj.cells c t fz)
theorem Others.trans {A B C:World} (h:Others A B) (k:Others B C):Others A C :=
 ⟨Nat.le_trans h.size k.size,fun i c t fz hi => k.same i c t fz (h.same i c t fz hi)⟩
theorem WR.others {R:Nat -> RoRow} {m:Map} {h:Rows} {W W':World} (hW:WR R m h W) (ho:Others W W'):WR R m h W' where
 row:=fun b r hb => by
  obtain ⟨h1,h2,h3⟩:=hW.row b r hb
  refine ⟨h1,h2,?_⟩
  cases hv:(m.mu b).vir with
  | true => rw [hv] at h3; simpa using h3
  | false =>
   rw [hv] at h3
   simp only [Bool.false_eq_true,if_false] at h3 ⊢
   obtain ⟨c,fz,hc,rest⟩:=h3
   exact ⟨c,fz,ho.same _ _ _ _ hc,rest⟩
 apart:=hW.apart
 ro:=fun i => by
  obtain ⟨h1,h2,h3⟩:=hW.ro i
  refine ⟨h1,h2,?_⟩
  cases hv:(m.ro i).vir with
  | true => rw [hv] at h3; simpa using h3
  | false =>
   rw [hv] at h3
   simp only [Bool.false_eq_true,if_false] at h3 ⊢
   intro hn
   obtain ⟨c,fz,hc,rest⟩:=h3 hn
   exact ⟨c,fz,ho.same _ _ _ _ hc,rest⟩
 roApart:=hW.roApart
structure Turned (B:Nat) (W W':World):Prop where
 os:W'.os = W.os
 tape:W'.tape = W.tape
 output:W'.output = W.output
 others:Others W W'
 below:∀ k,k < B -> W'.heap[k]? = W.heap[k]?
theorem Turned.trans {B:Nat} {X Y Z:World} (h:Turned B X Y) (k:Turned B Y Z):Turned B X Z :=
 ⟨k.os.trans h.os,k.tape.trans h.tape,k.output.trans h.output,h.others.trans k.others,fun i hi => (k.below i hi).trans (h.below i hi)⟩
theorem Turned.refl (B:Nat) (W:World):Turned B W W:=⟨rfl,rfl,rfl,⟨Nat.le_refl _,fun _ _ _ _ h => h⟩,fun _ _ => rfl⟩
theorem heap_alloc_old (w:World) (o:Obj) (k:Nat) (h:k < w.heap.size):(w.alloc o).heap[k]? = w.heap[k]?:=by
 show (w.heap.push o)[k]? = _
 rw [Array.getElem?_push,if_neg (by omega)]
theorem Turned.alloc {B:Nat} (W:World) (o:Obj) (hB:B <= W.heap.size):Turned B W (W.alloc o) :=
 ⟨rfl,rfl,rfl,⟨by simp,fun k c t fz hk => by
  rw [heap_alloc_old _ _ _ (Array.getElem?_eq_some_iff.1 hk).1]; exact hk⟩,fun k hk => heap_alloc_old _ _ _ (by omega)⟩
theorem Step.turned {m0 m:Map} {h0 h:Rows} {w0 W W':World} (hs:Step m0 h0 w0 m h W) (ht:Turned w0.heap.size W W'):Step m0 h0 w0 m h W' where
 os:=ht.os.trans hs.os
 tape:=ht.tape.trans hs.tape
 output:=ht.output.trans hs.output
 size:=Nat.le_trans hs.size ht.others.size
 block:=fun k hk hn => (ht.below k hk).trans (hs.block k hk hn)
 len:=hs.len
 mu:=hs.mu
 ro:=hs.ro
 new:=hs.new
end Go.Dc
end
section
namespace Go.Dc
theorem Turned.putObj {B:Nat} {W:World} {l:Nat} {o:Obj} (o':Obj) (hl:W.heap[l]? = some o) (ho:∀ c t fz,o ≠ Obj.cells c t fz) (hB:B <= l):Turned B W (W.putObj l o') :=
 ⟨rfl,rfl,rfl,⟨by simp,fun k c t fz hk => by
  have:k ≠ l:=by rintro rfl; rw [hl] at hk; cases hk; exact ho _ _ _ rfl
  rw [World.putObj_heap_other this]; exact hk⟩,fun k hk => World.putObj_heap_other (by omega)⟩
def Mk (B:Nat) (w:World) (d:Deferred):Prop:=∃ D,d = { target:=.collected D,args:=#[] } /\ B <= D /\ w.heap[D]? = some (.deferred (some []))
def Marks (B:Nat) (ds:List Deferred) (w:World):Prop:=ds.Nodup /\ ∀ d ∈ ds,Mk B w d
theorem WR.not_live {R:Nat -> RoRow} {m:Map} {h:Rows} {w:World} (hW:WR R m h w) {D:Nat} {o:Obj} (hD:w.heap[D]? = some o) (ho:∀ c t fz,o ≠ Obj.cells c t fz) :
  ∀ b r,h.live b = some r -> (m.mu b).vir = false -> (m.mu b).blk ≠ D:=by
 intro b r hb hv e
 obtain ⟨_,_,h3⟩:=hW.row b r hb
 rw [hv] at h3
 simp only [Bool.false_eq_true,if_false] at h3
 obtain ⟨c,fz,hc,_⟩:=h3
 rw [e,hD] at hc
 cases hc
 exact ho _ _ _ rfl
theorem Step.keeps {R:Nat -> RoRow} {m m':Map} {h h':Rows} {w w':World} (hs:Step m h w m' h' w') (hW:WR R m h w) {D:Nat} {o:Obj} (hD:w.heap[D]? = some o) (ho:∀ c t fz,o ≠ Obj.cells c t fz):w'.heap[D]? = some o:=by
 rw [hs.block D (Array.getElem?_eq_some_iff.1 hD).1 (hW.not_live hD ho)]
 exact hD
theorem Marks.step {R:Nat -> RoRow} {B:Nat} {ds:List Deferred} {m m':Map} {h h':Rows} {w w':World} (hk:Marks B ds w) (hW:WR R m h w) (hs:Step m h w m' h' w'):Marks B ds w' :=
 ⟨hk.1,fun d hd => by
  obtain ⟨D,e,hB,hD⟩:=hk.2 d hd
  exact ⟨D,e,hB,hs.keeps hW hD (fun _ _ _ h => by cases h)⟩⟩
def SafeM (P:Program) (R:Nat -> RoRow) (c:Code) (st:St) (Q:Exit -> St -> Prop):Prop :=
 ∀ m a w m0 h0 w0,Marks w0.heap.size a.defers w -> Rel R m st (clr a) w -> Step m0 h0 w0 m st.rows w ->
  c.wpIn (Fd none) 0 P (fun e a' w' => Post R Q m0 h0 w0 e (clr a') w' /\ Marks w0.heap.size a'.defers w') a w
theorem SafeM.of {P:Program} {R:Nat -> RoRow} {c:Code} {st:St} {Q:Exit -> St -> Prop} (h:∀ ds,SafeR none ds P R c st Q):SafeM P R c st Q:=by
 intro m a w m0 h0 w0 hk hr hs
 refine wpIn_mono (h a.defers m a w m st.rows w rfl hr (Step.refl _ _ _)) ?_
 rintro e a' w' ⟨⟨m',st',hok,hq,hr',hs'⟩,ha'⟩
 refine ⟨⟨m',st',hok,hq,hr',hs.trans hs'⟩,?_⟩
 rw [ha']
 exact hk.step hr.wr hs'
theorem SafeM.mono {P:Program} {R:Nat -> RoRow} {c:Code} {st:St} {Q Q':Exit -> St -> Prop} (h:SafeM P R c st Q) (hq:∀ e st,Q e st -> Q' e st):SafeM P R c st Q' :=
 fun m a w m0 h0 w0 hk hr hs => wpIn_mono (h m a w m0 h0 w0 hk hr hs) fun _ _ _ hp => ⟨hp.1.mono hq,hp.2⟩
theorem SafeM.seq {P:Program} {R:Nat -> RoRow} {x y:Code} {st:St} {Q:Exit -> St -> Prop} (h:SafeM P R x st fun e st' => match e with | .normal => SafeM P R y st' Q | e => Q e st'):SafeM P R (.seq x y) st Q:=by
 intro m a w m0 h0 w0 hk hr hs
 refine wpIn_seq (wpIn_mono (h m a w m0 h0 w0 hk hr hs) ?_)
 rintro e a' w' ⟨⟨m',st',hok,hq,hr',hs'⟩,hk'⟩
 cases e <;> first
  | exact hok.elim
  | exact ⟨⟨m',st',trivial,hq,hr',hs'⟩,hk'⟩
  | exact hq m' a' w' m0 h0 w0 hk' hr' hs'
theorem SafeM.block {P:Program} {R:Nat -> RoRow} {id:Nat} {b:Code} {st:St} {Q:Exit -> St -> Prop} (h:SafeM P R b st fun e st' => match e with | .exit id' => bif Nat.beq id' id then Q .normal st' else Q (.exit id') st' | e => Q e st'):SafeM P R (.block id b) st Q:=by
 intro m a w m0 h0 w0 hk hr hs
 refine wpIn_block (wpIn_mono (h m a w m0 h0 w0 hk hr hs) ?_)
 rintro e a' w' ⟨⟨m',st',hok,hq,hr',hs'⟩,ha'⟩
 cases e with
 | normal => exact ⟨⟨m',st',trivial,hq,hr',hs'⟩,ha'⟩
 | ret => exact ⟨⟨m',st',trivial,hq,hr',hs'⟩,ha'⟩
 | exit id' =>
  simp only [Exit.inBlock]
  by_cases hid:id' = id
  ·rw [if_pos hid]
   subst hid
   simp only [Nat.beq_refl,cond_true] at hq
   exact ⟨⟨m',st',trivial,hq,hr',hs'⟩,ha'⟩
  ·rw [if_neg hid]
   have:Nat.beq id' id = false:=by rw [Bool.eq_false_iff]; exact fun e => hid (Nat.eq_of_beq_eq_true e)
   simp only [this,cond_false] at hq
   exact ⟨⟨m',st',trivial,hq,hr',hs'⟩,ha'⟩
 | goto l => exact hok.elim
 | panic ch => exact hok.elim
 | outgrown => exact hok.elim
theorem leaves_marks {P:Program} {fn:Func} {tmps:Array Value} {Rr:Ending -> World -> Prop} {B:Nat}:∀ (ds:List Deferred) (w:World),Marks B ds w ->
  (∀ w',Turned B w w' -> ∃ v,(results fn tmps).run P w' = .ok v w' /\ Rr (.returned v) w') -> LeavesInM (Fd Option.none) 0 P fn tmps Rr ds .returning w
 | [],w,_,h => h w (Turned.refl _ _)
 | d :: ds,w,hk,h => by
  obtain ⟨D,rfl,hB,hD⟩:=hk.2 d (by simp)
  have ht:Turned B w (w.putObj D (.deferred none)):=Turned.putObj _ hD (fun _ _ _ h => by cases h) hB
  refine ⟨by simp,.inl ⟨D,_,rfl,run_takeDeferred hD,leaves_marks ds _ ⟨(List.nodup_cons.1 hk.1).2,fun d' hd' => ?_⟩ fun w' hw' => h w' (ht.trans hw')⟩⟩
  obtain ⟨D',rfl,hB',hD'⟩:=hk.2 d' (by simp [hd'])
  refine ⟨D',rfl,hB',?_⟩
  rw [World.putObj_heap_other]
  ·exact hD'
  ·rintro rfl
   exact (List.nodup_cons.1 hk.1).1 hd'
theorem SafeCall.of_bodyM {P:Program} {T:TypeId -> Option TI} (hT:TabOK P T) {R:Nat -> RoRow} {f:FuncId} {fi:FI} (hF:FnOK P f fi) {args:List AV} {h:Rows} {Q:AV -> Rows -> Prop}
  (hb:SafeM P R fi.body ⟨enterT args fi.ntmps,h⟩ fun e st => (e = .normal \/ e = .ret) /\ ∃ vs,ResOK T R st fi.results vs /\ Q (tupOf vs) st.rows):SafeCall P R f args h Q:=by
 obtain ⟨fn,hfn,hbody,hnt,hres,hname⟩:=hF.fn
 intro m w m0 h0 w0 as has hW hS
 refine (callsIn_wide (n:=0)).1 (callsIn_of_wp_marks (F:=Fd Option.none) hfn hbody trivial ?_ rfl)
 have hlen:=has.length
 simp only [Array.length_toList] at hlen
 have hrel:Rel R m ⟨enterT args fi.ntmps,h⟩ { tmps:=as ++ Array.replicate (fn.ntmps - as.size) undef,defers:=[] } w:=by
  refine ⟨by simp [enterT,hnt,hlen],?_,rfl,hW⟩
  intro i x hx
  simp only [enterT] at hx
  by_cases hi:i < args.length
  ·rw [List.getElem?_append_left hi] at hx
   obtain ⟨c,hc,hd⟩:=has.get hx
   have hi2:i < as.size:=by omega
   refine ⟨c,?_,hd⟩
   rw [Array.getElem?_append_left hi2]
   simpa using hc
  ·rw [List.getElem?_append_right (by omega)] at hx
   have hx2:=List.getElem?_eq_some_iff.1 hx
   obtain ⟨hlt,hxe⟩:=hx2
   simp at hlt hxe
   subst hxe
   refine ⟨undef,?_,by simp [Den,DenL,undef]⟩
   rw [Array.getElem?_append_right (by omega)]
   rw [Array.getElem?_replicate]
   rw [if_pos (by omega)]
 refine wpIn_mono (hb m _ w m0 h0 w0 ⟨by simp,by simp⟩ hrel hS) ?_
 rintro e a' w' ⟨⟨m',st',hok,⟨he,vs,hvs,hq⟩,hr',hs'⟩,hk'⟩
 have key:LeavesInM (Fd Option.none) 0 P fn a'.tmps (fun e w' => ∃ c v m' h',e = .returned c /\ Q v h' /\ Den m' h'.length v c /\ WR R m' h' w' /\ Step m0 h0 w0 m' h' w') a'.defers .returning w':=by
  refine leaves_marks _ _ hk' ?_
  intro w2 ht
  have hr2:Rel R m' st' (clr a') w2:=⟨hr'.size,hr'.tmps,hr'.defers,hr'.wr.others ht.others⟩
  have hs2:Step m0 h0 w0 m' st'.rows w2:=hs'.turned ht
  obtain ⟨c,hfin,hden⟩:∃ c,(results fn a'.tmps).run P w2 = .ok c w2 /\ Den m' st'.rows.length (tupOf vs) c:=by
   have hres':∃ F:ResultVar -> Sem Value,(∀ t,F (.tmp t) = pure (a'.tmps.getD t undef)) /\ (∀ x t,F (.cell x t) = do loadVar t (<- asAddr (a'.tmps.getD x undef))) /\
     results fn a'.tmps = (do let vs <- fn.results.mapM F; pure (if h:vs.size = 1 then vs[0] else .tuple vs)):=⟨_,fun _ => rfl,fun _ _ => rfl,rfl⟩
   obtain ⟨F,hF1,hF2,hres'⟩:=hres'
   rw [hres',hres]
   simp only [Sem.run_bind]
   rw [List.mapM_toArray]
   simp only [Sem.run_map]
   obtain ⟨cs,hcs,hd⟩:=res_run hT hr2 F hF1 hF2 hvs
   rw [hcs]
   simp only [Result.andThen_ok,Sem.run_pure]
   refine ⟨_,rfl,?_⟩
   cases vs with
   | nil =>
    simp only [DenL] at hd
    subst hd
    simp [tupOf,Den,DenL]
   | cons v vs =>
    simp only [DenL] at hd
    obtain ⟨u,us,rfl,h1,h2⟩:=hd
    cases vs with
    | nil =>
     simp only [DenL] at h2
     subst h2
     simpa [tupOf] using h1
    | cons v2 vs =>
     simp only [DenL] at h2
     obtain ⟨u2,us,rfl,h2,h3⟩:=h2
     simp only [tupOf,Den]
     refine ⟨(u :: u2 :: us).toArray,by simp,?_⟩
     simp only [DenL]
     exact ⟨u,_,rfl,h1,u2,us,rfl,h2,h3⟩
  exact ⟨c,hfin,c,_,m',st'.rows,rfl,hq,hden,hr2.wr,hs2⟩
 rcases he with rfl | rfl
 ·exact key
 ·exact key
def dead (ds:List Nat) (h:Rows):Rows:=ds.foldl (fun acc c => acc.set c none) h
def revive (ds:List Nat) (h h':Rows):Rows:=ds.foldl (fun acc c => acc.set c (h.getD c none)) h'
theorem dead_length:∀ (ds:List Nat) (h:Rows),(dead ds h).length = h.length
 | [],h => rfl
 | c :: ds,h => by
  show (dead ds (h.set c none)).length = _
  rw [dead_length ds]; simp
theorem revive_length (h:Rows):∀ (ds:List Nat) (h':Rows),(revive ds h h').length = h'.length
 | [],h' => rfl
 | c :: ds,h' => by
  show (revive ds h (h'.set c _)).length = _
  rw [revive_length h ds]; simp
theorem set_live (h:Rows) (c b:Nat) (o:Option Row):Rows.live (h.set c o) b = if c = b then (if c < h.length then o else none) else h.live b:=by
 unfold Rows.live
 by_cases e:c = b
 ·subst e
  by_cases hl:c < h.length
  ·simp [hl]
  ·simp [hl]
 ·simp [e]
theorem dead_live:∀ (ds:List Nat) (h:Rows) (b:Nat),(dead ds h).live b = if b ∈ ds then none else h.live b
 | [],h,b => by simp [dead]
 | c :: ds,h,b => by
  show (dead ds (h.set c none)).live b = _
  rw [dead_live ds,set_live]
  by_cases e:c = b
  ·subst e
   by_cases h1:c ∈ ds <;> by_cases h2:c < h.length <;> simp [h1,h2]
  ·have:b ≠ c:=fun x => e x.symm
   by_cases h1:b ∈ ds <;> simp [h1,e,this]
theorem revive_live (h:Rows):∀ (ds:List Nat) (h':Rows) (b:Nat),b < h'.length -> (revive ds h h').live b = if b ∈ ds then h.live b else h'.live b
 | [],h',b,_ => by simp [revive]
 | c :: ds,h',b,hb => by
  show (revive ds h (h'.set c (h.getD c none))).live b = _
  rw [revive_live h ds _ _ (by simpa using hb),set_live]
  by_cases e:c = b
  ·subst e
   have:h.getD c none = h.live c:=by
    unfold Rows.live
    rw [List.getD]
    cases h[c]? <;> rfl
   by_cases h1:c ∈ ds
   ·simp [h1]
   ·rw [if_neg h1,if_pos rfl,if_pos hb,this]
    simp
  ·have:b ≠ c:=fun x => e x.symm
   by_cases h1:b ∈ ds <;> simp [h1,e,this]
theorem WR.dead {R:Nat -> RoRow} {m:Map} {h:Rows} {w:World} (hW:WR R m h w) (ds:List Nat):WR R m (dead ds h) w:=by
 have sub:∀ b r,(Dc.dead ds h).live b = some r -> h.live b = some r:=by
  intro b r hb
  rw [dead_live] at hb
  split at hb
  ·cases hb
  ·exact hb
 exact ⟨fun b r hb => by rw [dead_length]; exact hW.row b r (sub b r hb),fun b b' r r' hb hb' => hW.apart b b' r r' (sub b r hb) (sub b' r' hb'),hW.ro,fun i b r hb => hW.roApart i b r (sub b r hb)⟩
theorem Step.aside {m m':Map} {h h':Rows} {w w':World} (hs:Step m h w m' h' w') {D:Nat} (hD:D < w.heap.size) (hn:∀ b r,h.live b = some r -> (m.mu b).vir = false -> (m.mu b).blk ≠ D) :
  ∀ b r,h'.live b = some r -> (m'.mu b).vir = false -> (m'.mu b).blk ≠ D:=by
 intro b r hb hv e
 rcases hs.new b r hb hv with h1 | ⟨c,r',hc,hcv,hce⟩
 ·omega
 ·exact hn c r' hc hcv (hce.trans e)
theorem revive_ok {R:Nat -> RoRow} {m m':Map} {h h':Rows} {w W:World} {ds:List Nat} (hW:WR R m h w) (hs:Step m (dead ds h) w m' h' W) (hW':WR R m' h' W) :
  WR R m' (revive ds h h') W /\ Step m h w m' (revive ds h h') W:=by
 have hlen:h.length <= h'.length:=by have:=hs.len; rwa [dead_length] at this
 have hmu:∀ b,b < h.length -> m'.mu b = m.mu b:=fun b hb => hs.mu b (by rw [dead_length]; exact hb)
 have dl:∀ b r,(dead ds h).live b = some r -> h.live b = some r /\ b ∉ ds:=by
  intro b r hb
  rw [dead_live] at hb
  split at hb
  ·cases hb
  ·rename_i hn; exact ⟨hb,hn⟩
 have cases2:∀ b r,(revive ds h h').live b = some r -> (b ∈ ds /\ h.live b = some r) \/ (b ∉ ds /\ h'.live b = some r):=by
  intro b r hb
  have hlt:=live_lt hb
  rw [revive_length] at hlt
  rw [revive_live _ _ _ _ hlt] at hb
  split at hb
  ·rename_i hm; exact .inl ⟨hm,hb⟩
  ·rename_i hm; exact .inr ⟨hm,hb⟩
 have blkEq:∀ b r,b ∈ ds -> h.live b = some r -> (m.mu b).vir = false -> (m.mu b).blk < w.heap.size /\ W.heap[(m.mu b).blk]? = w.heap[(m.mu b).blk]? /\ (∀ c r',h'.live c = some r' -> (m'.mu c).vir = false -> (m'.mu c).blk ≠ (m.mu b).blk):=by
  intro b r hm hb hv
  have hlt:(m.mu b).blk < w.heap.size:=by
   obtain ⟨_,_,h3⟩:=hW.row b r hb
   rw [hv] at h3
   simp only [Bool.false_eq_true,if_false] at h3
   obtain ⟨c,fz,hc,_⟩:=h3
   exact (Array.getElem?_eq_some_iff.1 hc).1
  have hne:∀ c r',(dead ds h).live c = some r' -> (m.mu c).vir = false -> (m.mu c).blk ≠ (m.mu b).blk:=by
   intro c r' hc hcv e
   obtain ⟨hc1,hc2⟩:=dl c r' hc
   exact hc2 (hW.apart c b r' r hc1 hb hcv hv e ▸ hm)
  exact ⟨hlt,hs.block _ hlt hne,hs.aside hlt hne⟩
 refine ⟨⟨?_,?_,?_,?_⟩,?_⟩
 ·intro b r hb
  rw [revive_length]
  rcases cases2 b r hb with ⟨hm,hl⟩ | ⟨hm,hl⟩
  ·rw [hmu b (live_lt hl)]
   exact (hW.row b r hl).mono hlen hmu hs.ro (fun hv => (blkEq b r hm hl hv).2.1)
  ·exact hW'.row b r hl
 ·intro b b' r r' hb hb' hv hv' e
  rcases cases2 b r hb with ⟨hm,hl⟩ | ⟨hm,hl⟩ <;> rcases cases2 b' r' hb' with ⟨hm',hl'⟩ | ⟨hm',hl'⟩
  ·rw [hmu b (live_lt hl)] at hv e
   rw [hmu b' (live_lt hl')] at hv' e
   exact hW.apart b b' r r' hl hl' hv hv' e
  ·rw [hmu b (live_lt hl)] at hv e
   exact absurd e.symm ((blkEq b r hm hl hv).2.2 b' r' hl' hv')
  ·rw [hmu b' (live_lt hl')] at hv' e
   exact absurd e ((blkEq b' r' hm' hl' hv').2.2 b r hl hv)
  ·exact hW'.apart b b' r r' hl hl' hv hv' e
 ·exact hW'.ro
 ·intro i b r hb hv hiv hn
  rcases cases2 b r hb with ⟨hm,hl⟩ | ⟨hm,hl⟩
  ·rw [hmu b (live_lt hl)] at hv ⊢
   rw [hs.ro] at hiv ⊢
   exact hW.roApart i b r hl hv hiv hn
  ·exact hW'.roApart i b r hl hv hiv hn
 ·refine ⟨hs.os,hs.tape,hs.output,hs.size,?_,by rw [revive_length]; exact hlen,hmu,hs.ro,?_⟩
  ·intro k hk hn
   refine hs.block k hk ?_
   intro b r hb hv
   exact hn b r (dl b r hb).1 hv
  ·intro b r hb hv
   rcases cases2 b r hb with ⟨hm,hl⟩ | ⟨hm,hl⟩
   ·rw [hmu b (live_lt hl)] at hv ⊢
    exact .inr ⟨b,r,hl,hv,rfl⟩
   ·rcases hs.new b r hl hv with h1 | ⟨c,r',hc,hcv,hce⟩
    ·exact .inl h1
    ·exact .inr ⟨c,r',(dl c r' hc).1,hcv,hce⟩
end Go.Dc
end
section
namespace Go.Dc
def ElemAt (W:World) (b o n:Nat) (v:Value):Prop :=
 (n = 1 /\ single v = true /\ W.cell? ⟨b,o,none⟩ = some v) \/
 ∃ vs:Array Value,v = .agg vs /\ vs.size = n /\ ∀ t x,vs[t]? = some x -> single x = true /\ W.cell? ⟨b,o + t,none⟩ = some x
def BackOK (P : Program) (gf esz : Nat) : Prop :=
  ∀ (l bb bo blk off len cap : Nat) (a : Option Addr) (vals : Nat → Value) (J : Nat → World → Prop) (Jx : World → Prop) (W : World),
    len ≤ cap → cap ≤ maxLen → (0 < len → a = some ⟨blk, off, none⟩) → W.cell? ⟨bb, bo, none⟩ = some (.slice a len cap) →
    (∀ j, j < len → ElemAt W blk (off + j * esz) esz (vals j)) →
    (∀ k W1 W2, J k W1 → W1.grownBy W2 none → J k W2) →
    (∀ k W1, k < len → J k W1 → W1.heap[bb]? = W.heap[bb]? → W1.heap[blk]? = W.heap[blk]? → YieldAt Fence.wide 0 P l #[.int .i64 ((len - 1 - k : Nat) : Int), vals (len - 1 - k)] W1 fun e W' =>
       (e = .returned (.bool true) ∧ J (k + 1) W' ∧ W'.heap[bb]? = W1.heap[bb]? ∧ W'.heap[blk]? = W1.heap[blk]?) ∨ (e = .returned (.bool false) ∧ Jx W')) →
    J 0 W →
    Calls P gf #[.func (.yield l) #[] #[], .pointer (some ⟨bb, bo, none⟩)] W fun e W' => (∃ v, e = .returned v) ∧ (J len W' ∨ Jx W')
def jumpOf:Exit -> Option Code
 | .ret => some .ret
 | .exit id => some (.exit id)
 | _ => none
theorem elem_of {m:Map} {n:Nat} {w:World} {blk shift esz i:Nat} {c:Array Value} {ty:TypeId} {fz:Nat × Nat} {e:AV} (hc:w.heap[blk]? = some (.cells c ty fz)) (hl:e.cells.length = esz)
  (hcell:∀ o a,e.cells[o]? = some a -> a.one = true /\ ∃ v,c[shift + (i * esz + o)]? = some v /\ Den m n a v) :
  ∃ v,ElemAt w blk (shift + i * esz) esz v /\ Den m n e v:=by
 have rd:∀ o v,c[shift + (i * esz + o)]? = some v -> w.cell? ⟨blk,shift + i * esz + o,none⟩ = some v:=by
  intro o v hv2
  simp only [World.cell?,hc]
  rw [Nat.add_assoc]
  simpa using hv2
 by_cases ha:∃ cs,e = .agg cs
 ·obtain ⟨cs,rfl⟩:=ha
  have hlen:cs.length = esz:=hl
  have get:∀ o,o < esz -> ∃ v,c[shift + (i * esz + o)]? = some v:=by
   intro o ho
   have:o < cs.length:=by omega
   obtain ⟨_,v,hv2,_⟩:=hcell o cs[o] (by simp [AV.cells,this])
   exact ⟨v,hv2⟩
  let vs:Array Value:=Array.ofFn (n:=esz) fun o => (get o.1 o.2).choose
  have hvs:∀ t x,vs[t]? = some x -> t < esz /\ c[shift + (i * esz + t)]? = some x:=by
   intro t x hx
   have ht:t < esz:=by
    have:=(Array.getElem?_eq_some_iff.1 hx).1
    simpa [vs] using this
   refine ⟨ht,?_⟩
   have:x = (get t ht).choose:=by
    have:=(Array.getElem?_eq_some_iff.1 hx).2
    simpa [vs] using this.symm
   rw [this]
   exact (get t ht).choose_spec
  refine ⟨.agg vs,.inr ⟨vs,rfl,by simp [vs],?_⟩,?_⟩
  ·intro t x hx
   obtain ⟨ht,hxc⟩:=hvs t x hx
   have:t < cs.length:=by omega
   obtain ⟨h1',v,hv2,hd2⟩:=hcell t cs[t] (by simp [AV.cells,this])
   rw [hxc] at hv2
   cases hv2
   exact ⟨hd2.oneCell h1',rd t x hxc⟩
  ·simp only [Den]
   refine ⟨vs,rfl,DenL.of (by simp [vs,hlen]) ?_⟩
   intro t a ha2
   have ht:t < cs.length:=(List.getElem?_eq_some_iff.1 ha2).1
   obtain ⟨_,v,hv2,hd2⟩:=hcell t a (by simpa [AV.cells] using ha2)
   have hlt:t < vs.size:=by simp [vs]; omega
   refine ⟨vs[t],by simp [hlt],?_⟩
   obtain ⟨_,hxc⟩:=hvs t vs[t] (by simp [hlt])
   rw [hxc] at hv2
   cases hv2
   exact hd2
 ·have hce:e.cells = [e]:=by
   cases e <;> simp [AV.cells] at ha ⊢
  have h1':esz = 1:=by rw [<- hl,hce]; rfl
  obtain ⟨hone,v,hv2,hd2⟩:=hcell 0 e (by rw [hce]; rfl)
  exact ⟨v,.inl ⟨h1',hd2.oneCell hone,by simpa using rd 0 v hv2⟩,hd2⟩
theorem RowOK.elem {m:Map} {n:Nat} {l:Loc} {r:Row} {w:World} (h:RowOK m n l r w) (hv:l.vir = false) {i:Nat} {e:AV} (he:r.get? i = some e) :
  ∃ v,ElemAt w l.blk (l.shift + i * l.esz) l.esz v /\ Den m n e v:=by
 obtain ⟨h1,h2,h3⟩:=h
 rw [hv] at h3
 simp only [Bool.false_eq_true,if_false] at h3
 obtain ⟨c,fz,hc,hs,hf,hd⟩:=h3
 obtain ⟨hl,hcell⟩:=hd i e he
 exact elem_of hc hl hcell
theorem RoOK.elem {m:Map} {l:Loc} {r:RoRow} {w:World} (h:RoOK m l r w) (hv:l.vir = false) {i:Nat} (hi:i < r.n) :
  ∃ v,ElemAt w l.blk (l.shift + i * l.esz) l.esz v /\ Den m 0 (r.at_ i) v:=by
 obtain ⟨h1,h2,h3⟩:=h
 rw [hv] at h3
 simp only [Bool.false_eq_true,if_false] at h3
 obtain ⟨c,fz,hc,hd⟩:=h3 (by omega)
 obtain ⟨hl,hcell⟩:=hd i hi
 exact elem_of hc hl hcell
theorem fold2 (p0 p1:Tmp) (t:Array Value) (x y:Value):(#[p0,p1].zip #[x,y]).foldl (fun tmps (t,a) => tmps.setIfInBounds t a) t = (t.setIfInBounds p0 x).setIfInBounds p1 y:=by
 rw [<- Array.foldl_toList,Array.toList_zip]
 rfl
def FitR (nk:Nat) (rowsE rows:Rows):Prop:=∃ f:Nat -> Option Nat,View f rowsE rows /\ (∀ c,c < nk -> f c = some c) /\ nk <= rowsE.length
theorem range_ok {P:Program} {R:Nat -> RoRow} {gf esz:Nat} (hB:BackOK P gf esz) (hent:∀ args w,(callFunc gf args).run P w = .ok (.enter gf args) w)
  {st:St} {g:Operand} {p0 p1:Tmp} {assign body:Code} {bx:Nat} (hg:st.ev g = .fn gf [] [.ptr false bx 0 0])
  {rb:Row} (hbx:st.rows.live bx = some rb) {sv:AV} (hsv0:rb.get? 0 = some sv)
  {ds:List Nat} {len:Nat} {els:Nat -> AV} (hbd:bx ∈ ds)
  (hsv:(sv = .nils /\ len = 0) \/ (∃ b i full r,sv = .sl false b i len full /\ st.rows.live b = some r /\ r.esz = esz /\ b ∈ ds /\ ∀ j,j < len -> r.get? (i + j) = some (els j)) \/
   (∃ b i full,sv = .sl true b i len full /\ (R b).esz = esz /\ i + len <= (R b).n /\ ∀ j,j < len -> els j = (R b).at_ (i + j)))
  {I:Nat -> Rows -> Prop} {X:Exit -> Rows -> Prop} (h0:I 0 (dead ds st.rows))
  (hround:∀ l k rows,k < len -> I k rows -> SafeR (some l) [] P R assign ⟨(st.tmps.set p0 (.int .i64 ((len - 1 - k:Nat):Int))).set p1 (els (len - 1 - k)),rows⟩ fun e st1 => e = .normal /\
   SafeR (some l) [] P R body st1 fun e st2 => ∃ rowsE,(rowsE = st2.rows \/ FitR st.rows.length rowsE st2.rows) /\ match e with | .normal => I (k + 1) rowsE | e => X e rowsE)
  {Q:Exit -> St -> Prop} (hdone:∀ rows,I len rows -> Q .normal ⟨st.tmps,revive ds st.rows rows⟩)
  (hexit:∀ e rows,X e rows -> Q e ⟨st.tmps,revive ds st.rows rows⟩) :
  SafeM P R (.rangeFunc g #[p0,p1] assign body) st Q:=by
 intro m a w m0 h0' w0 hk hr hs
 have hev:=hr.ev g
 rw [hg] at hev
 simp only [Den,DenL] at hev
 obtain ⟨us,lb,hfv,hus,hcap⟩:=hev
 obtain ⟨pv,ps',hlb,⟨hbxn,hbvir,hpv⟩,hnil⟩:=hcap
 subst hnil
 have hbvir:=hbvir
 simp only [Map.loc,Bool.false_eq_true,if_false] at hbvir hpv
 have hus':us = #[]:=by
  cases us with
  | mk l => simp at hus; rw [hus]
 have hlb':lb = #[pv]:=by
  cases lb with
  | mk l => simp at hlb; rw [hlb]
 subst hus' hlb' hpv
 have hW:=hr.wr
 obtain ⟨sval,hsel,hsden⟩:=(hW.row bx rb hbx).elem hbvir hsv0
 refine wpIn_rangeFunc ?_
 intro fn hfn
 obtain ⟨rec,hrec⟩:∃ rec:LoopState -> Option Code -> Loop,rec = fun st pe => { state:=st,pending:=pe,fn,tmps:=a.tmps,params:=#[p0,p1],assign,body,defers:=w.heap.size }:=⟨_,rfl⟩
 obtain ⟨W1,hW1⟩:∃ W1,(w.alloc (.deferred (some []))).alloc (.loop (rec .ready none)) = W1:=⟨_,rfl⟩
 have hL1:W1.heap[w.heap.size + 1]? = some (.loop (rec .ready none)):=by
  rw [<- hW1]; have:=World.alloc_heap_new (w.alloc (.deferred (some []))) (.loop (rec .ready none)); rwa [World.size_alloc] at this
 have hD1:W1.heap[w.heap.size]? = some (.deferred (some [])):=by
  rw [<- hW1,heap_alloc_old _ _ _ (by simp)]; exact World.alloc_heap_new w _
 have ht1:Turned w.heap.size w W1:=by
  rw [<- hW1]
  exact (Turned.alloc w _ (Nat.le_refl _)).trans (Turned.alloc _ _ (by simp))
 have hsz1:W1.heap.size = w.heap.size + 2:=by rw [<- hW1]; simp
 let Base:Nat -> Map -> Rows -> World -> Prop:=fun _ m' rows W => WR R m' rows W /\ Step m (dead ds st.rows) w m' rows W
 let J:Nat -> World -> Prop:=fun k W => ∃ m' rows,I k rows /\ WR R m' rows W /\ Step m (dead ds st.rows) w m' rows W /\ W.heap[w.heap.size + 1]? = some (.loop (rec .ready none)) /\ W.heap[w.heap.size]? = some (.deferred (some []))
 let Jx:World -> Prop:=fun W => ∃ e c m' rows,jumpOf e = some c /\ X e rows /\ WR R m' rows W /\ Step m (dead ds st.rows) w m' rows W /\ W.heap[w.heap.size + 1]? = some (.loop (rec .done (some c))) /\ W.heap[w.heap.size]? = some (.deferred (some []))
 have J0:J 0 W1:=⟨m,_,h0,(hW.dead ds).others ht1.others,(Step.refl m (dead ds st.rows) w).turned ht1,hL1,hD1⟩
 obtain ⟨blk,off,cap,ao,vals,hsval,hlc,hcm,hao,hel,hden,hblk⟩:∃ (blk off cap:Nat) (ao:Option Addr) (vals:Nat -> Value),sval = .slice ao len cap /\ len <= cap /\ cap <= maxLen /\ (0 < len -> ao = some ⟨blk,off,none⟩) /\
   (∀ j,j < len -> ElemAt w blk (off + j * esz) esz (vals j)) /\ (∀ j,j < len -> Den m st.rows.length (els j) (vals j)) /\
   (0 < len -> blk < w.heap.size /\ ∀ b r,(dead ds st.rows).live b = some r -> (m.mu b).vir = false -> (m.mu b).blk ≠ blk):=by
  rcases hsv with ⟨rfl,rfl⟩ | ⟨b,i,full,r,rfl,hb,hre,hbd',hels⟩ | ⟨b,i,full,rfl,hre,hin,hels⟩
  ·simp only [Den] at hsden
   exact ⟨0,0,0,none,fun _ => undef,hsden,Nat.le_refl _,Nat.zero_le _,by omega,by omega,by omega,by omega⟩
  ·simp only [Den,Map.loc,Bool.false_eq_true,if_false,SlDen] at hsden
   obtain ⟨_,hsden⟩:=hsden
   cases hv:(m.mu b).vir with
   | true =>
    rw [hv] at hsden
    simp only [if_true] at hsden
    obtain ⟨rfl,ao,rfl,_⟩:=hsden
    exact ⟨0,0,0,ao,fun _ => undef,rfl,Nat.le_refl _,Nat.zero_le _,by omega,by omega,by omega,by omega⟩
   | false =>
    rw [hv] at hsden
    simp only [Bool.false_eq_true,if_false] at hsden
    obtain ⟨a',cap,rfl,h1,h2,_,h4⟩:=hsden
    have hrow:=hW.row b r hb
    have hesz:(m.mu b).esz = esz:=hrow.1.trans hre
    have each:∀ j,j < len -> ∃ v,ElemAt w (m.mu b).blk ((m.mu b).shift + i * esz + j * esz) esz v /\ Den m st.rows.length (els j) v:=by
     intro j hj
     have:=hrow.elem hv (hels j hj)
     rwa [hesz,Nat.add_mul,<- Nat.add_assoc] at this
    refine ⟨(m.mu b).blk,(m.mu b).shift + i * esz,cap,some a',fun j => if hj:j < len then (each j hj).choose else undef,rfl,h1,h2,?_,?_,?_,?_⟩
    ·intro hl
     obtain ⟨e1,_⟩:=h4 (by omega)
     rw [e1,hesz]
    ·intro j hj
     simp only [hj,dif_pos]
     exact (each j hj).choose_spec.1
    ·intro j hj
     simp only [hj,dif_pos]
     exact (each j hj).choose_spec.2
    ·intro _
     refine ⟨?_,?_⟩
     ·obtain ⟨_,_,h3⟩:=hrow
      rw [hv] at h3
      simp only [Bool.false_eq_true,if_false] at h3
      obtain ⟨c,fz,hc,_⟩:=h3
      exact (Array.getElem?_eq_some_iff.1 hc).1
     ·intro c rc hc hcv e
      rw [dead_live] at hc
      split at hc
      ·cases hc
      ·rename_i hn
       have:=hW.apart c b rc r hc hb hcv hv e
       exact hn (this ▸ hbd')
  ·simp only [Den,Map.loc,if_true,SlDen] at hsden
   obtain ⟨_,hsden⟩:=hsden
   cases hv:(m.ro b).vir with
   | true =>
    rw [hv] at hsden
    simp only [if_true] at hsden
    obtain ⟨rfl,ao,rfl,_⟩:=hsden
    exact ⟨0,0,0,ao,fun _ => undef,rfl,Nat.le_refl _,Nat.zero_le _,by omega,by omega,by omega,by omega⟩
   | false =>
    rw [hv] at hsden
    simp only [Bool.false_eq_true,if_false] at hsden
    obtain ⟨a',cap,rfl,h1,h2,_,h4⟩:=hsden
    have hrow:=hW.ro b
    have hesz:(m.ro b).esz = esz:=hrow.1.trans hre
    have each:∀ j,j < len -> ∃ v,ElemAt w (m.ro b).blk ((m.ro b).shift + i * esz + j * esz) esz v /\ Den m st.rows.length (els j) v:=by
     intro j hj
     obtain ⟨v,hv1,hv2⟩:=hrow.elem hv (i:=i + j) (by omega)
     rw [hesz,Nat.add_mul,<- Nat.add_assoc] at hv1
     rw [hels j hj]
     exact ⟨v,hv1,hv2.mono (Nat.zero_le _) (fun _ _ => rfl) rfl⟩
    refine ⟨(m.ro b).blk,(m.ro b).shift + i * esz,cap,some a',fun j => if hj:j < len then (each j hj).choose else undef,rfl,h1,h2,?_,?_,?_,?_⟩
    ·intro hl
     obtain ⟨e1,_⟩:=h4 (by omega)
     rw [e1,hesz]
    ·intro j hj
     simp only [hj,dif_pos]
     exact (each j hj).choose_spec.1
    ·intro j hj
     simp only [hj,dif_pos]
     exact (each j hj).choose_spec.2
    ·intro hl
     refine ⟨?_,?_⟩
     ·obtain ⟨_,_,h3⟩:=hrow
      rw [hv] at h3
      simp only [Bool.false_eq_true,if_false] at h3
      obtain ⟨c,fz,hc,_⟩:=h3 (by omega)
      exact (Array.getElem?_eq_some_iff.1 hc).1
     ·intro c rc hc hcv e
      rw [dead_live] at hc
      split at hc
      ·cases hc
      ·exact hW.roApart b c rc hc hcv hv (by omega) e.symm
 subst hsval
 have hbb:(m.mu bx).blk < w.heap.size /\ ∀ b r,(dead ds st.rows).live b = some r -> (m.mu b).vir = false -> (m.mu b).blk ≠ (m.mu bx).blk:=by
  refine ⟨?_,?_⟩
  ·obtain ⟨_,_,h3⟩:=hW.row bx rb hbx
   rw [hbvir] at h3
   simp only [Bool.false_eq_true,if_false] at h3
   obtain ⟨c,fz,hc,_⟩:=h3
   exact (Array.getElem?_eq_some_iff.1 hc).1
  ·intro c rc hc hcv e
   rw [dead_live] at hc
   split at hc
   ·cases hc
   ·rename_i hn
    have:=hW.apart c bx rc rb hc hbx hcv hbvir e
    exact hn (this ▸ hbd)
 have hcell:W1.cell? ⟨(m.mu bx).blk,(m.mu bx).shift + (0 * (m.mu bx).esz + 0),none⟩ = some (.slice ao len cap):=by
  rw [World.cell?_of_block (w:=w) (ht1.below _ hbb.1)]
  rcases hsel with ⟨_,_,h⟩ | ⟨vs,h,_⟩
  ·simpa using h
  ·cases h
 refine ⟨w.heap.size + 1,[{ target:=.collected w.heap.size,args:=#[] }],W1,{ target:=.fn (.func gf) #[.pointer (some ⟨(m.mu bx).blk,(m.mu bx).shift + (0 * (m.mu bx).esz + 0),none⟩)],args:=#[.func (.yield (w.heap.size + 1)) #[] #[]] },W1,gf,
  #[.func (.yield (w.heap.size + 1)) #[] #[]] ++ #[.pointer (some ⟨(m.mu bx).blk,(m.mu bx).shift + (0 * (m.mu bx).esz + 0),none⟩)],W1,?_,?_,?_,?_,?_,?_⟩
 ·rw [<- hW1,hrec]; exact run_enterLoop_outer _ _ _ _ _
 ·have hfv':a.eval g = .func (.func gf) #[] #[.pointer (some ⟨(m.mu bx).blk,(m.mu bx).shift + (0 * (m.mu bx).esz + 0),none⟩)]:=hfv
  simp only [resolve,hfv']
  simp [go_sem]
 ·intro f' _; trivial
 ·simp [invoke,go_sem,hent]
 ·intro h; simp [Fd,Fence.wide] at h
 ·refine (callsR (rd:=none) (n:=0) (hB (w.heap.size + 1) _ _ blk off len cap ao vals J Jx W1 hlc hcm hao hcell ?_ ?_ ?_ J0)).mono ?_
  ·intro j hj
   have hb1:=(hblk (by omega)).1
   rcases hel j hj with ⟨h1,h2,h3⟩ | ⟨vs,h1,h2,h3⟩
   ·exact .inl ⟨h1,h2,by rw [World.cell?_of_block (w:=w) (ht1.below _ hb1)]; exact h3⟩
   ·exact .inr ⟨vs,h1,h2,fun t x hx => ⟨(h3 t x hx).1,by rw [World.cell?_of_block (w:=w) (ht1.below _ hb1)]; exact (h3 t x hx).2⟩⟩
  ·-- a new block minds nobody
   rintro k A B ⟨m',rows,hI,hWR,hS,hl,hd⟩ hg'
   have ht:Turned w.heap.size A B:=⟨hg'.os,hg'.tape,hg'.output,⟨hg'.size,fun i c t fz hi => by
    rw [hg'.block i (Array.getElem?_eq_some_iff.1 hi).1 (by simp)]; exact hi⟩,fun i hi => hg'.block i (Nat.lt_of_lt_of_le hi hS.size) (by simp)⟩
   exact ⟨m',rows,hI,hWR.others ht.others,hS.turned ht,by rw [hg'.block _ (Array.getElem?_eq_some_iff.1 hl).1 (by simp)]; exact hl,by rw [hg'.block _ (Array.getElem?_eq_some_iff.1 hd).1 (by simp)]; exact hd⟩
  ·-- one round
   rintro k W hlt ⟨m',rows,hI,hWR,hS,hl,hd⟩ _ _
   have hmu:∀ b,b < st.rows.length -> m'.mu b = m.mu b:=fun b hb => hS.mu b (by rw [dead_length]; exact hb)
   have hlen:st.rows.length <= rows.length:=by have:=hS.len; rwa [dead_length] at this
   have hlt1:w.heap.size + 1 < W.heap.size:=(Array.getElem?_eq_some_iff.1 hl).1
   have hy:=run_yield (P:=P) (args:=#[.int .i64 ((len - 1 - k:Nat):Int),vals (len - 1 - k)]) hl (by rw [hrec]; rfl)
   rw [hrec] at hy
   have hfold:∀ (t:Array Value) (x y:Value),(#[p0,p1].zip #[x,y]).foldl (fun tmps (t,a) => tmps.setIfInBounds t a) t = (t.setIfInBounds p0 x).setIfInBounds p1 y:=by
    exact fold2 p0 p1
   dsimp only at hy
   rw [hfold] at hy
   refine ⟨fn,_,assign,body,hy,roundIn_of_wpIn trivial ?_⟩
   have hrel:Rel R m' ⟨(st.tmps.set p0 (.int .i64 ((len - 1 - k:Nat):Int))).set p1 (els (len - 1 - k)),rows⟩ { tmps:=(a.tmps.setIfInBounds p0 (.int .i64 ((len - 1 - k:Nat):Int))).setIfInBounds p1 (vals (len - 1 - k)),defers:=[] } W:=by
    have r0:Rel R m' ⟨st.tmps,rows⟩ { tmps:=a.tmps,defers:=[] } W :=
     ⟨hr.size,fun i x hx => by obtain ⟨c,hc,hd'⟩:=hr.tmps i x hx; exact ⟨c,hc,hd'.mono hlen hmu hS.ro⟩,rfl,hWR⟩
    have r1:=r0.put (Step.refl _ _ _) hWR (some p0) (v:=.int .i64 ((len - 1 - k:Nat):Int)) (c:=.int .i64 ((len - 1 - k:Nat):Int)) (by simp [Den])
    exact r1.put (Step.refl _ _ _) hWR (some p1) ((hden (len - 1 - k) (by omega)).mono hlen hmu hS.ro)
   refine wpIn_mono ((hround (w.heap.size + 1) k rows hlt hI) m' _ W m' rows W rfl hrel (Step.refl _ _ _)) ?_
   rintro e a1 W2 ⟨⟨m1,st1,hok,⟨rfl,hbody⟩,hr1,hs1⟩,ha1⟩
   have hl2:W2.heap[w.heap.size + 1]? = some (.loop (rec .ready none)):=hs1.keeps hWR hl (fun _ _ _ h => by cases h)
   have hd2:W2.heap[w.heap.size]? = some (.deferred (some [])):=hs1.keeps hWR hd (fun _ _ _ h => by cases h)
   refine ⟨_,run_beginRound hl2 (by rw [hrec]),?_⟩
   have ht2:Turned w.heap.size W2 (W2.putObj (w.heap.size + 1) (.loop { rec .ready none with state:=.busy })):=Turned.putObj _ hl2 (fun _ _ _ h => by cases h) (by omega)
   have ht2':Turned W.heap.size W (W.putObj W.heap.size (.deferred none)) \/ True:=.inr trivial
   have hr2:Rel R m1 st1 (clr a1) (W2.putObj (w.heap.size + 1) (.loop { rec .ready none with state:=.busy })):=⟨hr1.size,hr1.tmps,hr1.defers,hr1.wr.others ht2.others⟩
   have hlt2:w.heap.size + 1 < W2.heap.size:=(Array.getElem?_eq_some_iff.1 hl2).1
   have hl3:(W2.putObj (w.heap.size + 1) (.loop { rec .ready none with state:=.busy })).heap[w.heap.size + 1]? = some (.loop { rec .ready none with state:=.busy }):=World.putObj_heap_same hlt2
   have hd3:(W2.putObj (w.heap.size + 1) (.loop { rec .ready none with state:=.busy })).heap[w.heap.size]? = some (.deferred (some [])):=(World.putObj_heap_other (by omega)).trans hd2
   refine wpIn_mono (hbody m1 a1 _ m1 st1.rows _ ha1 hr2 (Step.refl _ _ _)) ?_
   rintro e a3 W3 ⟨⟨m3,st3,hok3,⟨rowsE,hfitE,hq3⟩,hr3,hs3⟩,ha3⟩
   have hl4:W3.heap[w.heap.size + 1]? = some (.loop { rec .ready none with state:=.busy }):=hs3.keeps hr2.wr hl3 (fun _ _ _ h => by cases h)
   have hd4:W3.heap[w.heap.size]? = some (.deferred (some [])):=hs3.keeps hr2.wr hd3 (fun _ _ _ h => by cases h)
   have hlt4:w.heap.size + 1 < W3.heap.size:=(Array.getElem?_eq_some_iff.1 hl4).1
   have s2:Step m (dead ds st.rows) w m1 st1.rows W2:=hS.trans hs1
   have s2':Step m (dead ds st.rows) w m1 st1.rows (W2.putObj (w.heap.size + 1) (.loop { rec .ready none with state:=.busy })):=s2.turned ht2
   have s3:Step m (dead ds st.rows) w m3 st3.rows W3:=s2'.trans hs3
   obtain ⟨mE,hwE,hsE⟩:∃ mE,WR R mE rowsE W3 /\ Step m (dead ds st.rows) w mE rowsE W3:=by
    rcases hfitE with rfl | ⟨f,hV,hf,hn⟩
    ·exact ⟨m3,hr3.wr,s3⟩
    ·exact ⟨_,hr3.wr.view hV,s3.forget hV (by rw [dead_length]; exact hf) (by rw [dead_length]; exact hn)⟩
   have fin:∀ (jump:Option Code),(Instr.endRound (w.heap.size + 1) jump).run P W3 = .ok (.bool jump.isNone) (W3.putObj (w.heap.size + 1) (.loop (rec (if jump.isNone then .ready else .done) jump))) /\
     WR R mE rowsE (W3.putObj (w.heap.size + 1) (.loop (rec (if jump.isNone then .ready else .done) jump))) /\
     Step m (dead ds st.rows) w mE rowsE (W3.putObj (w.heap.size + 1) (.loop (rec (if jump.isNone then .ready else .done) jump))) /\
     (W3.putObj (w.heap.size + 1) (.loop (rec (if jump.isNone then .ready else .done) jump))).heap[w.heap.size + 1]? = some (.loop (rec (if jump.isNone then .ready else .done) jump)) /\
     (W3.putObj (w.heap.size + 1) (.loop (rec (if jump.isNone then .ready else .done) jump))).heap[w.heap.size]? = some (.deferred (some [])):=by
    intro jump
    have ht4:Turned w.heap.size W3 (W3.putObj (w.heap.size + 1) (.loop (rec (if jump.isNone then .ready else .done) jump))):=Turned.putObj _ hl4 (fun _ _ _ h => by cases h) (by omega)
    have:=run_endRound (P:=P) jump hl4
    rw [hrec] at this ⊢
    rw [hrec] at ht4
    exact ⟨this,hwE.others ht4.others,hsE.turned ht4,World.putObj_heap_same hlt4,(World.putObj_heap_other (by omega)).trans hd4⟩
   have keep:∀ (jump:Option Code) (D:Nat),D < w.heap.size -> (∀ b r,(dead ds st.rows).live b = some r -> (m.mu b).vir = false -> (m.mu b).blk ≠ D) ->
     (W3.putObj (w.heap.size + 1) (.loop (rec (if jump.isNone then .ready else .done) jump))).heap[D]? = W.heap[D]?:=by
    intro jump D hD hne
    rw [World.putObj_heap_other (by omega),hs3.block D (by rw [World.putObj_size]; omega) (s2.aside hD hne),World.putObj_heap_other (by omega)]
    exact hs1.block D (by omega) (hS.aside hD hne)
   cases e with
   | normal =>
    obtain ⟨hrun,hwr,hst,hl5,hd5⟩:=fin none
    exact ⟨_,_,hrun,.inl ⟨rfl,⟨mE,rowsE,hq3,hwr,hst,hl5,hd5⟩,keep none _ hbb.1 hbb.2,keep none _ (hblk (by omega)).1 (hblk (by omega)).2⟩⟩
   | ret =>
    obtain ⟨hrun,hwr,hst,hl5,hd5⟩:=fin (some .ret)
    exact ⟨_,_,hrun,.inr ⟨rfl,.ret,.ret,mE,rowsE,rfl,hq3,hwr,hst,hl5,hd5⟩⟩
   | exit id =>
    obtain ⟨hrun,hwr,hst,hl5,hd5⟩:=fin (some (.exit id))
    exact ⟨_,_,hrun,.inr ⟨rfl,.exit id,.exit id,mE,rowsE,rfl,hq3,hwr,hst,hl5,hd5⟩⟩
   | goto t => exact hok3.elim
   | panic ch => exact hok3.elim
   | outgrown => exact hok3.elim
  ·-- behind
   have marks:∀ W':World,W'.heap[w.heap.size]? = some (.deferred (some [])) -> (∀ (D:Nat) (o:Obj),w.heap[D]? = some o -> (∀ c t fz,o ≠ Obj.cells c t fz) -> W'.heap[D]? = some o) -> Marks w0.heap.size ({ target:=.collected w.heap.size,args:=#[] } :: a.defers) W':=by
    intro W' hd hold
    refine ⟨List.nodup_cons.2 ⟨?_,hk.1⟩,?_⟩
    ·intro hm
     obtain ⟨D,e,_,hD⟩:=hk.2 _ hm
     have:w.heap.size = D:=by simpa using e
     subst this
     have:=(Array.getElem?_eq_some_iff.1 hD).1
     omega
    ·intro d hd'
     rcases List.mem_cons.1 hd' with rfl | hd'
     ·exact ⟨_,rfl,hs.size,hd⟩
     ·obtain ⟨D,e,hB',hD⟩:=hk.2 d hd'
      exact ⟨D,e,hB',hold D _ hD (fun _ _ _ h => by cases h)⟩
   have finish:∀ (rows:Rows) (m':Map) (W2:World) (s:LoopState) (pe:Option Code) (e:Exit) (hok:match e with | .normal | .exit _ | .ret => True | _ => False),Q e ⟨st.tmps,revive ds st.rows rows⟩ -> WR R m' rows W2 -> Step m (dead ds st.rows) w m' rows W2 -> W2.heap[w.heap.size + 1]? = some (.loop (rec s pe)) -> W2.heap[w.heap.size]? = some (.deferred (some [])) ->
     ∀ s',Post R Q m0 h0' w0 e (clr { a with defers:={ target:=.collected w.heap.size,args:=#[] } :: a.defers }) (W2.putObj (w.heap.size + 1) (.loop (rec s' pe))) /\ Marks w0.heap.size ({ target:=.collected w.heap.size,args:=#[] } :: a.defers) (W2.putObj (w.heap.size + 1) (.loop (rec s' pe))):=by
    intro rows m' W2 s pe e hok hq hwr hst hl hd s'
    have ht:Turned w.heap.size W2 (W2.putObj (w.heap.size + 1) (.loop (rec s' pe))):=Turned.putObj _ hl (fun _ _ _ h => by cases h) (by omega)
    obtain ⟨hw2,hs2⟩:=revive_ok hW (hst.turned ht) (hwr.others ht.others)
    have hlen:st.rows.length <= rows.length:=by have:=hst.len; rwa [dead_length] at this
    have hlen2:st.rows.length <= (revive ds st.rows rows).length:=by rw [revive_length]; exact hlen
    refine ⟨⟨m',⟨st.tmps,revive ds st.rows rows⟩,hok,hq,⟨hr.size,?_,rfl,hw2⟩,hs.trans hs2⟩,marks _ ((World.putObj_heap_other (by omega)).trans hd) ?_⟩
    ·intro i x hx
     obtain ⟨c,hc,hd'⟩:=hr.tmps i x hx
     exact ⟨c,hc,hd'.mono hlen2 (fun b hb => hst.mu b (by rw [dead_length]; exact hb)) hst.ro⟩
    ·intro D o hD ho
     have hDlt:=(Array.getElem?_eq_some_iff.1 hD).1
     rw [World.putObj_heap_other (by omega)]
     exact hst.keeps (hW.dead ds) hD ho
   rintro e W2 ⟨⟨v,rfl⟩,(⟨m',rows,hI,hwr,hst,hl,hd⟩ | ⟨e,c,m',rows,hj,hX,hwr,hst,hl,hd⟩)⟩
   ·refine ⟨none,_,by have:=run_endLoop (P:=P) hl (by rw [hrec]; simp); rw [hrec] at this; exact this,?_⟩
    have:=finish rows m' W2 .ready none .normal trivial (hdone rows hI) hwr hst hl hd .exhausted
    rw [hrec] at this
    exact this
   ·refine ⟨some c,_,by have:=run_endLoop (P:=P) hl (by rw [hrec]; simp); rw [hrec] at this; exact this,?_⟩
    cases e with
    | ret =>
     simp only [jumpOf,Option.some.injEq] at hj
     subst hj
     have:=finish rows m' W2 .done _ .ret trivial (hexit _ rows hX) hwr hst hl hd .exhausted
     rw [hrec] at this
     exact wpIn_ret this
    | exit id =>
     simp only [jumpOf,Option.some.injEq] at hj
     subst hj
     have:=finish rows m' W2 .done _ (.exit id) trivial (hexit _ rows hX) hwr hst hl hd .exhausted
     rw [hrec] at this
     exact wpIn_exit this
    | _ => simp [jumpOf] at hj
end Go.Dc
end
section
namespace Go.Dc
noncomputable section
def hasRange:Code -> Bool
 | .seq a b => hasRange a || hasRange b
 | .cond _ a b => hasRange a || hasRange b
 | .block _ b => hasRange b
 | .loop b => hasRange b
 | .rangeFunc .. => true
 | _ => false
def rng (go:Code -> St -> (Exit -> St -> Prop) -> Prop) (st:St) (p0 p1:Tmp) (as body:Code) (ds:List Nat) (r:Row) (i:Nat) (k:Exit -> St -> Prop) (len:Nat):Rows -> Prop :=
 Nat.rec (fun rows => forceRows (revive ds st.rows rows) fun rows => k .normal ⟨st.tmps,rows⟩)
  (fun j ih rows => match r.get? (i + j) with
   | some e => setK st.tmps p0 (.int .i64 (j:Int)) fun ts => setK ts p1 e fun ts => go as ⟨ts,rows⟩ fun e1 st1 => match e1 with
    | .normal => go body st1 fun e st2 => match e with
     | .normal => ih st2.rows
     | .ret => forceRows (revive ds st.rows st2.rows) fun rows => k .ret ⟨st.tmps,rows⟩
     | .exit id => forceRows (revive ds st.rows st2.rows) fun rows => k (.exit id) ⟨st.tmps,rows⟩
     | _ => False
    | _ => False
   | none => False) len
theorem rng_succ (go:Code -> St -> (Exit -> St -> Prop) -> Prop) (st:St) (p0 p1:Tmp) (as body:Code) (ds:List Nat) (r:Row) (i:Nat) (k:Exit -> St -> Prop) (j:Nat) (rows:Rows) :
  rng go st p0 p1 as body ds r i k (j + 1) rows = (match r.get? (i + j) with
   | some e => setK st.tmps p0 (.int .i64 (j:Int)) fun ts => setK ts p1 e fun ts => go as ⟨ts,rows⟩ fun e1 st1 => match e1 with
    | .normal => go body st1 fun e st2 => match e with
     | .normal => rng go st p0 p1 as body ds r i k j st2.rows
     | .ret => forceRows (revive ds st.rows st2.rows) fun rows => k .ret ⟨st.tmps,rows⟩
     | .exit id => forceRows (revive ds st.rows st2.rows) fun rows => k (.exit id) ⟨st.tmps,rows⟩
     | _ => False
    | _ => False
   | none => False):=rfl
variable (E:Env Prop) (back:FuncId -> Option Nat) (rl:Nat -> Option LoopSp) (n:Nat) (f:FuncId)
def codeM:Code -> St -> (Exit -> St -> Prop) -> Prop
 | .seq x y,st,k => codeM x st fun e st => match e with | .normal => codeM y st k | e => k e st
 | .block id b,st,k => match hasRange b with
  | false => code propAns E (drawAll propAns E) n f (.block id b) st k
  | true => match rl id with
   | some spec => spec st k
   | none => codeM b st fun e st => match e with
    | .exit id' => bif Nat.beq id' id then k .normal st else k (.exit id') st
    | e => k e st
 | .rangeFunc g ⟨[p0,p1]⟩ as body,st,k => match st.ev g with
  | .fn gf [] [.ptr false bx 0 0] => match back gf,st.rows.live bx with
   | some esz,some rb => match rb.get? 0 with
    | some .nils => forceRows (revive [bx] st.rows (dead [bx] st.rows)) fun rows => k .normal ⟨st.tmps,rows⟩
    | some (.sl false b i len _) => match st.rows.live b with
     | some r => cond (Nat.beq r.esz esz && Nat.ble (i + len) r.len) (forceRows (dead [bx,b] st.rows) fun rows => rng (code propAns E (drawAll propAns E) n f) st p0 p1 as body [bx,b] r i k len rows) False
     | none => False
    | _ => False
   | _,_ => False
  | _ => False
 | c,st,k => code propAns E (drawAll propAns E) n f c st k
end
section
variable {E:Env Prop} {back:FuncId -> Option Nat} {rl:Nat -> Option LoopSp} {n:Nat} {f:FuncId} {P:Program}
theorem SafeR.mono {rd:Option Nat} {ds:List Deferred} {P:Program} {R:Nat -> RoRow} {c:Code} {st:St} {Q Q':Exit -> St -> Prop} (h:SafeR rd ds P R c st Q) (hq:∀ e st,Q e st -> Q' e st):SafeR rd ds P R c st Q' :=
 fun m a w m0 h0 w0 ha hr hs => wpIn_mono (h m a w m0 h0 w0 ha hr hs) fun _ _ _ hp => ⟨hp.1.mono hq,hp.2⟩
theorem Row.get?_some {r:Row} {i:Nat} (h:i < r.len):∃ e,r.get? i = some e:=by
 cases r with
 | lst t s l => exact ⟨l[i]'h,by simp only [Row.get?]; exact List.getElem?_eq_getElem h⟩
 | gen t s n a => exact ⟨a i,Row.get_gen h⟩
 | byt t l => exact ⟨.int .u8 (l[i]'h).toNat,by simp only [Row.get?]; rw [List.getElem?_eq_getElem h]; rfl⟩
theorem codeM_ok (hm:P.follows .mixedOrders = true) (hE:EnvOK P E id) (hb:∀ gf esz,back gf = some esz -> BackOK P gf esz /\ ∀ args w,(callFunc gf args).run P w = .ok (.enter gf args) w)
  (hl:∀ id,E.loops f id = Option.none)
  (hrl:∀ id spec,rl id = some spec -> ∀ body,(id,body) ∈ E.subsOf f -> ∀ st k,spec st k -> SafeM P E.R (.block id body) st k) :
  ∀ (c:Code) (st:St) (k:Exit -> St -> Prop),codeND c = true -> (∀ p ∈ subs c,p ∈ E.subsOf f) -> codeM E back rl n f c st k -> SafeM P E.R c st k:=by
 have plain:∀ (c:Code) (st:St) (k:Exit -> St -> Prop),codeND c = true -> (∀ p ∈ subs c,p ∈ E.subsOf f) -> code propAns E (drawAll propAns E) n f c st k -> SafeM P E.R c st k:=by
  intro c st k hnd hsub h
  exact SafeM.of fun ds => code_okR propHolds hE hm f (fun id spec e => by rw [hl id] at e; cases e) n c st k hnd hsub h
 intro c
 induction c with
 | seq x y ihx ihy =>
  intro st k hnd hsub h
  refine SafeM.seq ((ihx st _ (nd_seq hnd).1 (fun p hp => hsub p (by simp [subs,hp])) h).mono ?_)
  intro e st' hq
  cases e with
  | normal => exact ihy st' k (nd_seq hnd).2 (fun p hp => hsub p (by simp [subs,hp])) hq
  | _ => exact hq
 | block id b ih =>
  intro st k hnd hsub h
  simp only [codeM] at h
  split at h
  ·exact plain _ st k hnd hsub h
  ·split at h
   ·rename_i spec hs
    exact hrl id spec hs b (hsub _ (by simp [subs])) st k h
   ·exact SafeM.block (ih st _ (by simpa [codeND] using hnd) (fun p hp => hsub p (by simp [subs,hp])) h)
 | rangeFunc g ps as body iha ihb =>
  intro st k hnd hsub h
  obtain ⟨pl⟩:=ps
  match pl,h with
  | [p0,p1],h =>
   simp only [codeM] at h
   split at h
   ·rename_i gf bx hg
    split at h
    ·rename_i esz rb hbk hbx
     obtain ⟨hB,hent⟩:=hb gf esz hbk
     have hnd':codeND as = true /\ codeND body = true:=by simpa [codeND] using hnd
     have hsa:∀ p ∈ subs as,p ∈ E.subsOf f:=fun p hp => hsub p (by simp [subs,hp])
     have hsb:∀ p ∈ subs body,p ∈ E.subsOf f:=fun p hp => hsub p (by simp [subs,hp])
     split at h
     ·-- no slice
      rename_i hsv
      rw [forceRows_eq] at h
      refine range_ok (ds:=[bx]) (len:=0) (els:=fun _ => .any) (I:=fun _ rows => rows = dead [bx] st.rows) (X:=fun _ _ => False) hB hent hg hbx hsv (by simp) (.inl ⟨rfl,rfl⟩) rfl ?_ ?_ ?_
      ·intro l j rows hj; omega
      ·rintro rows rfl; exact h
      ·intro e rows hx; exact hx.elim
     ·rename_i b i len full hsv
      split at h
      ·rename_i r hbr
       rcases hold_cond (hold:=id) _ _ _ h with ⟨he,h⟩ | ⟨_,h⟩
       ·simp only [Bool.and_eq_true] at he
        have hle:i + len <= r.len:=Nat.le_of_ble_eq_true he.2
        have he:=Nat.eq_of_beq_eq_true he.1
        have hels:∀ j,j < len -> r.get? (i + j) = some ((r.get? (i + j)).getD .any):=by
         intro j hj
         obtain ⟨e,he'⟩:=Row.get?_some (r:=r) (i:=i + j) (by omega)
         rw [he']; rfl
        simp only [id,forceRows_eq] at h
        refine range_ok (ds:=[bx,b]) (len:=len) (els:=fun j => (r.get? (i + j)).getD .any)
         (I:=fun j rows => rng (code propAns E (drawAll propAns E) n f) st p0 p1 as body [bx,b] r i k (len - j) rows)
         (X:=fun e rows => k e ⟨st.tmps,revive [bx,b] st.rows rows⟩) hB hent hg hbx hsv (by simp) ?_ (by simpa using h) ?_ ?_ ?_
        ·exact .inr (.inl ⟨b,i,full,r,rfl,hbr,he,by simp,hels⟩)
        ·intro l j rows hj hI
         obtain ⟨q,hq⟩:∃ q,len - j = q + 1:=⟨len - j - 1,by omega⟩
         have hq2:len - 1 - j = q:=by omega
         rw [hq] at hI
         rw [rng_succ,hels q (by omega)] at hI
         simp only [setK_eq] at hI
         rw [hq2]
         have ok:=fun c st k => code_okR (rd:=some l) (ds:=[]) propHolds hE hm f (fun id spec e => by rw [hl id] at e; cases e) n c st k
         refine SafeR.mono (ok as _ _ hnd'.1 hsa hI) ?_
         intro e1 st1 hq1
         cases e1 with
         | normal =>
          refine ⟨rfl,SafeR.mono (ok body _ _ hnd'.2 hsb hq1) ?_⟩
          intro e2 st2 hq2'
          refine ⟨_,.inl rfl,?_⟩
          cases e2 with
          | normal =>
           have:len - (j + 1) = q:=by omega
           simp only [this]
           exact hq2'
          | ret => simpa [forceRows_eq] using hq2'
          | exit id => simpa [forceRows_eq] using hq2'
          | _ => exact hq2'.elim
         | _ => exact hq1.elim
        ·intro rows hI
         simp only [Nat.sub_self,rng,forceRows_eq] at hI
         exact hI
        ·intro e rows hx; exact hx
       ·exact h.elim
      ·exact h.elim
     ·exact h.elim
    ·exact h.elim
   ·exact h.elim
  | [],h => exact plain _ st k hnd hsub h
  | [_],h => exact plain _ st k hnd hsub h
  | _ :: _ :: _ :: _,h => exact plain _ st k hnd hsub h
 | _ => intro st k hnd hsub h; exact plain _ st k hnd hsub h
noncomputable def vcm (E:Env Prop) (back:FuncId -> Option Nat) (rl:Nat -> Option LoopSp) (n:Nat) (f:FuncId) (fi:FI) (args:List AV) (h:Rows) (Q:AV -> Rows -> Prop):Prop :=
 forceL (enterT args fi.ntmps) fun ts => codeM E back rl n f fi.body ⟨ts,h⟩ fun e st => match e with
  | .normal | .ret => resK propAns E st fi.results fun v => Q v st.rows
  | _ => False
theorem SafeCall.vcm (hm:P.follows .mixedOrders = true) (hE:EnvOK P E id) (hb:∀ gf esz,back gf = some esz -> BackOK P gf esz /\ ∀ args w,(callFunc gf args).run P w = .ok (.enter gf args) w)
  (hl:∀ id,E.loops f id = Option.none) (hrl:∀ id spec,rl id = some spec -> ∀ body,(id,body) ∈ E.subsOf f -> ∀ st k,spec st k -> SafeM P E.R (.block id body) st k)
  {fi:FI} (hF:E.F f = some fi) (hnd:codeND fi.body = true) {args:List AV} {h:Rows} {Q:AV -> Rows -> Prop} (hk:Dc.vcm E back rl n f fi args h Q):SafeCall P E.R f args h Q:=by
 unfold Dc.vcm at hk
 rw [forceL_eq] at hk
 refine SafeCall.of_bodyM hE.T (hE.F f fi hF) ((codeM_ok hm hE hb hl hrl fi.body _ _ hnd (fun p hp => by unfold Env.subsOf; rw [hF]; exact hp) hk).mono ?_)
 intro e st' he
 cases e <;> first
  | exact ⟨.inl rfl,resL_ok propHolds he⟩
  | exact ⟨.inr rfl,resL_ok propHolds he⟩
  | exact he.elim
end
end Go.Dc
end
