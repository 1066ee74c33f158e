/- Blocks of a function, each but once; rows of plain values. -/
import Derived.Test.YtlhplhncdljicaaDcYi
import Derived.Test.YtlhplhncdljicaaDcZe
set_option linter.unusedVariables false
set_option linter.unusedSimpArgs false
section
namespace Go.Dc
theorem subs_trans:∀ (c:Code) (p:Nat × Code),p ∈ subs c -> ∀ q ∈ subs p.2,q ∈ subs c:=by
 intro c
 induction c with
 | block id b ih =>
  intro p hp q hq
  simp only [subs,List.mem_cons] at hp ⊢
  rcases hp with rfl | hp
  ·exact .inr hq
  ·exact .inr (ih p hp q hq)
 | seq x y ihx ihy =>
  intro p hp q hq
  simp only [subs,List.mem_append] at hp ⊢
  rcases hp with hp | hp
  ·exact .inl (ihx p hp q hq)
  ·exact .inr (ihy p hp q hq)
 | cond x y z ihx ihy =>
  intro p hp q hq
  simp only [subs,List.mem_append] at hp ⊢
  rcases hp with hp | hp
  ·exact .inl (ihx p hp q hq)
  ·exact .inr (ihy p hp q hq)
 | loop b ih => exact ih
 | rangeFunc g ps x y ihx ihy =>
  intro p hp q hq
  simp only [subs,List.mem_append] at hp ⊢
  rcases hp with hp | hp
  ·exact .inl (ihx p hp q hq)
  ·exact .inr (ihy p hp q hq)
 | _ => intro p hp; simp [subs] at hp
theorem blockOf_mem {fi:FI} {i:Nat} {b:Code} (hb:blockOf fi i = some b):(i,b) ∈ subs fi.body:=by
 unfold blockOf at hb
 split at hb
 ·rename_i j' b' he
  simp only [Option.some.injEq] at hb
  subst hb
  have:(j',b') ∈ (subs fi.body).filter fun p => Nat.beq p.1 i:=by rw [he]; simp
  simp only [List.mem_filter] at this
  obtain ⟨h1,h2⟩:=this
  have:=Nat.eq_of_beq_eq_true h2
  subst this
  exact h1
 ·exact absurd hb (by simp)
theorem blockOf_uniq {fi:FI} {i:Nat} {b b':Code} (hb:blockOf fi i = some b) (h:(i,b') ∈ subs fi.body):b' = b:=by
 unfold blockOf at hb
 split at hb
 ·rename_i j' b2 he
  simp only [Option.some.injEq] at hb
  subst hb
  have:(i,b') ∈ (subs fi.body).filter fun p => Nat.beq p.1 i:=List.mem_filter.2 ⟨h,by simp⟩
  rw [he] at this
  simp only [List.mem_singleton,Prod.mk.injEq] at this
  exact this.2
 ·exact absurd hb (by simp)
end Go.Dc
end
section
namespace Go.Dc
open Go.RowKit
theorem subs_loop (b:Code):subs b = subs (.loop b):=rfl
theorem SafeCall.focus1Q {P:Program} {R:Nat -> RoRow} {fn:FuncId} {argsL args:List AV} {r r0:Row} {h:Rows} {b:Nat} {Q:AV -> Option Row -> Rows -> Prop}
  (hb:h[b]? = some (some r0)) (hr:RowV (oneV b) 1 r r0) (hA:VwL (oneV b) 1 argsL args) (hs:SafeCall P R fn argsL [some r] fun v h' => ∃ o tl,Q v o tl /\ h' = o :: tl) :
  SafeCall P R fn args h fun v'' h'' => ∃ V o tl,Q V o tl /\ v'' = ren (g1 b h.length) V /\ h'' = h.set b (o.map (renRow (g1 b h.length))) ++ Option.none :: tl.map (Option.map (renRow (g1 b h.length))):=by
 have hlt:b < h.length:=(List.getElem?_eq_some_iff.1 hb).1
 have hV:View (oneV b) [some r] h:=View.of (fun c o ho => by
  cases c with
  | zero => cases ho; exact ViewL.at_ (b:=b) rfl hb hr
  | succ c => simp at ho) (fun c c' d hc hc' _ _ => by simp at hc hc'; omega)
 refine (hs.focus hV hA).mono ?_
 rintro v'' h'' ⟨v',h',⟨o,tl,hq,rfl⟩,rfl,rfl⟩
 refine ⟨v',o,tl,hq,?_,merged_one hlt o tl⟩
 show ren (ext (oneV b) 1 h.length) _ = _
 rw [ext_one]
def spr (l:List (Nat × AV)):Nat -> Nat -> List AV
 | _,0 => []
 | k,n + 1 => (match l.lookup k with | some a => a | none => .any) :: spr l (k + 1) n
theorem VwL.spr {f:Nat -> Option Nat} {N:Nat} {l:List (Nat × AV)}:∀ {n k:Nat} {T:List AV},T.length = n -> (∀ i a,l.lookup (k + i) = some a -> i < n -> Vw f N a (nthV T i)) -> VwL f N (Dc.spr l k n) T
 | 0,k,T,h,_ => by
  cases T with
  | nil => exact VwL.nil
  | cons x T => simp at h
 | n + 1,k,T,h,hp => by
  cases T with
  | nil => simp at h
  | cons x T =>
   refine VwL.cons ?_ (VwL.spr (by simpa using h) fun i a hl hi => ?_)
   ·cases hl:l.lookup k with
    | none => exact Vw.anyI
    | some a =>
     have:=hp 0 a (by simpa using hl) (by omega)
     simpa only [nthV_eq,List.getD_cons_zero] using this
   ·have:=hp (i + 1) a (by rw [show k + (i + 1) = k + 1 + i by omega]; exact hl) (by omega)
    simpa only [nthV_eq,List.getD_cons_succ] using this
def known (f:Nat -> Option Nat) (N:Nat) (T:List AV):List (Nat × AV) -> Prop
 | [] => True
 | (i,a) :: l => Vw f N a (nthV T i) /\ known f N T l
theorem known.at_ {f:Nat -> Option Nat} {N:Nat} {T:List AV}:∀ {l:List (Nat × AV)},known f N T l -> ∀ i a,l.lookup i = some a -> Vw f N a (nthV T i)
 | [],_,i,a,h => by simp at h
 | (j,b) :: l,hk,i,a,h => by
  rw [List.lookup_cons] at h
  by_cases e:i = j
  ·subst e
   simp at h
   exact h ▸ hk.1
  ·rw [show (i == j) = false by simpa using e] at h
   exact hk.2.at_ i a h
theorem VwL.ofKnown {f:Nat -> Option Nat} {N n:Nat} {l:List (Nat × AV)} {T:List AV} (h:T.length = n) (hk:known f N T l):VwL f N (Dc.spr l 0 n) T :=
 VwL.spr h fun i a hl _ => hk.at_ i a (by rw [Nat.zero_add] at hl; exact hl)
end Go.Dc
end
section
namespace Go.Dc
noncomputable def loopOf (fi:FI) (id:Nat):Code:=match blockOf fi id with | some (.loop b) => b | _ => .skip
theorem hcT {b:Bool} {X Y:Prop} (h:b = true) (hx:X):cond b X Y:=by subst h; exact hx
theorem hcF {b:Bool} {X Y:Prop} (h:b = false) (hy:Y):cond b X Y:=by subst h; exact hy
theorem hcB {b:Bool} {X Y:Prop} (h1:b = true -> X) (h2:b = false -> Y):cond b X Y:=by
 cases b
 ·exact h2 rfl
 ·exact h1 rfl
theorem hcB2 {b:Bool} {X Y:Prop} (h2:b = false -> Y) (h1:b = true -> X):cond b X Y:=hcB h1 h2
theorem wrapI64 (x:Int) (h0:-9223372036854775808 <= x) (h1:x <= 9223372036854775807):IntKind.i64.wrap x = x:=by
 have e:IntKind.i64.wrap x = if (decide (x % 18446744073709551616 ≥ 9223372036854775808)) = true then x % 18446744073709551616 - 18446744073709551616 else x % 18446744073709551616:=rfl
 rw [e]
 simp only [decide_eq_true_eq]
 split <;> omega
theorem wrapSucc (i:Nat) (h:i <= 4611686018427387904):IntKind.i64.wrap ((i:Int) + 1) = ((i + 1:Nat):Int):=by rw [wrapI64 _ (by omega) (by omega)]; omega
theorem some_inj (N c c' b:Nat) (_:c < N) (_:c' < N) (h1:some c = some b) (h2:some c' = some b):c = c':=by cases h1; cases h2; rfl
def upR (n:Nat):Nat -> Option Nat:=fun c => bif Nat.blt c n then some c else none
theorem upR_lt {n c:Nat} (h:c < n):upR n c = some c:=by unfold upR; rw [show c.blt n = true by simpa [Nat.blt_eq] using h]; rfl
theorem upR_ge {n c:Nat} (h:n <= c):upR n c = none:=by unfold upR; rw [show c.blt n = false by rw [Bool.eq_false_iff]; simp [Nat.blt_eq]; omega]; rfl
theorem upR_inj {n N:Nat} (c c' b:Nat) (_:c < N) (_:c' < N) (h1:upR n c = some b) (h2:upR n c' = some b):c = c':=by
 rcases Nat.lt_or_ge c n with h | h
 ·rw [upR_lt h] at h1
  rcases Nat.lt_or_ge c' n with h' | h'
  ·rw [upR_lt h'] at h2; cases h1; cases h2; rfl
  ·rw [upR_ge h'] at h2; cases h2
 ·rw [upR_ge h] at h1; cases h1
structure RowsAre (h h0:Rows):Prop where
 h:h = h0
theorem capOK {m z:Nat} (h:(m + 1) * z <= 140737488355328):(decide (0 + m <= m) && (true && (true && decide ((m + 1) * z <= 140737488355328)))) = true:=by simp; exact h
end Go.Dc
end
