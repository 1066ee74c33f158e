/- Functions that only read: shown with what they read as memory that came in, used wherever that lies. -/
import Derived.Test.YtlhplhncdljicaaDcZe
set_option linter.unusedVariables false
set_option linter.unusedSimpArgs false
namespace Go.Dc
def flat1:AV -> Bool
 | .bool _ | .int _ _ | .str _ | .nilp | .nils | .nilf | .nili => true
 | _ => false
def flat:AV -> Bool
 | .agg cs => cs.all flat1
 | .tup cs => cs.all flat1
 | v => flat1 v
theorem flat1_den {m m':Map} {n n':Nat}:∀ {x:AV} {v:Value},flat1 x = true -> Den m n x v -> Den m' n' x v:=by
 intro x v h hd
 cases x <;> simp [flat1] at h <;> simpa [Den] using hd
theorem flatL_den {m m':Map} {n n':Nat}:∀ {l:List AV} {vs:List Value},l.all flat1 = true -> DenL m n l vs -> DenL m' n' l vs
 | [],vs,_,hd => by simpa [DenL] using hd
 | x :: l,vs,h,hd => by
  simp only [List.all_cons,Bool.and_eq_true] at h
  simp only [DenL] at hd ⊢
  obtain ⟨v,vs',rfl,h1,h2⟩:=hd
  exact ⟨v,vs',rfl,flat1_den h.1 h1,flatL_den h.2 h2⟩
theorem flat_den {m m':Map} {n n':Nat} {x:AV} {v:Value} (h:flat x = true) (hd:Den m n x v):Den m' n' x v:=by
 cases x
 case agg cs =>
  simp only [flat] at h
  simp only [Den] at hd ⊢
  obtain ⟨vs,e,hd⟩:=hd
  exact ⟨vs,e,flatL_den h hd⟩
 case tup cs =>
  simp only [flat] at h
  simp only [Den] at hd ⊢
  obtain ⟨vs,e,hd⟩:=hd
  exact ⟨vs,e,flatL_den h hd⟩
 all_goals exact flat1_den (by simpa [flat] using h) hd
def All2 {α β:Type} (r:α -> β -> Prop):List α -> List β -> Prop
 | [],[] => True
 | a :: as,b :: bs => r a b /\ All2 r as bs
 | _,_ => False
def RoVw1 (f:Nat -> Option Nat):AV -> AV -> Prop
 | .ptr false b i o,y => ∃ c,f b = some c /\ y = .ptr true c i o
 | .sl false b i len _,y => ∃ c,f b = some c /\ y = .sl true c i len .no
 | .any,y => y = .any
 | x,y => flat1 x = true /\ y = x
def RoVw (f:Nat -> Option Nat) (x y:AV):Prop:=match x with
 | .agg cs => ∃ ds,y = .agg ds /\ All2 (RoVw1 f) cs ds
 | x => RoVw1 f x y
structure RoRowV (f:Nat -> Option Nat) (r:Row) (q:RoRow):Prop where
 ty:q.ty = r.ty
 esz:q.esz = r.esz
 n:q.n <= r.len
 at_:∀ (j:Nat) (e:AV),j < q.n -> r.get? j = some e -> RoVw f e (q.at_ j)
theorem SafeCall.ofRead {P:Program} {R R2:Nat -> RoRow} {fn:FuncId} {argsL args:List AV} {h:Rows} {Q:AV -> Prop} (hs:SafeCall P R2 fn argsL [] fun v _ => Q v) (hg:∀ v,Q v -> flat v = true)
  (hmap:∀ m w,WR R m h w -> ∃ m2:Map,(∀ i,RoOK m2 (m2.ro i) (R2 i) w) /\ ∀ as,DenL m h.length args as -> DenL m2 0 argsL as) :
  SafeCall P R fn args h fun v h' => Q v /\ h' = h:=by
 intro m w m0 h0 w0 as has hW hS
 obtain ⟨m2,hro,hden⟩:=hmap m w hW
 have hW2:WR R2 m2 [] w:=⟨fun b r hb => by simp [Rows.live] at hb,fun b b' r r' hb => by simp [Rows.live] at hb,hro,fun i b r hb => by simp [Rows.live] at hb⟩
 refine (hs m2 w m2 [] w as (hden _ has) hW2 (Step.refl _ _ _)).mono ?_
 rintro e w' ⟨c,v,m',h',rfl,hq,hd,_,hS'⟩
 have hbelow:∀ k,k < w.heap.size -> w'.heap[k]? = w.heap[k]?:=fun k hk => hS'.block k hk (fun b r hb => by simp [Rows.live] at hb)
 have ho:Others w w':=⟨hS'.size,fun k c t fz hk => by rw [hbelow k (Array.getElem?_eq_some_iff.1 hk).1]; exact hk⟩
 have ht:Turned w0.heap.size w w':=⟨hS'.os,hS'.tape,hS'.output,ho,fun k hk => hbelow k (Nat.lt_of_lt_of_le hk hS.size)⟩
 exact ⟨c,v,m,h,rfl,⟨hq,rfl⟩,flat_den (hg v hq) hd,hW.others ho,hS.turned ht⟩
end Go.Dc
