/- Are two entries alike: the walk. -/
import Derived.Test.YtlhplhncdljicaaAliE
import Derived.Test.YtlhplhncdljicaaDcZj
set_option linter.unusedVariables false
set_option linter.unusedSimpArgs false
namespace Go.Dc.Kb
open Go.Proofs Go.RowKit
set_option maxRecDepth 100000
theorem dd_names (N V:Nat -> Tx):∀ i,((dd N V i).map (·.1)).Nodup:=by
 intro i
 induction i with
 | zero => simp [dd]
 | succ i ih =>
  simp only [dd]
  cases h:(dd N V i).any (fun p => p.1 == N i) with
  | true => exact ih
  | false =>
   simp only [cond_false,List.map_append,List.map_cons,List.map_nil]
   rw [List.nodup_append]
   refine ⟨ih,by simp,?_⟩
   intro a ha b hb
   rw [List.mem_singleton] at hb
   subst hb
   rintro rfl
   rw [List.any_eq_false] at h
   obtain ⟨p,hp,he⟩:=List.mem_map.1 ha
   exact h p hp (by simpa using he)
theorem nodup_of_names:∀ {D:List At},(D.map (·.1)).Nodup -> D.Nodup
 | [],_ => List.nodup_nil
 | p :: D,h => by
  rw [List.map_cons,List.nodup_cons] at h
  rw [List.nodup_cons]
  exact ⟨fun hp => h.1 (List.mem_map.2 ⟨p,hp,rfl⟩),nodup_of_names h.2⟩
theorem isIn_iff {D:List At} {a b:Tx}:isIn D a b = true ↔ (a,b) ∈ D:=by
 unfold isIn
 rw [List.any_eq_true]
 constructor
 ·rintro ⟨p,hp,h⟩
  simp at h
  obtain ⟨rfl,rfl⟩:=h
  exact hp
 ·intro h
  exact ⟨_,h,by simp⟩
theorem allIn_iff {D D':List At}:allIn D D' = true ↔ ∀ p,p ∈ D -> p ∈ D':=by
 unfold allIn
 rw [List.all_eq_true]
 constructor
 ·intro h p hp
  exact isIn_iff.1 (h p hp)
 ·intro h p hp
  exact isIn_iff.2 (h p hp)
theorem sub_len:∀ {D D':List At},D.Nodup -> (∀ p,p ∈ D -> p ∈ D') -> D.length <= D'.length
 | [],_,_,_ => Nat.zero_le _
 | p :: D,D',hn,hs => by
  rw [List.nodup_cons] at hn
  have hp:p ∈ D':=hs p List.mem_cons_self
  have h1:=sub_len (D':=D'.erase p) hn.2 fun q hq => (List.mem_erase_of_ne (fun e:q = p => hn.1 (e ▸ hq))).2 (hs q (List.mem_cons_of_mem _ hq))
  rw [List.length_erase_of_mem hp] at h1
  have:=List.length_pos_of_mem hp
  simp only [List.length_cons]
  omega
theorem allIn_symm {D D':List At} (hn:D.Nodup) (hl:D.length = D'.length) (h:allIn D D' = true):allIn D' D = true:=by
 rw [allIn_iff] at h ⊢
 intro q hq
 by_cases hqd:q ∈ D
 ·exact hqd
 ·exfalso
  have h1:=sub_len (D':=D'.erase q) hn fun p hp => (List.mem_erase_of_ne (fun e:p = q => hqd (e ▸ hp))).2 (h p hp)
  rw [List.length_erase_of_mem hq] at h1
  have:=List.length_pos_of_mem hq
  omega
theorem alike_symm {nm nm':Tx} {D D':List At} (hn:D.Nodup) (hn':D'.Nodup):alikeB nm' nm D' D = alikeB nm nm' D D':=by
 unfold alikeB
 rw [Bool.eq_iff_iff]
 simp only [Bool.and_eq_true,beq_iff_eq]
 constructor
 ·rintro ⟨rfl,h1,h2⟩
  exact ⟨rfl,h1.symm,allIn_symm hn' h1 h2⟩
 ·rintro ⟨rfl,h1,h2⟩
  exact ⟨rfl,h1.symm,allIn_symm hn h1 h2⟩
theorem alike_self (nm:Tx) (D:List At):alikeB nm nm D D = true:=by
 unfold alikeB
 simp only [beq_self_eq_true,Bool.true_and]
 exact allIn_iff.2 fun p hp => hp
end Go.Dc.Kb
