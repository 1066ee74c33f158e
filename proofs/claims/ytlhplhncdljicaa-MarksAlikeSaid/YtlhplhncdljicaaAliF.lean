/- Are two entries alike: the walk. -/
import Derived.Test.YtlhplhncdljicaaAliE
import Derived.Test.YtlhplhncdljicaaDcZj
set_option linter.unusedVariables false
set_option linter.unusedSimpArgs false
namespace Go.Dc.Kb
open Go.Proofs Go.RowKit
set_option maxRecDepth 100000
theorem vc4 (t n : Nat) (N V : Nat → Tx) (t' m : Nat) (N' V' : Nat → Tx) (wh at_ nd : Int) (nm : Tx) (wh' at_' nd' : Int) (nm' : Tx) (Q : AV → Prop) : vcd (env4 t n N V t' m N' V') 1000 4 fi4 [actA wh at_ nd nm 0 n, actA wh' at_' nd' nm' 1 m] [] (fun v _ => Q v) = (n = n ∧ ∀ (D : List At), IsD (dd N V (min n 20)) D → m = m ∧ ∀ (D_1 : List At), IsD (dd N' V' (min m 20)) D_1 → (90 = 90 ∧ 90 = 90 ∧ D.length = D.length ∧ D_1.length = D_1.length ∧ AtRow D.length (atL D) ∧ AtRow D_1.length (atL D_1)) ∧ ∀ (D_2 D' : List At), AtIs D.length (atL D) D_2 → AtIs D_1.length (atL D_1) D' → AV.agg [AV.int IntKind.i64 nd', AV.str nm', AV.sl false 7 0 D_1.length Cp.no] = AV.agg [AV.int IntKind.i64 nd', AV.str nm', AV.sl false 7 0 D_1.length Cp.no] ∧ AV.agg [AV.int IntKind.i64 nd, AV.str nm, AV.sl false 3 0 D.length Cp.no] = AV.agg [AV.int IntKind.i64 nd, AV.str nm, AV.sl false 3 0 D.length Cp.no] ∧ (88 = 88 ∧ 88 = 88 ∧ D.length = D.length ∧ D_1.length = D_1.length ∧ AtRow D.length (atL D) ∧ AtRow D_1.length (atL D_1)) ∧ ∀ (D_3 D'_1 : List At), AtIs D.length (atL D) D_3 → AtIs D_1.length (atL D_1) D'_1 → bif alikeB nm nm' D_2 D' == alikeB nm nm' D_3 D'_1 then (90 = 90 ∧ 90 = 90 ∧ D_1.length = D_1.length ∧ D.length = D.length ∧ AtRow D_1.length (atL D_1) ∧ AtRow D.length (atL D)) ∧ ∀ (D_4 D' : List At), AtIs D_1.length (atL D_1) D_4 → AtIs D.length (atL D) D' → AV.agg [AV.int IntKind.i64 nd', AV.str nm', AV.sl false 6 0 D_1.length Cp.no] = AV.agg [AV.int IntKind.i64 nd', AV.str nm', AV.sl false 6 0 D_1.length Cp.no] ∧ AV.agg [AV.int IntKind.i64 nd, AV.str nm, AV.sl false 2 0 D.length Cp.no] = AV.agg [AV.int IntKind.i64 nd, AV.str nm, AV.sl false 2 0 D.length Cp.no] ∧ (90 = 90 ∧ 90 = 90 ∧ D.length = D.length ∧ D_1.length = D_1.length ∧ AtRow D.length (atL D) ∧ AtRow D_1.length (atL D_1)) ∧ ∀ (D_5 D'_2 : List At), AtIs D.length (atL D) D_5 → AtIs D_1.length (atL D_1) D'_2 → bif alikeB nm' nm D_4 D' == alikeB nm nm' D_5 D'_2 then (90 = 90 ∧ 90 = 90 ∧ D.length = D.length ∧ D.length = D.length ∧ AtRow D.length (atL D) ∧ AtRow D.length (atL D)) ∧ ∀ (D_6 D' : List At), AtIs D.length (atL D) D_6 → AtIs D.length (atL D) D' → Q (AV.bool (alikeB nm nm D_6 D')) else Q (AV.bool false) else Q (AV.bool false)) := by kernel_rfl
theorem dd_names (N V : Nat → Tx) : ∀ i, ((dd N V i).map (·.1)).Nodup := by
  intro i
  induction i with
  | zero => simp [dd]
  | succ i ih =>
    simp only [dd]
    cases h : (dd N V i).any (fun p => p.1 == N i) with
    | true => exact ih
    | false =>
      simp only [cond_false, List.map_append, List.map_cons, List.map_nil]
      rw [List.nodup_append]
      refine ⟨ih, by simp, ?_⟩
      intro a ha b hb
      rw [List.mem_singleton] at hb
      subst hb
      rintro rfl
      rw [List.any_eq_false] at h
      obtain ⟨p, hp, he⟩ := List.mem_map.1 ha
      exact h p hp (by simpa using he)
theorem nodup_of_names : ∀ {D : List At}, (D.map (·.1)).Nodup → D.Nodup
  | [], _ => List.nodup_nil
  | p :: D, h => by
    rw [List.map_cons, List.nodup_cons] at h
    rw [List.nodup_cons]
    exact ⟨fun hp => h.1 (List.mem_map.2 ⟨p, hp, rfl⟩), nodup_of_names h.2⟩
theorem isIn_iff {D : List At} {a b : Tx} : isIn D a b = true ↔ (a, b) ∈ D := by
  unfold isIn
  rw [List.any_eq_true]
  constructor
  · rintro ⟨p, hp, h⟩
    simp at h
    obtain ⟨rfl, rfl⟩ := h
    exact hp
  · intro h
    exact ⟨_, h, by simp⟩
theorem allIn_iff {D D' : List At} : allIn D D' = true ↔ ∀ p, p ∈ D → p ∈ D' := by
  unfold allIn
  rw [List.all_eq_true]
  constructor
  · intro h p hp
    exact isIn_iff.1 (h p hp)
  · intro h p hp
    exact isIn_iff.2 (h p hp)
theorem sub_len : ∀ {D D' : List At}, D.Nodup → (∀ p, p ∈ D → p ∈ D') → D.length ≤ D'.length
  | [], _, _, _ => Nat.zero_le _
  | p :: D, D', hn, hs => by
    rw [List.nodup_cons] at hn
    have hp : p ∈ D' := hs p List.mem_cons_self
    have h1 := sub_len (D' := D'.erase p) hn.2 fun q hq => (List.mem_erase_of_ne (fun e : q = p => hn.1 (e ▸ hq))).2 (hs q (List.mem_cons_of_mem _ hq))
    rw [List.length_erase_of_mem hp] at h1
    have := List.length_pos_of_mem hp
    simp only [List.length_cons]
    omega
theorem allIn_symm {D D' : List At} (hn : D.Nodup) (hl : D.length = D'.length) (h : allIn D D' = true) : allIn D' D = true := by
  rw [allIn_iff] at h ⊢
  intro q hq
  by_cases hqd : q ∈ D
  · exact hqd
  · exfalso
    have h1 := sub_len (D' := D'.erase q) hn fun p hp => (List.mem_erase_of_ne (fun e : p = q => hqd (e ▸ hp))).2 (h p hp)
    rw [List.length_erase_of_mem hq] at h1
    have := List.length_pos_of_mem hq
    omega
theorem alike_symm {nm nm' : Tx} {D D' : List At} (hn : D.Nodup) (hn' : D'.Nodup) : alikeB nm' nm D' D = alikeB nm nm' D D' := by
  unfold alikeB
  rw [Bool.eq_iff_iff]
  simp only [Bool.and_eq_true, beq_iff_eq]
  constructor
  · rintro ⟨rfl, h1, h2⟩
    exact ⟨rfl, h1.symm, allIn_symm hn' h1 h2⟩
  · rintro ⟨rfl, h1, h2⟩
    exact ⟨rfl, h1.symm, allIn_symm hn h1 h2⟩
theorem alike_self (nm : Tx) (D : List At) : alikeB nm nm D D = true := by
  unfold alikeB
  simp only [beq_self_eq_true, Bool.true_and]
  exact allIn_iff.2 fun p hp => hp
theorem safe4 (t n : Nat) (N V : Nat → Tx) (t' m : Nat) (N' V' : Nat → Tx) (wh at_ nd : Int) (nm : Tx) (wh' at_' nd' : Int) (nm' : Tx) :
    SafeCall Try.prog (ro2A t n N V t' m N' V') 4 [actA wh at_ nd nm 0 n, actA wh' at_' nd' nm' 1 m] [] fun v _ => v = .bool true := by
  refine byVcd (env4_ok t n N V t' m N' V') (f := 4) (fi := fi4) (by kernel_rfl) 1000 (vc4 t n N V t' m N' V' wh at_ nd nm wh' at_' nd' nm' (fun v => v = .bool true)) ?_
  refine ⟨rfl, ?_⟩
  rintro D ⟨rfl⟩
  refine ⟨rfl, ?_⟩
  rintro D' ⟨rfl⟩
  have l1 := dd_len N V (min n 20)
  have l2 := dd_len N' V' (min m 20)
  have n1 := nodup_of_names (dd_names N V (min n 20))
  have n2 := nodup_of_names (dd_names N' V' (min m 20))
  generalize dd N V (min n 20) = D at l1 n1 ⊢
  generalize dd N' V' (min m 20) = D' at l2 n2 ⊢
  have r1 : AtRow D.length (atL D) := ⟨D, rfl, rfl, by omega⟩
  have r2 : AtRow D'.length (atL D') := ⟨D', rfl, rfl, by omega⟩
  refine ⟨⟨rfl, rfl, rfl, rfl, r1, r2⟩, ?_⟩
  intro A B hA hB
  rw [hA.eq, hB.eq]
  refine ⟨rfl, rfl, ⟨rfl, rfl, rfl, rfl, r1, r2⟩, ?_⟩
  intro A B hA hB
  rw [hA.eq, hB.eq]
  refine hcT (by simp) ⟨⟨rfl, rfl, rfl, rfl, r2, r1⟩, ?_⟩
  intro A B hA hB
  rw [hA.eq, hB.eq]
  refine ⟨rfl, rfl, ⟨rfl, rfl, rfl, rfl, r1, r2⟩, ?_⟩
  intro A B hA hB
  rw [hA.eq, hB.eq]
  refine hcT (by rw [alike_symm n1 n2]; simp) ⟨⟨rfl, rfl, rfl, rfl, r1, r1⟩, ?_⟩
  intro A B hA hB
  rw [hA.eq, hB.eq, alike_self]
/-- An entry that came in. -/
def ActAt (w : World) (v : Value) : Prop := ∃ (wh at_ nd : Int) (nm : Tx) (ty n : Nat) (N V : Nat → Tx) (l : Loc) (s : Value), (∀ m, RoOK m l ⟨ty, 2, n, atA N V⟩ w) ∧ v = .agg #[.int .i64 wh, .int .i64 at_, .int .i64 nd, .string ⟨⟨nm⟩⟩, s] ∧ SlDen l 0 n .no s
theorem alike_walk (w : World) (v v' : Value) (h : ActAt w v) (h' : ActAt w v') : Calls Try.prog 4 #[v, v'] w fun e w' => e = .returned (.bool true) ∧ Go.RowKit.Below w.heap.size w w' := by
  obtain ⟨wh, at_, nd, nm, ty, n, N, V, l, s, hro, rfl, hd⟩ := h
  obtain ⟨wh', at_', nd', nm', ty', n', N', V', l', s', hro', rfl, hd'⟩ := h'
  refine (safe4 ty n N V ty' n' N' V' wh at_ nd nm wh' at_' nd' nm').law ⟨fun _ => ⟨0, 0, 0, 0, true⟩, fun i => match i with | 0 => l | 1 => l' | _ + 2 => ⟨0, 0, 0, 0, true⟩⟩ _ w ?_ ?_
  · simp only [DenL, Den, Map.loc, if_true]
    exact ⟨_, _, rfl, ⟨_, rfl, _, _, rfl, rfl, _, _, rfl, rfl, _, _, rfl, rfl, _, _, rfl, rfl, _, _, rfl, ⟨by simp, hd⟩, rfl⟩, _, _, rfl, ⟨_, rfl, _, _, rfl, rfl, _, _, rfl, rfl, _, _, rfl, rfl, _, _, rfl, rfl, _, _, rfl, ⟨by simp, hd'⟩, rfl⟩, rfl⟩
  · intro i
    match i with
    | 0 => exact hro _
    | 1 => exact hro' _
    | i + 2 => exact ⟨rfl, Nat.le_refl _, by simp [ro2A]⟩
end Go.Dc.Kb
