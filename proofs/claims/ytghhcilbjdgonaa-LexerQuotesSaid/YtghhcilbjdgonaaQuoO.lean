/- A value in quotes: the loop of the three texts. -/
import Derived.Test.YtghhcilbjdgonaaQuoM
set_option linter.unusedVariables false
set_option linter.unusedSimpArgs false
namespace Go.Dc.Kl
open Go.Proofs Go.RowKit
set_option maxRecDepth 100000
def sA (v : List UInt8) : List UInt8 := [60, 112, 32, 97, 61, 34] ++ (v ++ [34, 62])
def sB (v : List UInt8) : List UInt8 := [60, 112, 32, 97, 61, 39] ++ (v ++ [39, 62])
def sC (v : List UInt8) : List UInt8 := [60, 112, 32, 97, 61] ++ (v ++ [62])
theorem tl3c {v : List UInt8} {m : Nat} {T2 : List AV} (e3 : nthV T2 3 = .str v) (e77 : nthV T2 77 = .sl false 0 0 3 .tight) (e78 : nthV T2 78 = .int .i64 3) (e79 : nthV T2 79 = .int .i64 m) (el : T2.length = 150) : VwL some 1 (tm3c v m) T2 := by
  rw [tm3c_spr]
  refine VwL.ofKnown el ⟨?_, ?_, ?_, ?_, trivial⟩
  · rw [e3]; exact Vw.strI
  · rw [e77]; exact Vw.slI (by decide) rfl
  · rw [e78]; exact Vw.intI
  · rw [e79]; exact Vw.intI
theorem envAny (R : Nat → RoRow) (a b c v : List UInt8) (hv : v.length ≤ 60) (hok : OkV v) : EnvOK Try.prog (env3c R a b c ((v ++ [34, 62]).length + 6) (FQ 34 (v ++ [34, 62])) (e0 (v.length + 1 + 6 + 1) ((v ++ [34, 62]).length + 6 : Nat) v.length 34 ((v ++ [34, 62]).length + 6) (FQ 34 (v ++ [34, 62])) v)) id :=
  ((base_ok R).addCall (f := 12) (fi := fi12) (by kernel_rfl) (spec12C_ok (gnd_FQ 34 _) (ones_FQ 34 _) (safe12a R (v ++ [34, 62]) v rfl (by omega) (okApp hok)))).addLoop (f := 3) (fi := fi3) (by kernel_rfl) (body := .loop lp3d) blk3d (spec3d_ok R a b c)
theorem round3c (R : Nat → RoRow) (v : List UInt8) (hv : v.length ≤ 60) (hok : OkV v) (m : {m : Nat // m ≤ 3}) :
    Safe Try.prog R lp3c (fam3c (sA v) (sB v) (sC v) v m.1) fun e st' => match e with
      | .normal => ∃ m' : {m : Nat // m ≤ 3}, 3 - m'.1 < 3 - m.1 ∧ Fit 1 (fam3c (sA v) (sB v) (sC v) v m'.1) st'
      | e => ∃ stE, Fit 1 stE st' ∧ (e = .exit 2 ∧ stE = fam3c (sA v) (sB v) (sC v) v 3) := by
  obtain ⟨m, hm⟩ := m
  rcases (by omega : m = 0 ∨ m = 1 ∨ m = 2 ∨ m = 3) with rfl | rfl | rfl | rfl
  · refine (round3c0 R (sA v) (sB v) (sC v) v rfl hv hok).mono ?_
    rintro e st' ⟨rfl, hF⟩
    exact ⟨⟨1, by omega⟩, by show 3 - 1 < 3 - 0; omega, hF⟩
  · refine (round3c1 R (sA v) (sB v) (sC v) v rfl hv hok).mono ?_
    rintro e st' ⟨rfl, hF⟩
    exact ⟨⟨2, by omega⟩, by show 3 - 2 < 3 - 1; omega, hF⟩
  · by_cases h0 : v = []
    · subst h0
      refine (byRnd (envAny R (sA []) (sB []) (sC []) [] hv hok) (f := 3) (fi := fi3) (by kernel_rfl) blk3c 1000 (vr3c2 R (sA []) (sB []) (sC []) [] _ _ _ _ _ _ (fun e st' => e = .normal ∧ Fit 1 (fam3c (sA []) (sB []) (sC []) [] 3) st')) (hcT rfl (hcT rfl ⟨rfl, fit3c rfl (tl3c rfl rfl rfl rfl rfl)⟩))).mono ?_
      rintro e st' ⟨rfl, hF⟩
      exact ⟨⟨3, by omega⟩, by show 3 - 3 < 3 - 2; omega, hF⟩
    · refine (round3c2 R (sA v) (sB v) (sC v) v rfl hv (List.length_pos_iff.2 h0) hok).mono ?_
      rintro e st' ⟨rfl, hF⟩
      exact ⟨⟨3, by omega⟩, by show 3 - 3 < 3 - 2; omega, hF⟩
  · refine (byRnd (envAny R (sA v) (sB v) (sC v) v hv hok) (f := 3) (fi := fi3) (by kernel_rfl) blk3c 1000 (vr3c3 R (sA v) (sB v) (sC v) v _ _ _ _ _ _ (fun e st' => e = .exit 2 ∧ Fit 1 (fam3c (sA v) (sB v) (sC v) v 3) st')) ⟨rfl, fit3c rfl (tl3c rfl rfl rfl rfl rfl)⟩).mono ?_
    rintro e st' ⟨rfl, hF⟩
    exact ⟨_, hF, rfl, rfl⟩
structure StrsAt (v : List UInt8) (h : Rows) : Prop where
  hh : h = [strs (sA v) (sB v) (sC v)]
structure VOK (v : List UInt8) : Prop where
  l : v.length ≤ 60
  ok : OkV v
def spec3c : LoopSp := fun st k => match nthV st.tmps 3 with
  | .str v => (nthV st.tmps 77 = .sl false 0 0 3 .tight ∧ nthV st.tmps 78 = .int .i64 3 ∧ nthV st.tmps 79 = .int .i64 0 ∧ st.tmps.length = 150 ∧ StrsAt v st.rows ∧ VOK v) ∧ k .normal ⟨tm3c v 3, [strs (sA v) (sB v) (sC v)]⟩
  | _ => False
theorem spec3c_ok (R : Nat → RoRow) : ∀ st k, spec3c st k → Safe Try.prog R (.block 2 (.loop lp3c)) st k := by
  rintro ⟨T0, H0⟩ k hk
  unfold spec3c at hk
  split at hk
  · rename_i v e3
    obtain ⟨⟨h77, h78, h79, hl, ⟨hh⟩, ⟨hv, hok⟩⟩, hk⟩ := hk
    have hh : H0 = [strs (sA v) (sB v) (sC v)] := hh
    subst hh
    have hV : StV some (fam3c (sA v) (sB v) (sC v) v 0) ⟨T0, [strs (sA v) (sB v) (sC v)]⟩ := by
      refine ⟨View.of ?_ (fun c c' b _ _ e1 e2 => by cases e1; cases e2; rfl), tl3c e3 h77 h78 h79 hl⟩
      intro c' o ho
      have hc : c' < 1 := (List.getElem?_eq_some_iff.1 ho).1
      show ViewL some 1 _ c' o
      obtain rfl : c' = 0 := by omega
      cases ho
      exact ViewL.at_ (b := 0) rfl rfl (strs_ok _ _ _)
    have h := loop_block (P := Try.prog) (R := R) (I := {m : Nat // m ≤ 3}) (fam := fun m => fam3c (sA v) (sB v) (sC v) v m.1) (fun m => 3 - m.1) (X := fun e stE => e = .exit 2 ∧ stE = fam3c (sA v) (sB v) (sC v) v 3) (id := 2)
      (i0 := ⟨0, by omega⟩) (st := ⟨T0, [strs (sA v) (sB v) (sC v)]⟩) (f := some) hV (fun _ _ => rfl) (fun _ => Nat.le_refl _) (round3c R v hv hok)
    refine h.mono ?_
    rintro e st ⟨e0, rfl, rfl, rfl⟩
    exact hk
  · exact hk.elim
noncomputable abbrev env3 (R : Nat → RoRow) (s : List UInt8) : Env Prop := (((base R).addCall 8 isTrue).addLoop 3 0 (spec3a s)).addLoop 3 2 spec3c
theorem env3_ok (R : Nat → RoRow) (s : List UInt8) : EnvOK Try.prog (env3 R s) id :=
  (((base_ok R).addCall (f := 8) (fi := fi8) (by kernel_rfl) (isTrue_ok (safe8 R))).addLoop (f := 3) (fi := fi3) (by kernel_rfl) (body := .loop lp3) blk3 (spec3a_ok R s)).addLoop (f := 3) (fi := fi3) (by kernel_rfl) (body := .loop lp3c) blk3c (spec3c_ok R)
end Go.Dc.Kl
