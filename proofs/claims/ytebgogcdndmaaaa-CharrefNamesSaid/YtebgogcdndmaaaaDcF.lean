/- What one operation that changes no memory answers, and that the program answers so. -/
import Derived.Test.YtebgogcdndmaaaaDcE
set_option linter.unusedSimpArgs false
set_option linter.unusedVariables false
namespace Go.Dc

theorem mapM_places {P : Program} : ∀ (fs : List Field), (∀ f ∈ fs, ∃ i, P.info? f.type = some i) →
    fs.mapM (fun f => (P.info? f.type).map fun i => (f.offset, i.size)) = some (fs.map fun f => (f.offset, ((P.info? f.type).map (·.size)).getD 0))
  | [], _ => rfl
  | f :: fs, h => by
    obtain ⟨i, hi⟩ := h f List.mem_cons_self
    have ih := mapM_places fs (fun g hg => h g (List.mem_cons_of_mem _ hg))
    simp [List.mapM_cons, hi, ih]

theorem abuild_ok {T : TypeId → Option TI} {P : Program} (hT : TabOK P T) {m : Map} {n : Nat} {w : World} (t : TypeId) (parts : List (Nat × AV)) (ps : Array (Nat × Value))
    (h1 : ps.toList.map (·.1) = parts.map (·.1)) (h2 : DenL m n (parts.map (·.2)) (ps.toList.map (·.2))) : (abuild T t parts).sat m n P w (Instr.build t ps) := by
  refine QR.sat_of fun a ha => ?_
  unfold abuild at ha
  cases hti : T t with
  | none => rw [hti] at ha; exact ha.elim
  | some ti =>
    rw [hti] at ha
    obtain ⟨d, hr, hu, hk⟩ := (hT _ _ hti).run_underlying w
    obtain ⟨i, hi, hsz, hby, z, hz, hzd⟩ := (hT _ _ hti).info
    have hzc : DenL m n ti.zv.cells z.cells.toList := Den.cells (hT _ _ hti).zk (hzd m n)
    simp only [] at ha
    split at ha
    · rename_i fs hkd
      rw [hkd] at hk; simp only [KdOK] at hk
      obtain ⟨fa, rfl, rfl⟩ := hk
      split at ha
      · rename_i hall
        cases hf : afill (places ti.kd 0) ti.zv.cells parts with
        | none => rw [hf] at ha; exact ha.elim
        | some cs =>
          rw [hf] at ha
          cases ha
          obtain ⟨r, hfr, hd⟩ := fill_ok (places ti.kd 0) parts ps.toList _ cs _ hzc h1 h2 hf
          refine ⟨.agg r, run_build w t ps r ?_, by simp only [Den]; exact ⟨r, rfl, hd⟩⟩
          have hex : ∀ f ∈ fa.toList, ∃ i, P.info? f.type = some i := by
            intro f hfm
            simp only [List.all_eq_true, List.mem_map] at hall
            have := hall _ ⟨f, hfm, rfl⟩
            simp only [] at this
            cases hft : T f.type with
            | none => rw [hft] at this; simp at this
            | some tf =>
              obtain ⟨j, hj, _⟩ := (hT _ _ hft).info
              exact ⟨j, hj⟩
          simp only [Program.built, hi, hu, hz, mapM_places _ hex]
          rw [← hfr]
          congr 1
          funext k
          simp [places, hkd]
          cases fa[k]? <;> simp
      · exact ha.elim
    · rename_i nn e hkd
      rw [hkd] at hk; simp only [KdOK] at hk; subst hk
      cases hte : T e with
      | none => rw [hte] at ha; exact ha.elim
      | some te =>
        rw [hte] at ha
        simp only [] at ha
        cases hf : afill (places ti.kd te.size) ti.zv.cells parts with
        | none => rw [hf] at ha; exact ha.elim
        | some cs =>
          rw [hf] at ha
          cases ha
          obtain ⟨r, hfr, hd⟩ := fill_ok (places ti.kd te.size) parts ps.toList _ cs _ hzc h1 h2 hf
          refine ⟨.agg r, run_build w t ps r ?_, by simp only [Den]; exact ⟨r, rfl, hd⟩⟩
          obtain ⟨j, hj, hjs, _⟩ := (hT _ _ hte).info
          simp only [Program.built, hi, hu, hz, hj]
          rw [← hfr]
          congr 1
          funext k
          simp [places, hkd, hjs]
    · exact ha.elim

/-! ### One quiet operation -/
def evQ (T : TypeId → Option TI) (R : Nat → RoRow) (h : Rows) (ev : Operand → AV) (o : Oper) : QR :=
  match o.op with
  | .move x | .assign x => .ok (ev x)
  | .nilCheck x => match ev x with
    | .ptr ro b i j => .ok (.ptr ro b i j)
    | .fn f p q => .ok (.fn f p q)
    | .ifc t x => .ok (.ifc t x)
    | _ => .no
  | .binOp op t x y _ => abin T op t (ev x) (ev y)
  | .unOp op _ x => aunary op (ev x)
  | .convert s d x => aconv T h s d (ev x)
  | .makeInterface t x => match T t with
    | some ti => match ti.kd with | .iface | .other => .no | _ => .ok (.ifc t (ev x))
    | none => .no
  | .makeFunc (.func f) first cap => .ok (.fn f (first.toList.map ev) (cap.toList.map ev))
  | .fieldAddr s x f => afieldAddr T s (ev x) f
  | .field t x f => afieldOf T t (ev x) f
  | .indexAddr t x i => aindexAddr T R h t (ev x) (ev i)
  | .index t x i => aindex T t (ev x) (ev i)
  | .load t a => aload T R h t (ev a)
  | .extract x i => match ev x with
    | .tup l => match l[i]? with | some v => .ok v | none => .no
    | _ => .no
  | .build t parts => abuild T t (parts.toList.map fun p => (p.1, ev p.2))
  | .slice t x lo hi mx => aslice T R h t (ev x) (lo.map ev) (hi.map ev) (mx.map ev)
  | .call { callee := .builtin .len, args, argTypes } => match argTypes.toList, args.toList with
    | t :: _, x :: _ => alen T t (ev x)
    | _, _ => .no
  | .call { callee := .builtin .min, args, .. } => aminmax false (args.toList.map ev)
  | .call { callee := .builtin .max, args, .. } => aminmax true (args.toList.map ev)
  | _ => .no

/-- The operation runs, changes nothing, and answers so. -/
def QR.run (m : Map) (n : Nat) (P : Program) (w : World) (s : Sem Next) (q : QR) : Prop :=
  ∀ v, q.has v → ∃ c, s.run P w = .ok (.value c) w ∧ Den m n v c

theorem QR.sat.run {m : Map} {n : Nat} {P : Program} {w : World} {s : Sem Value} {q : QR} (h : q.sat m n P w s) : q.run m n P w (do pure (.value (← s))) := by
  intro v hv
  have : ∃ c, s.run P w = .ok c w ∧ Den m n v c := by
    cases q with
    | no => exact hv.elim
    | ok u => cases hv; exact h
    | ck c u => obtain ⟨h1, rfl⟩ := hv; exact h h1
  obtain ⟨c, hc, hd⟩ := this
  exact ⟨c, by simp [hc, pure, Sem.run], hd⟩

theorem DenL.map_op {m : Map} {n : Nat} {ev : Operand → AV} {ρ : Operand → Value} (hev : ∀ x, Den m n (ev x) (ρ x)) : ∀ (l : List Operand), DenL m n (l.map ev) (l.map ρ)
  | [] => by simp [DenL]
  | x :: l => by
    simp only [List.map_cons, DenL]
    exact ⟨_, _, rfl, hev x, DenL.map_op hev l⟩

theorem evQ_ok {T : TypeId → Option TI} {P : Program} (hT : TabOK P T) {R : Nat → RoRow} {m : Map} {h : Rows} {w : World} (hW : WR R m h w) (ev : Operand → AV) (ρ : Operand → Value)
    (hev : ∀ x, Den m h.length (ev x) (ρ x)) (o : Oper) : (evQ T R h ev o).run m h.length P w (execOp ρ o) := by
  obtain ⟨dst, op, type, pos, after, guard⟩ := o
  cases op
  case move x => intro v hv; cases hv; exact ⟨ρ x, rfl, hev x⟩
  case assign x => intro v hv; cases hv; exact ⟨ρ x, rfl, hev x⟩
  case nilCheck x =>
    intro v hv
    simp only [evQ] at hv
    have hx := hev x
    split at hv
    · rename_i he
      cases hv
      rw [he] at hx
      have hx' := hx
      simp only [Den] at hx
      obtain ⟨_, _, e⟩ := hx
      exact ⟨ρ x, by simp [execOp, e, pure, Sem.run], hx'⟩
    · rename_i he
      cases hv
      rw [he] at hx
      have hx' := hx
      simp only [Den] at hx
      obtain ⟨_, _, e, _⟩ := hx
      exact ⟨ρ x, by simp [execOp, e, pure, Sem.run], hx'⟩
    · rename_i he
      cases hv
      rw [he] at hx
      have hx' := hx
      simp only [Den] at hx
      obtain ⟨_, e, _⟩ := hx
      exact ⟨ρ x, by simp [execOp, e, pure, Sem.run], hx'⟩
    · exact hv.elim
  case binOp op t x y yt => exact (abin_ok hT m h.length w op t x y _ _ _ _ (hev x) (hev y)).run
  case unOp op t x => exact (aunary_ok op _ _ (hev x)).run
  case convert s d x => exact (aconv_ok hT hW s d _ _ (hev x)).run
  case makeInterface t x =>
    intro v hv
    simp only [evQ] at hv
    cases hti : T t with
    | none => rw [hti] at hv; exact hv.elim
    | some ti =>
      rw [hti] at hv
      obtain ⟨d, hr, hu, hk⟩ := (hT _ _ hti).run_underlying w
      simp only [] at hv
      split at hv
      · exact hv.elim
      · exact hv.elim
      · rename_i h1 h2
        cases hv
        refine ⟨.iface t (ρ x), ?_, by simp only [Den]; exact ⟨_, rfl, hev x⟩⟩
        simp only [execOp, Sem.run_bind, Instr.makeInterface, hr, Result.andThen_ok]
        cases hkd : ti.kd <;> simp only [hkd, KdOK] at hk
        case iface => exact absurd hkd h1
        case other => exact absurd hkd h2
        all_goals first
          | (subst hk; simp [pure, Sem.run]; done)
          | (obtain ⟨_, rfl, _⟩ := hk; simp [pure, Sem.run]; done)
          | (obtain ⟨_, _, _, rfl⟩ := hk; simp [pure, Sem.run]; done)
  case makeFunc fn first cap =>
    cases fn <;> simp only [evQ] <;> first | (intro v hv; exact hv.elim) | skip
    rename_i f
    intro v hv
    cases hv
    refine ⟨.func (.func f) (first.map ρ) (cap.map ρ), by simp [execOp, Instr.makeFunc, pure, Sem.run], ?_⟩
    simp only [Den]
    exact ⟨_, _, rfl, by simpa using DenL.map_op hev first.toList, by simpa using DenL.map_op hev cap.toList⟩
  case fieldAddr s x f => exact (afieldAddr_ok hT s _ f _ (hev x)).run
  case field t x f => exact (afieldOf_ok hT t _ f _ (hev x)).run
  case indexAddr t x i => exact (aindexAddr_ok hT hW t _ _ _ _ (hev x) (hev i)).run
  case index t x i => exact (aindex_ok hT t _ _ _ _ (hev x) (hev i)).run
  case load t a => exact (aload_ok hT hW t _ _ (hev a)).run
  case extract x i =>
    intro v hv
    simp only [evQ] at hv
    split at hv
    · rename_i l he
      have hx := hev x
      rw [he] at hx
      simp only [Den] at hx
      obtain ⟨vs, e, hd⟩ := hx
      cases hg : l[i]? with
      | none => rw [hg] at hv; exact hv.elim
      | some a =>
        rw [hg] at hv
        cases hv
        obtain ⟨u, hu, hdu⟩ := hd.get hg
        have hu' : vs[i]? = some u := by simpa using hu
        exact ⟨u, by simp [execOp, Instr.extract, e, hu', pure, Sem.run], hdu⟩
    · exact hv.elim
  case build t parts =>
    refine (abuild_ok hT t _ (parts.map fun (i, x) => (i, ρ x)) ?_ ?_).run
    · simp
    · have := DenL.map_op hev (parts.toList.map (·.2))
      simpa [Function.comp_def] using this
  case slice t x lo hi mx =>
    have aux : ∀ (p : Option Operand), (∀ a, p.map ev = some a → ∃ v, p.map ρ = some v ∧ Den m h.length a v) ∧ (p.map ev = none → p.map ρ = none) := by
      intro p
      cases p with
      | none => simp
      | some y => simp; exact hev y
    exact (aslice_ok hT hW t _ _ _ _ _ _ _ _ (hev x) (aux lo).1 (aux lo).2 (aux hi).1 (aux hi).2 (aux mx).1 (aux mx).2).run
  case call c =>
    obtain ⟨callee, args, argTypes⟩ := c
    cases callee
    case value f => intro v hv; exact hv.elim
    case invoke r mm => intro v hv; exact hv.elim
    case builtin b =>
      cases b <;> try (intro v hv; exact hv.elim)
      case len =>
        intro v hv
        simp only [evQ] at hv
        split at hv
        · rename_i t ts x xs ht hx
          have hl := (alen_ok hT (m := m) (n := h.length) (w := w) t type ts _ _ (xs.map ρ) (hev x)).run v hv
          obtain ⟨c, hc, hd⟩ := hl
          refine ⟨c, ?_, hd⟩
          have e1 : argTypes = (t :: ts).toArray := by rw [← ht]
          have e2 : args.map ρ = (ρ x :: xs.map ρ).toArray := by
            rw [show args = (x :: xs).toArray by rw [← hx]]; simp
          simp only [execOp, resolve, Sem.run_bind, Sem.run_pure, Result.andThen_ok, invoke, builtin]
          rw [e1, e2]
          simpa using hc
        · exact hv.elim
      case min =>
        intro v hv
        have hl := (amin_ok (P := P) (m := m) (n := h.length) (w := w) argTypes type (args.toList.map ev) (args.map ρ) (by simpa using DenL.map_op hev args.toList)).run v hv
        obtain ⟨c, hc, hd⟩ := hl
        refine ⟨c, ?_, hd⟩
        simp only [execOp, resolve, Sem.run_bind, Sem.run_pure, Result.andThen_ok, invoke, builtin]
        simpa using hc
      case max =>
        intro v hv
        have hl := (amax_ok (P := P) (m := m) (n := h.length) (w := w) argTypes type (args.toList.map ev) (args.map ρ) (by simpa using DenL.map_op hev args.toList)).run v hv
        obtain ⟨c, hc, hd⟩ := hl
        refine ⟨c, ?_, hd⟩
        simp only [execOp, resolve, Sem.run_bind, Sem.run_pure, Result.andThen_ok, invoke, builtin]
        simpa using hc
  all_goals (intro v hv; exact hv.elim)

end Go.Dc
