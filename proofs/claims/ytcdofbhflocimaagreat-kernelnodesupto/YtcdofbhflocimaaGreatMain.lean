/-
  PROVED: for every input of bulk at most 1048576 the law KernelNodes of the package peculiumlaw08 returns true, and its three arguments read afterwards as they read before (the given statement KernelNodesUptoSaid). CONDITIONS: those of the statement alone: the second form's bound. By AI agents; no person has read it.
-/
import Derived.Test.YtcdofbhflocimaaGreatT21
set_option linter.unusedVariables false
set_option linter.unusedSimpArgs false
set_option linter.unusedSectionVars false
section
namespace Go.Proofs.YtcdofbhflocimaaGreat.kernelNodes
open Go.ChangeShapes Go.WideShapes Go.ChangeAt Go.RowKit Go.Lg
theorem params3 : Tryz.f3.params = #[30, 31, 32] := rfl
theorem bulkAll (H : Type) (l : List (DataW H)) (hk : Rows.uptoSmall H l = true) : Rows.uptoBulkAll l ≤ 1048576 := of_decide_eq_true hk
theorem same_at {w w' : World} (hold : ∀ B, B < w.heap.size → w'.heap[B]? = w.heap[B]?) {p : MemPlace} (hp : p.block < w.heap.size) : w.sameAt w' p := by
  cases p with
  | cell b o => exact cell?_get (hold b hp)
  | map b => exact hold b hp
set_option maxRecDepth 100000 in
theorem contract (H : Type) (enc : TypeId × Value → H) (W : World) (base : Nat) (args : Array Value) (ds gs : List (DataW H)) (before : List MemPlace)
    (hval : ∀ (j : Nat) t v, Tryz.f3.params[j]? = some t → args[j]? = some v → Value.okWide Tryz.prog W .any base t v)
    (hW : DataW.Whole enc Tryz.prog Tryz.f3.params.toList Rows.kernelNodesSpec.vars false W args.toList ds gs before) (hk : Rows.uptoSmall H (ds ++ gs) = true) :
    Calls Tryz.prog 3 args W fun e W' => ∃ v, e = .returned v ∧ Rows.kernelNodesSpec.post enc Tryz.prog Tryz.f3 false true false false W args v W' := by
  have hW' := hW
  obtain ⟨p, q, hA0, hV, rfl, hfz, hnd⟩ := hW
  have hA : DataW.TrodAll enc Tryz.prog W 0 (fun _ => true) true Tryz.f3.params.toList args.toList ds p := hA0
  rw [params3] at hA hval
  obtain ⟨v0, vs0, d0, ds0, p0, q0, hargs, rfl, rfl, h0, r0⟩ := trodAll_cons hA
  obtain ⟨v1, vs1, d1, ds1, p1, q1, hargs1, rfl, rfl, h1, r1⟩ := trodAll_cons r0
  obtain ⟨v2, vs2, d2, ds2, p2, q2, hargs2, rfl, rfl, h2, r2⟩ := trodAll_cons r1
  obtain ⟨rfl, rfl, rfl⟩ := trodAll_nil r2
  subst hargs1; subst hargs2
  obtain rfl : args = #[v0, v1, v2] := by cases args; simp_all
  obtain ⟨rfl, rfl⟩ := trodVars_none hV
  have hb := bulkAll _ _ hk
  simp only [List.append_nil, Rows.uptoBulkAll] at hb
  obtain ⟨c0, rfl, _⟩ := okWide_struct Tryz.underlying30 (hval 0 30 v0 rfl rfl)
  obtain ⟨a1, l1, k1, rfl⟩ := okWide_slice Tryz.underlying31 (hval 1 31 v1 rfl rfl)
  have hv2 := hval 2 32 v2 rfl rfl
  obtain ⟨c2, rfl, _⟩ : ∃ cs, v2 = .agg cs ∧ cs.size = Tryz.prog.cellsOf 32 := by
    simp only [Value.okWide, Tryz.underlying32] at hv2
    obtain ⟨cs, e1, e2, _⟩ := hv2
    exact ⟨cs, e1, e2⟩
  have h00 := h0; have h11 := h1; have h22 := h2
  obtain ⟨n0, h0⟩ := h0
  obtain ⟨n1, h1⟩ := h1
  obtain ⟨n2, h2⟩ := h2
  obtain ⟨P, x0, s0⟩ := rd_proof (G := G1 W) (row_lim W) n0 _ _ _ h0
  obtain ⟨l, x1, s1⟩ := rd_bytes (G := G1 W) (row_lim W) _ _ _ h1
  obtain ⟨⟨a, b⟩, x2, s2⟩ := rd_two (G := G1 W) _ _ _ h2
  have s0 := s0 (by omega)
  have s1 := s1 (by omega)
  have s2 := s2 (by omega)
  have y0 : VR W (G1 W) (encP P) (.agg c0) := by
    rw [encP_eq]
    have x0 : VRs W (G1 W) (encP P).cells (Value.agg c0).cells.toList := x0
    rw [encP_cells] at x0
    exact .agg _ _ (by have := x0.1; simpa [Value.cells] using this) fun j x v hx hv => x0.2 j x v hx (by simpa [Value.cells] using hv)
  have y1 : VR W (G1 W) (slc (l.map enc8)) (.slice a1 l1 k1) := x1.2 0 _ _ rfl rfl
  have y2 : VR W (G1 W) (.agg [enc8 a, enc8 b]) (.agg c2) := .agg _ _ (by have := x2.1; simpa [Value.cells] using this) fun j x v hx hv => x2.2 j x v hx (by simpa [Value.cells] using hv)
  have hvs : VRs W (G1 W) [encP P, slc (l.map enc8), .agg [enc8 a, enc8 b]] (#[Value.agg c0, .slice a1 l1 k1, .agg c2] : Array Value).toList :=
    vrs_app (vrs_one y0) (vrs_app (vrs_one y1) (vrs_one y2))
  have key := (nodes_calls P s0 l s1.1 s1.2 a b s2.1 s2.2 W _ hvs).calls room_wide
  refine key.mono fun e W' ⟨he, hsz, hold, hn⟩ => ?_
  subst he
  have hlt : ∀ p ∈ p0 ++ (p1 ++ (p2 ++ [])) ++ [], p.block < W.heap.size := fun p hp => hW'.lt p hp
  refine ⟨_, rfl, post_of_same (pa := p0 ++ (p1 ++ (p2 ++ []))) (pv := []) hW' (fun _ _ _ => (trodAll_cons_mk (shut_bool Tryz.underlying4 _) trodAll_mk0)) (fun sp hsp => ?_) (fun _ _ => rfl) rfl
    (kept hsz hold hn _) hn.2.2 (ok_one (by kernel_rfl) rfl (okWide_bool_mk Tryz.underlying4 _))⟩
  have st : ∀ {t : TypeId} {v : Value} {d : DataW H} {ps : List MemPlace} (hr : Tryz.prog.readableRec t = true) (ht : t < Tryz.prog.types.size) (h : DataW.Trod enc Tryz.prog W 0 (fun _ => true) true t v d ps) (hs : ∀ p ∈ ps, p ∈ p0 ++ (p1 ++ (p2 ++ [])) ++ []), DataW.Trod enc Tryz.prog W' 0 sp true t v d ps :=
    fun {t v d ps} hr ht h hs => WideElems.Trod_stays laid hr ht h (fun p hp => same_at hold (hlt p (hs p hp))) (fun p hp => hsp p (hs p hp))
  exact trodAll_cons_mk (st rr30 lt30 h00 fun p hp => by simp [hp]) (trodAll_cons_mk (st rr31 lt31 h11 fun p hp => by simp [hp]) (trodAll_cons_mk (st rr32 lt32 h22 fun p hp => by simp [hp]) trodAll_mk0))
set_option maxRecDepth 100000 in
theorem lifted (os : Os) (started : os.Started) (H : Type) (enc : TypeId × Value → H) (F : Stop.Interp) :
    ReturnsInHanded {} Tryz.checked os 3 .any ((Rows.OpenSpec.upto Rows.kernelNodesSpec).pre6 enc Tryz.prog Tryz.f3 Rows.kernelNodesUptoRow.domain false) (((Rows.OpenSpec.upto Rows.kernelNodesSpec).at F).post enc Tryz.prog Tryz.f3 false true false false) := by
  refine returnsInHanded_of_cond (C := Tryz.checked) (s := Rows.OpenSpec.upto Rows.kernelNodesSpec) (k := Rows.uptoSmall) rfl own started (by kernel_rfl) Tryz.func3
    (OpenSpec.witness (enc := enc) (C := Tryz.checked) (s := Rows.OpenSpec.upto Rows.kernelNodesSpec) (k := Rows.uptoSmall) rfl false
      ⟨#[], #[.agg #[.int .i64 0, .int .i64 0, .slice none 0 0, .int .i64 0, .int .i64 0, .string ⟨#[]⟩, .slice none 0 0, .slice none 0 0, .slice none 0 0, .slice none 0 0], .slice none 0 0, .agg #[.int .u8 0, .int .u8 0]], []⟩ 8 (by kernel_rfl) (by kernel_rfl) (by kernel_rfl)
      (x := ([.agg [.lit (.int .i64 0), .lit (.int .i64 0), .nil, .agg [.lit (.int .i64 0), .lit (.int .i64 0), .lit (.string []), .nil], .nil, .nil, .nil], .nil, .agg [.lit (.int .u8 0), .lit (.int .u8 0)]], [], [])) (by kernel_rfl) rfl (by kernel_rfl)) ?_
  intro W base args ds gs before hval hW _ hk _
  exact contract H enc W base args ds gs before hval hW hk
theorem over : Rows.kernelNodesUptoRow.holds Tryz.pinned (Rows.OpenSpec.upto Rows.kernelNodesSpec) :=
  OpenClaim.holds_of_cond 3 Tryz.f3 rfl rfl rfl rfl rfl rfl rfl ⟨rfl, rfl, rfl, rfl, rfl⟩ rfl rfl rfl rfl rfl (by kernel_rfl) Tryz.func3 (by kernel_rfl)
    (of_decide_eq_true (by kernel_rfl)) (by unfold Func.isWrapper; first | (rw [if_pos (by decide +kernel)]; kernel_rfl) | (rw [if_neg (by decide +kernel)]; exact ⟨rfl, rfl⟩))
    (fun os started H enc _ F => lifted os started H enc F)
theorem proved : Rows.KernelNodesUptoSaid :=
  over
end Go.Proofs.YtcdofbhflocimaaGreat.kernelNodes
end
