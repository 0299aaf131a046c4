/- Part 14 of the proof: Sn2 Sn3. By AI agents; no person has read it. -/
import Derived.Test.YtcdofbhflocimaaGreatT8
import Derived.Test.YtcdofbhflocimaaGreatT9
import Derived.Test.YtcdofbhflocimaaGreatT10
import Derived.Test.YtcdofbhflocimaaGreatT11
import Derived.Test.YtcdofbhflocimaaGreatT12
import Derived.Test.YtcdofbhflocimaaGreatT13
set_option linter.unusedVariables false
set_option linter.unusedSimpArgs false
set_option linter.unusedSectionVars false
section
set_option maxRecDepth 100000
namespace Go.Lg
open Go.Proofs.Tryz
theorem seq_step {L : Look} {pr : Prim} {m : Nat} {rnd : Bool} {a b : Code} {s s' : LAct} {σ σ' : LH} (h : (ev L pr m).c rnd a s σ = some (.normal, s', σ')) : (ev L pr (m + 1)).c rnd (.seq a b) s σ = (ev L pr m).c rnd b s' σ' := by
  show stepC L (ev L pr m) rnd (.seq a b) s σ = _
  simp only [stepC, h]
theorem sD21 : (ev look8 prC 2979).c false (dropSeq 21 (bodyOf f4)) sT21 sS21 = some (.ret, sT22, sS22) := sP21
theorem sD20 : (ev look8 prC 2980).c false (dropSeq 20 (bodyOf f4)) sT20 sS20 = some (.ret, sT22, sS22) := by
  have e : dropSeq 20 (bodyOf f4) = .seq (nthSeq 20 (bodyOf f4)) (dropSeq 21 (bodyOf f4)) := by kernel_rfl
  rw [e]; exact (seq_step sP20).trans sD21
theorem sD19 : (ev look8 prC 2981).c false (dropSeq 19 (bodyOf f4)) sT19 sS19 = some (.ret, sT22, sS22) := by
  have e : dropSeq 19 (bodyOf f4) = .seq (nthSeq 19 (bodyOf f4)) (dropSeq 20 (bodyOf f4)) := by kernel_rfl
  rw [e]; exact (seq_step sP19).trans sD20
theorem sD18 : (ev look8 prC 2982).c false (dropSeq 18 (bodyOf f4)) sT18 sS18 = some (.ret, sT22, sS22) := by
  have e : dropSeq 18 (bodyOf f4) = .seq (nthSeq 18 (bodyOf f4)) (dropSeq 19 (bodyOf f4)) := by kernel_rfl
  rw [e]; exact (seq_step sP18).trans sD19
theorem sD17 : (ev look8 prC 2983).c false (dropSeq 17 (bodyOf f4)) sT17 sS17 = some (.ret, sT22, sS22) := by
  have e : dropSeq 17 (bodyOf f4) = .seq (nthSeq 17 (bodyOf f4)) (dropSeq 18 (bodyOf f4)) := by kernel_rfl
  rw [e]; exact (seq_step sP17).trans sD18
theorem sD16 : (ev look8 prC 2984).c false (dropSeq 16 (bodyOf f4)) sT16 sS16 = some (.ret, sT22, sS22) := by
  have e : dropSeq 16 (bodyOf f4) = .seq (nthSeq 16 (bodyOf f4)) (dropSeq 17 (bodyOf f4)) := by kernel_rfl
  rw [e]; exact (seq_step sP16).trans sD17
theorem sD15 : (ev look8 prC 2985).c false (dropSeq 15 (bodyOf f4)) sT15 sS15 = some (.ret, sT22, sS22) := by
  have e : dropSeq 15 (bodyOf f4) = .seq (nthSeq 15 (bodyOf f4)) (dropSeq 16 (bodyOf f4)) := by kernel_rfl
  rw [e]; exact (seq_step sP15).trans sD16
theorem sD14 : (ev look8 prC 2986).c false (dropSeq 14 (bodyOf f4)) sT14 sS14 = some (.ret, sT22, sS22) := by
  have e : dropSeq 14 (bodyOf f4) = .seq (nthSeq 14 (bodyOf f4)) (dropSeq 15 (bodyOf f4)) := by kernel_rfl
  rw [e]; exact (seq_step sP14).trans sD15
theorem sD13 : (ev look8 prC 2987).c false (dropSeq 13 (bodyOf f4)) sT13 sS13 = some (.ret, sT22, sS22) := by
  have e : dropSeq 13 (bodyOf f4) = .seq (nthSeq 13 (bodyOf f4)) (dropSeq 14 (bodyOf f4)) := by kernel_rfl
  rw [e]; exact (seq_step sP13).trans sD14
theorem sD12 : (ev look8 prC 2988).c false (dropSeq 12 (bodyOf f4)) sT12 sS12 = some (.ret, sT22, sS22) := by
  have e : dropSeq 12 (bodyOf f4) = .seq (nthSeq 12 (bodyOf f4)) (dropSeq 13 (bodyOf f4)) := by kernel_rfl
  rw [e]; exact (seq_step sP12).trans sD13
theorem sD11 : (ev look8 prC 2989).c false (dropSeq 11 (bodyOf f4)) sT11 sS11 = some (.ret, sT22, sS22) := by
  have e : dropSeq 11 (bodyOf f4) = .seq (nthSeq 11 (bodyOf f4)) (dropSeq 12 (bodyOf f4)) := by kernel_rfl
  rw [e]; exact (seq_step sP11).trans sD12
theorem sD10 : (ev look8 prC 2990).c false (dropSeq 10 (bodyOf f4)) sT10 sS10 = some (.ret, sT22, sS22) := by
  have e : dropSeq 10 (bodyOf f4) = .seq (nthSeq 10 (bodyOf f4)) (dropSeq 11 (bodyOf f4)) := by kernel_rfl
  rw [e]; exact (seq_step sP10).trans sD11
theorem sD9 : (ev look8 prC 2991).c false (dropSeq 9 (bodyOf f4)) sT9 sS9 = some (.ret, sT22, sS22) := by
  have e : dropSeq 9 (bodyOf f4) = .seq (nthSeq 9 (bodyOf f4)) (dropSeq 10 (bodyOf f4)) := by kernel_rfl
  rw [e]; exact (seq_step sP9).trans sD10
theorem sD8 : (ev look8 prC 2992).c false (dropSeq 8 (bodyOf f4)) sT8 sS8 = some (.ret, sT22, sS22) := by
  have e : dropSeq 8 (bodyOf f4) = .seq (nthSeq 8 (bodyOf f4)) (dropSeq 9 (bodyOf f4)) := by kernel_rfl
  rw [e]; exact (seq_step sP8).trans sD9
theorem sD7 : (ev look8 prC 2993).c false (dropSeq 7 (bodyOf f4)) sT7 sS7 = some (.ret, sT22, sS22) := by
  have e : dropSeq 7 (bodyOf f4) = .seq (nthSeq 7 (bodyOf f4)) (dropSeq 8 (bodyOf f4)) := by kernel_rfl
  rw [e]; exact (seq_step sP7).trans sD8
theorem sD6 : (ev look8 prC 2994).c false (dropSeq 6 (bodyOf f4)) sT6 sS6 = some (.ret, sT22, sS22) := by
  have e : dropSeq 6 (bodyOf f4) = .seq (nthSeq 6 (bodyOf f4)) (dropSeq 7 (bodyOf f4)) := by kernel_rfl
  rw [e]; exact (seq_step sP6).trans sD7
theorem sD5 : (ev look8 prC 2995).c false (dropSeq 5 (bodyOf f4)) sT5 sS5 = some (.ret, sT22, sS22) := by
  have e : dropSeq 5 (bodyOf f4) = .seq (nthSeq 5 (bodyOf f4)) (dropSeq 6 (bodyOf f4)) := by kernel_rfl
  rw [e]; exact (seq_step sP5).trans sD6
theorem sD4 : (ev look8 prC 2996).c false (dropSeq 4 (bodyOf f4)) sT4 sS4 = some (.ret, sT22, sS22) := by
  have e : dropSeq 4 (bodyOf f4) = .seq (nthSeq 4 (bodyOf f4)) (dropSeq 5 (bodyOf f4)) := by kernel_rfl
  rw [e]; exact (seq_step sP4).trans sD5
theorem sD3 : (ev look8 prC 2997).c false (dropSeq 3 (bodyOf f4)) sT3 sS3 = some (.ret, sT22, sS22) := by
  have e : dropSeq 3 (bodyOf f4) = .seq (nthSeq 3 (bodyOf f4)) (dropSeq 4 (bodyOf f4)) := by kernel_rfl
  rw [e]; exact (seq_step sP3).trans sD4
theorem sD2 : (ev look8 prC 2998).c false (dropSeq 2 (bodyOf f4)) sT2 sS2 = some (.ret, sT22, sS22) := by
  have e : dropSeq 2 (bodyOf f4) = .seq (nthSeq 2 (bodyOf f4)) (dropSeq 3 (bodyOf f4)) := by kernel_rfl
  rw [e]; exact (seq_step sP2).trans sD3
theorem sD1 : (ev look8 prC 2999).c false (dropSeq 1 (bodyOf f4)) sT1 sS1 = some (.ret, sT22, sS22) := by
  have e : dropSeq 1 (bodyOf f4) = .seq (nthSeq 1 (bodyOf f4)) (dropSeq 2 (bodyOf f4)) := by kernel_rfl
  rw [e]; exact (seq_step sP1).trans sD2
theorem sD0 : (ev look8 prC 3000).c false (dropSeq 0 (bodyOf f4)) sT0 sS0 = some (.ret, sT22, sS22) := by
  have e : dropSeq 0 (bodyOf f4) = .seq (nthSeq 0 (bodyOf f4)) (dropSeq 1 (bodyOf f4)) := by kernel_rfl
  rw [e]; exact (seq_step sP0).trans sD1
theorem runBody_of {L : Look} {e : Ev} {fn : FnL} {args : List LV} {σ : LH} {a1 : LAct} {σ1 : LH} {vs : List LV} (h : e.c false fn.body { tmps := enterTmps fn args, defers := [] } σ = some (.ret, a1, σ1)) (hd : a1.defers = []) (hr : resultsL L a1.tmps σ1 fn.results = some vs) : runBody L e fn args σ = some (.ret (tupleL vs), σ1) := by
  unfold runBody
  simp only [h, modeOf, hd, leaveL, hr]
theorem closedF_of {L : Look} {e : Ev} {fn : FnL} {args : List LV} {σ σ2 : LH} {out : LOut} {cr : CR} (hcl : (LV.refsOK 0 args && LV.toksOK 0 args) = true) (hb : runBody L e fn args { boxes := [], toks := [], ws := [] } = some (out, σ2)) (hf : closeF σ out σ2 = some cr) : closedF L e fn args σ = some cr := by
  unfold closedF
  rw [if_pos hcl]
  simp only [hb, hf]
theorem evf_closed {L : Look} {pr : Prim} {m : Nat} {g : FuncId} {fn : FnL} {σ : LH} {cr : CR} (hp : pr g ([] ++ [] ++ []) σ = none) (hf : L.fnOf g = some fn) (hc : closedF L (ev L pr m) fn [] σ = some cr) : (ev L pr (m + 1)).f (.func (.func g) [] []) [] σ = some cr := by
  show stepF L pr (ev L pr m) (.func (.func g) [] []) [] σ = _
  unfold stepF
  simp only [hp, hf]
  simp only [List.append_nil, List.map_nil, hc]
theorem sane_0 : (ev look8 prC 3000).c false fl4.body { tmps := enterTmps fl4 [], defers := [] } { boxes := [], toks := [], ws := [] } = some (.ret, sT22, sS22) := by
  have e : ({ tmps := enterTmps fl4 [], defers := [] } : LAct) = sT0 := by kernel_rfl
  have eb : fl4.body = dropSeq 0 (bodyOf f4) := by kernel_rfl
  rw [e, eb]; exact sD0
theorem sane_1 : resultsL look8 sT22.tmps sS22 fl4.results = some [.bool true] := by kernel_rfl
theorem sane_2 (σ : LH) : closeF σ (.ret (tupleL [.bool true])) sS22 = some (.still (.ret (.bool true))) := by kernel_rfl
theorem sane_3 : look8.fnOf 4 = some fl4 := by kernel_rfl
theorem sane_4 : sT22.defers = [] := by kernel_rfl
theorem sane_F (σ : LH) : (ev look8 prC (3000 + 1)).f (.func (.func 4) [] []) [] σ = some (.still (.ret (.bool true))) :=
  evf_closed (by kernel_rfl) sane_3 (closedF_of rfl (runBody_of sane_0 sane_4 sane_1) (sane_2 σ))
end Go.Lg
end
section
namespace Go.Lg
open Go.Proofs.Tryz
theorem sane_ex (σ : LH) : ∃ n, (ev look8 prC n).f (.func (.func 4) [] []) [] σ = some (.still (.ret (.bool true))) := Exists.intro (3000 + 1) (sane_F σ)
theorem sane_calls (w : World) (G : Gh) (hG : ∀ B, w.heap.size ≤ B → G.lim B = 0) : CallsIn Fence.wide 0 prog 4 #[] w (fun en w' => en = .returned (.bool true) ∧ ∃ lim : Nat → Nat, w.heap.size ≤ w'.heap.size ∧ (∀ B, B < w.heap.size → w'.heap[B]? = w.heap[B]?) ∧ (∀ B, B < w.heap.size → lim B = G.lim B) ∧ (∀ B, w'.heap.size ≤ B → lim B = 0) ∧ Nt w w') := by
  obtain ⟨n, hn⟩ := sane_ex s0
  have hS := ((ev_sound (lookOK mslS cfS) prC_ok n).2 _ _ _ _ hn).2
  let G0 : Gh := { mu := fun _ => none, lim := G.lim, tok := fun _ => none, top := 0, fix := w.heap.size }
  have hw0 : WR G0 s0 w :=
    ⟨⟨fun b B hb => by (cases hb), fun b b' B hb => by (cases hb), fun b B hb => by (cases hb), fun b o ho => by simp [s0] at ho, hG, fun k hk => by simp [s0] at hk, fun k k' B x x' hk => by simp [s0] at hk, fun k p hp => by (cases hp), Nat.le_refl _, fun b B hb => by (cases hb), fun k B x hk => by simp [s0] at hk, Nat.le_refl _⟩, fun b hb => by simp [s0] at hb⟩
  obtain ⟨nx, w1, hrun, hm⟩ := hS w G0 (.func (.func 4) #[] #[]) #[] hw0 (.func 4 [] [] #[] #[] rfl rfl (fun j x v hx => by simp at hx) (fun j x v hx => by simp at hx)) ⟨rfl, fun j x v hx => by simp at hx⟩
  have hr2 : (callSem (.func (.func 4) #[] #[]) #[]).run prog w = .ok (.enter 4 #[]) w := call_run (fs' := #[]) (cs' := #[]) (call4 #[] w)
  have : (callSem (.func (.func 4) #[] #[]) #[]).run prog w = .ok nx w1 := hrun
  rw [hr2] at this
  injection this with e1 e2
  subst e1; subst e2
  refine CallsIn.mono hm fun en w' hR => ?_
  cases en with
  | returned u =>
    obtain ⟨v, e1, G', h1, h2, h3⟩ := hR
    injection e1 with e1; subst e1
    cases h3
    exact ⟨rfl, G'.lim, Nat.le_trans h2.fix h1.fixh, fun B hB => h2.old B hB, fun B hB => h2.oldl B hB, h1.fresh, h2.nat⟩
  | panicked chain => obtain ⟨v, u, e1, _⟩ := hR; cases e1
  | outgrown => exact hR.elim
end Go.Lg
end
