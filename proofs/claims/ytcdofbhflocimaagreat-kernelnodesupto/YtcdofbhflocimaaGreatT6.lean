/- Part 6 of the proof: Sn0. By AI agents; no person has read it. -/
import Derived.KernelRfl
import Derived.Test.YtcdofbhflocimaaGreatT5
import Derived.Test.YtcdofbhflocimaaGreatT4
set_option linter.unusedVariables false
set_option linter.unusedSimpArgs false
set_option linter.unusedSectionVars false
section
set_option maxRecDepth 100000
namespace Go.Lg
open Go.Proofs.Tryz
noncomputable def mslS : TypeId → Option Tmp → Bool := fun t d => match d with
  | some k => Nat.beq t 28 && Nat.beq k 6
  | none => false
noncomputable def cfS : FuncId → Bool := fun g => Nat.beq g 11
noncomputable def look8 : Look := ⟨prog, tyT, fnT, mslS, cfS⟩
noncomputable def prC : Prim := fun g l _ => match Nat.beq g 54, l with
  | true, [.slice [] _ _] => some (.still (.ret (.slice [] .none none)))
  | _, _ => none
noncomputable def s0 : LH := ⟨[], [], []⟩
section
variable [Rel]
noncomputable def prN : Prim := fun _ _ _ => none
theorem prN_ok {L : Look} : PrimOK L prN := fun g args σ cr h => by cases h
theorem clone_nil (σ : LH) (nz : Bool) : closedF look (ev look prN 100) fl54 [.slice [] .none (some nz)] σ = some (.still (.ret (.slice [] .exact (some nz)))) := by
  cases nz <;> kernel_rfl
theorem clone_ok {σ : LH} {own : Own} {nz : Option Bool} : Mod σ ((CR.still (.ret (.slice [] .none none))).st σ) ∧ ∀ w G (avs : Array Value), WR G σ w → VRs w G [.slice [] own nz] avs.toList → CallsIn Fence.wide 0 prog 54 avs w (Rcall w G σ (.still (.ret (.slice [] .none none)))) ∧ (callFunc 54 avs).run prog w = .ok (.enter 54 avs) w := by
  refine ⟨Mod.refl _, fun w G avs hw hv => ⟨?_, call54 avs w⟩⟩
  obtain ⟨u, hu⟩ : ∃ u, avs.toList = [u] := by
    have := hv.1
    match h : avs.toList, this with
    | [u], _ => exact ⟨u, rfl⟩
  have hvu := hv.2 0 _ u rfl (by rw [hu]; rfl)
  obtain ⟨bz, hb⟩ : ∃ bz, VR w G (.slice [] .none (some bz)) u := by
    cases hvu with
    | slice xs own nz a cap s f hcap hnz hnil hsp hw hown h hv => exact ⟨a.isNone, .slice _ _ _ a cap s f hcap (fun b hb => by injection hb) hnil hsp hw trivial h hv⟩
  have hvs : VRs w G [.slice [] .none (some bz)] avs.toList := ⟨by rw [hu]; rfl, fun j x v hx hv => by
    rw [hu] at hv
    match j with
    | 0 => injection hx with hx; injection hv with hv; subst hx; subst hv; exact hb
    | j + 1 => cases hx⟩
  have hcl := (closed_sound (L := look) (lookOK _ _) (ev_sound (L := look) (lookOK _ _) prN_ok 100).1 (g := 54) (fn := fl54) (by kernel_rfl) (args := [.slice [] .none (some bz)]) (σ := σ) (clone_nil σ bz)).2 w G avs hw hvs
  refine CallsIn.mono hcl fun en w' hR => ?_
  cases en with
  | returned u' =>
    obtain ⟨v', e1, G', h1, h2, h3⟩ := hR
    injection e1 with e1; subst e1
    exact ⟨_, rfl, G', h1, h2, h3.canon⟩
  | panicked chain => obtain ⟨v', u', e1, _⟩ := hR; cases e1
  | outgrown => exact hR.elim
theorem prC_ok {a : TypeId → Option Tmp → Bool} {b : FuncId → Bool} : PrimOK ⟨prog, tyT, fnT, a, b⟩ prC := fun g args σ cr h => by
  unfold prC at h
  split at h
  · rename_i hg
    have hg := Nat.eq_of_beq_eq_true hg
    subst hg
    injection h with h; subst h
    exact clone_ok
  · cases h
end
instance (priority := 10) relT : Rel := ⟨true⟩
end Go.Lg
end
