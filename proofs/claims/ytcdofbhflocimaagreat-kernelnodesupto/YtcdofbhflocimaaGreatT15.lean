/- Part 15 of the proof: Kw1 Kw2 Kw3 Kt2 Kw4 Kt1 Kw5 Kw6 Kt3. By AI agents; no person has read it. -/
import Derived.Test.YtcdofbhflocimaaGreatT4
set_option linter.unusedVariables false
set_option linter.unusedSimpArgs false
set_option linter.unusedSectionVars false
section
set_option linter.unusedSimpArgs false
namespace Go.Lg
instance relF : Rel := ⟨false⟩
class Pl (L : Look) : Prop where
  cf : ∀ g, L.cf g = false
  msl : ∀ t d, L.msl t d = false
theorem isCf_pl {L : Look} [Pl L] (f : LV) : isCf L f = false := by
  unfold isCf
  split
  · exact Pl.cf _
  · rfl
theorem flF_pl {L : Look} [Pl L] (cf : LV → List LV → LH → Option CR) : flF L cf = cf := by
  funext f l σ
  simp only [flF, isCf_pl]
section
variable (L : Look) (pr : Prim)
def EvC (rnd : Bool) (c : Code) (a : LAct) (σ : LH) (r : LExit × LAct × LH) : Prop := ∃ n, ∀ m, n ≤ m → (ev L pr m).c rnd c a σ = some r
def EvF (f : LV) (args : List LV) (σ : LH) (cr : CR) : Prop := ∃ n, ∀ m, n ≤ m → (ev L pr m).f f args σ = some cr
def WC (rnd : Bool) (c : Code) (a : LAct) (σ : LH) (Q : LExit → LAct → LH → Prop) : Prop := ∃ x a' σ', EvC L pr rnd c a σ (x, a', σ') ∧ Q x a' σ'
end
def thenQ (K : LAct → LH → Prop) (Q : LExit → LAct → LH → Prop) : LExit → LAct → LH → Prop
  | .normal, a, σ => K a σ
  | e, a, σ => Q e a σ
def blockQ (id : Nat) (Q : LExit → LAct → LH → Prop) : LExit → LAct → LH → Prop
  | .exit id', a, σ => if id' = id then Q .normal a σ else Q (.exit id') a σ
  | e, a, σ => Q e a σ
variable {L : Look} {pr : Prim} {rnd : Bool} {a : LAct} {σ : LH} {Q : LExit → LAct → LH → Prop}
theorem ev_c (m : Nat) : (ev L pr (m + 1)).c = stepC L (ev L pr m) := rfl
theorem ev_f (m : Nat) : (ev L pr (m + 1)).f = stepF L pr (ev L pr m) := rfl
theorem EvC.mk {c : Code} {r : LExit × LAct × LH} (n : Nat) (h : ∀ m, n ≤ m → stepC L (ev L pr m) rnd c a σ = some r) : EvC L pr rnd c a σ r :=
  ⟨n + 1, fun m hm => by
    obtain ⟨k, rfl⟩ : ∃ k, m = k + 1 := ⟨m - 1, by omega⟩
    rw [ev_c]; exact h k (by omega)⟩
theorem EvF.mk {f : LV} {args : List LV} {cr : CR} (n : Nat) (h : ∀ m, n ≤ m → stepF L pr (ev L pr m) f args σ = some cr) : EvF L pr f args σ cr :=
  ⟨n + 1, fun m hm => by
    obtain ⟨k, rfl⟩ : ∃ k, m = k + 1 := ⟨m - 1, by omega⟩
    rw [ev_f]; exact h k (by omega)⟩
theorem WC.mono {c : Code} {Q' : LExit → LAct → LH → Prop} (h : WC L pr rnd c a σ Q) (hq : ∀ e a σ, Q e a σ → Q' e a σ) : WC L pr rnd c a σ Q' :=
  let ⟨x, a', σ', h1, h2⟩ := h; ⟨x, a', σ', h1, hq _ _ _ h2⟩
theorem WC_skip (h : Q .normal a σ) : WC L pr rnd .skip a σ Q := ⟨_, _, _, EvC.mk 0 fun m _ => rfl, h⟩
theorem WC_exit {id : Nat} (h : Q (.exit id) a σ) : WC L pr rnd (.exit id) a σ Q := ⟨_, _, _, EvC.mk 0 fun m _ => rfl, h⟩
theorem WC_ret (h : Q .ret a σ) : WC L pr rnd .ret a σ Q := ⟨_, _, _, EvC.mk 0 fun m _ => rfl, h⟩
theorem WC_seq {x y : Code} (h : WC L pr rnd x a σ (thenQ (fun a' σ' => WC L pr rnd y a' σ' Q) Q)) : WC L pr rnd (.seq x y) a σ Q := by
  obtain ⟨e, a', σ', ⟨n, hn⟩, hq⟩ := h
  cases e with
  | normal =>
    obtain ⟨e2, a2, σ2, ⟨n2, hn2⟩, hq2⟩ := hq
    refine ⟨e2, a2, σ2, EvC.mk (max n n2) fun m hm => ?_, hq2⟩
    simp only [stepC, hn m (by omega), hn2 m (by omega)]
  | exit id => exact ⟨_, a', σ', EvC.mk n fun m hm => by simp only [stepC, hn m hm], hq⟩
  | ret => exact ⟨_, a', σ', EvC.mk n fun m hm => by simp only [stepC, hn m hm], hq⟩
  | panic v => exact ⟨_, a', σ', EvC.mk n fun m hm => by simp only [stepC, hn m hm], hq⟩
theorem WC_cond {c : Operand} {x y : Code} {b : Bool} (hb : opv a.tmps c = some (.bool b)) (ht : b = true → WC L pr rnd x a σ Q) (hf : b = false → WC L pr rnd y a σ Q) : WC L pr rnd (.cond c x y) a σ Q := by
  cases b with
  | true =>
    obtain ⟨e, a', σ', ⟨n, hn⟩, hq⟩ := ht rfl
    exact ⟨e, a', σ', EvC.mk n fun m hm => by simp only [stepC, hb, if_true, hn m hm], hq⟩
  | false =>
    obtain ⟨e, a', σ', ⟨n, hn⟩, hq⟩ := hf rfl
    exact ⟨e, a', σ', EvC.mk n fun m hm => by simp only [stepC, hb, Bool.false_eq_true, if_false, hn m hm], hq⟩
theorem WC_block {id : Nat} {c : Code} (h : WC L pr rnd c a σ (blockQ id Q)) : WC L pr rnd (.block id c) a σ Q := by
  obtain ⟨e, a', σ', ⟨n, hn⟩, hq⟩ := h
  cases e with
  | normal => exact ⟨_, a', σ', EvC.mk n fun m hm => by simp only [stepC, hn m hm], hq⟩
  | exit id' =>
    by_cases hid : id' = id
    · simp only [blockQ, hid, if_true] at hq
      exact ⟨.normal, a', σ', EvC.mk n fun m hm => by simp only [stepC, hn m hm, hid, if_true], hq⟩
    · simp only [blockQ, hid, if_false] at hq
      exact ⟨.exit id', a', σ', EvC.mk n fun m hm => by simp only [stepC, hn m hm, hid, if_false], hq⟩
  | ret => exact ⟨_, a', σ', EvC.mk n fun m hm => by simp only [stepC, hn m hm], hq⟩
  | panic v => exact ⟨_, a', σ', EvC.mk n fun m hm => by simp only [stepC, hn m hm], hq⟩
theorem WC_loop {b : Code} (h : WC L pr rnd b a σ (thenQ (fun a' σ' => WC L pr rnd (.loop b) a' σ' Q) Q)) : WC L pr rnd (.loop b) a σ Q := by
  obtain ⟨e, a', σ', ⟨n, hn⟩, hq⟩ := h
  cases e with
  | normal =>
    obtain ⟨e2, a2, σ2, ⟨n2, hn2⟩, hq2⟩ := hq
    refine ⟨e2, a2, σ2, EvC.mk (max n n2) fun m hm => ?_, hq2⟩
    simp only [stepC, hn m (by omega), hn2 m (by omega)]
  | exit id => exact ⟨_, a', σ', EvC.mk n fun m hm => by simp only [stepC, hn m hm], hq⟩
  | ret => exact ⟨_, a', σ', EvC.mk n fun m hm => by simp only [stepC, hn m hm], hq⟩
  | panic v => exact ⟨_, a', σ', EvC.mk n fun m hm => by simp only [stepC, hn m hm], hq⟩
theorem WC_loop_ind {b : Code} (I : Nat → LAct → LH → Prop) (h : ∀ k a σ, I k a σ → WC L pr rnd b a σ (thenQ (fun a' σ' => ∃ k', k' < k ∧ I k' a' σ') Q)) : ∀ k a σ, I k a σ → WC L pr rnd (.loop b) a σ Q := by
  intro k
  induction k using Nat.strongRecOn with
  | ind k ih =>
    intro a σ hi
    refine WC_loop ((h k a σ hi).mono fun e a' σ' hq => ?_)
    cases e with
    | normal => obtain ⟨k', h1, h2⟩ := hq; exact ih k' h1 a' σ' h2
    | exit id => exact hq
    | ret => exact hq
    | panic v => exact hq
def OW (L : Look) (pr : Prim) (rnd : Bool) (o : Oper) (a : LAct) (σ : LH) (K : LAct → LH → Prop) (P : LV → LAct → LH → Prop) : Prop :=
  match o.op with
  | .call { callee := .value f, args, .. } => ∃ fv l cr, opv a.tmps f = some fv ∧ opvs a.tmps args.toList = some l ∧ EvF L pr fv l σ cr ∧ (match cr.out with | .ret v => K (a.put o.dst v) (cr.st σ) | .pan v => P v a (cr.st σ))
  | _ => ∃ r, opStep L (fun _ _ _ => none) rnd a.tmps o σ = some r ∧ (match r with | .val v σ' => K (a.put o.dst v) σ' | .pan v σ' => P v a σ' | .dfr d σ' => K ({ a with defers := d :: a.defers }.put o.dst (.tuple [])) σ')
noncomputable def wantedG (gs : Nat → Option Tmp) (tm : Tm) : Option (Nat × Bool) → Option Bool
  | none => some true
  | some (j, want) => match gs j with
    | none => some false
    | some d => match tm.get d with
      | some (.bool b) => some (b == want)
      | some (.tuple _) => some false
      | _ => none
def slotOf (ops : Array Oper) (j : Nat) : Option Tmp := (ops.toList[j]?).bind (·.dst)
theorem wantedL_eq (ops : Array Oper) (tm : Tm) (o : Oper) : wantedL ops tm o = wantedG (slotOf ops) tm o.guard := rfl
def RW (L : Look) (pr : Prim) (rnd : Bool) (gs : Nat → Option Tmp) (P : LV → LAct → LH → Prop) : List Oper → LAct → LH → (LAct → LH → Prop) → Prop
  | [], a, σ, K => K a σ
  | o :: os, a, σ, K => ∃ b, wantedG gs a.tmps o.guard = some b ∧ ((b = true → OW L pr rnd o a σ (fun a' σ' => RW L pr rnd gs P os a' σ' K) P) ∧ (b = false → RW L pr rnd gs P os (a.put o.dst (.tuple [])) σ K))
theorem OW.mono' {o : Oper} {a : LAct} {σ : LH} {K K' : LAct → LH → Prop} {P : LV → LAct → LH → Prop} (h : OW L pr rnd o a σ K P) (hk : ∀ a σ, K a σ → K' a σ) : OW L pr rnd o a σ K' P := by
  unfold OW at h ⊢
  split at h
  · obtain ⟨fv, l, cr, h1, h2, h3, h4⟩ := h
    refine ⟨fv, l, cr, h1, h2, h3, ?_⟩
    cases ho : cr.out with
    | ret v => rw [ho] at h4; exact hk _ _ h4
    | pan v => rw [ho] at h4; exact h4
  · obtain ⟨r, h1, h2⟩ := h
    refine ⟨r, h1, ?_⟩
    cases r with
    | val v σ' => exact hk _ _ h2
    | pan v σ' => exact h2
    | dfr d σ' => exact hk _ _ h2
theorem RW.mono' {gs : Nat → Option Tmp} {P : LV → LAct → LH → Prop} : ∀ {os : List Oper} {a : LAct} {σ : LH} {K K' : LAct → LH → Prop}, RW L pr rnd gs P os a σ K → (∀ a σ, K a σ → K' a σ) → RW L pr rnd gs P os a σ K'
  | [], a, σ, K, K', h, hk => hk _ _ h
  | o :: os, a, σ, K, K', h, hk => by
    obtain ⟨b, hb, h1, h2⟩ := h
    exact ⟨b, hb, fun e => (h1 e).mono' fun a σ h => h.mono' hk, fun e => (h2 e).mono' hk⟩
theorem opStep_cf {tm : Tm} {o : Oper} {cf : LV → List LV → LH → Option (LOut × LH)} {r : OpR} (h : opStep L (fun _ _ _ => none) rnd tm o σ = some r) : opStep L cf rnd tm o σ = some r := by
  obtain ⟨dst, op, type, pos, after, guard⟩ := o
  cases op with
  | call c =>
    obtain ⟨callee, args, ats⟩ := c
    cases callee with
    | value f =>
      simp only [opStep] at h
      split at h
      · cases h
      · cases h
    | builtin b => cases b <;> exact h
    | invoke x y => exact h
  | defer c =>
    obtain ⟨callee, args, ats⟩ := c
    cases callee <;> exact h
  | _ => exact h
theorem RW_sound {ops : Array Oper} {P : LV → LAct → LH → Prop} : ∀ {os : List Oper} {a : LAct} {σ : LH} {K : LAct → LH → Prop}, RW L pr rnd (slotOf ops) P os a σ K →
    ∃ p a' σ', (∃ n, ∀ m, n ≤ m → runOps L (ev L pr m).f rnd ops os a σ = some (p, a', σ')) ∧ (match p with | none => K a' σ' | some v => P v a' σ')
  | [], a, σ, K, h => ⟨none, a, σ, ⟨0, fun m _ => rfl⟩, h⟩
  | o :: os, a, σ, K, h => by
    obtain ⟨b, hb, ht, hf⟩ := h
    rw [← wantedL_eq] at hb
    cases b with
    | false =>
      obtain ⟨p, a', σ', ⟨n, hn⟩, hk⟩ := RW_sound (hf rfl)
      exact ⟨p, a', σ', ⟨n, fun m hm => by simp only [runOps, hb, hn m hm]⟩, hk⟩
    | true =>
      have h := ht rfl
      unfold OW at h
      split at h
      · rename_i f args ats hop
        obtain ⟨fv, l, cr, h1, h2, ⟨n, hn⟩, hk⟩ := h
        obtain ⟨dst, op, type, pos, after, guard⟩ := o
        simp only at hop; subst hop
        split at hk
        · rename_i v hv
          obtain ⟨p, a', σ', ⟨n2, hn2⟩, hk2⟩ := RW_sound hk
          exact ⟨p, a', σ', ⟨max n n2, fun m hm => by simp only [runOps, hb, opStep, h1, h2, callSt, hn m (by omega), hv]; exact hn2 m (by omega)⟩, hk2⟩
        · rename_i v hv
          exact ⟨some v, a, cr.st σ, ⟨n, fun m hm => by simp only [runOps, hb, opStep, h1, h2, callSt, hn m hm, hv]⟩, hk⟩
      · obtain ⟨r, hr, hk⟩ := h
        have hr' : ∀ m, opStep L (callSt (ev L pr m).f) rnd a.tmps o σ = some r := fun m => opStep_cf hr
        cases r with
        | val v σ1 =>
          obtain ⟨p, a', σ', ⟨n2, hn2⟩, hk2⟩ := RW_sound hk
          exact ⟨p, a', σ', ⟨n2, fun m hm => by simp only [runOps, hb, hr' m, hn2 m hm]⟩, hk2⟩
        | pan v σ1 => exact ⟨some v, a, σ1, ⟨0, fun m hm => by simp only [runOps, hb, hr' m]⟩, hk⟩
        | dfr d σ1 =>
          obtain ⟨p, a', σ', ⟨n2, hn2⟩, hk2⟩ := RW_sound hk
          exact ⟨p, a', σ', ⟨n2, fun m hm => by simp only [runOps, hb, hr' m, hn2 m hm]⟩, hk2⟩
theorem WC_region {id : Nat} {ops : Array Oper} (h : RW L pr rnd (slotOf ops) (fun v a σ => Q (.panic v) a σ) ops.toList a σ (fun a σ => Q .normal a σ)) : WC L pr rnd (.region id ops false) a σ Q := by
  obtain ⟨p, a', σ', ⟨n, hn⟩, hk⟩ := RW_sound h
  cases p with
  | none => exact ⟨_, _, _, EvC.mk n fun m hm => by simp only [stepC, evRegion, Bool.false_eq_true, if_false, hn m hm], hk⟩
  | some v => exact ⟨_, _, _, EvC.mk n fun m hm => by simp only [stepC, evRegion, Bool.false_eq_true, if_false, hn m hm], hk⟩
def callK : CR → RK
  | .still (.ret _) => .call
  | .still (.pan _) => .move []
  | .moved _ _ => .move []
def DW (L : Look) (pr : Prim) (gs : Nat → Option Tmp) (P : Nat → LV → LAct → LH → List Rec → Prop) : List Oper → Nat → Nat → LAct → LH → List Rec → (LAct → LH → List Rec → Prop) → Prop
  | [], _, _, a, σ, rs, K => K a σ rs
  | o :: os, i, k, a, σ, rs, K => ∃ b, wantedG gs a.tmps o.guard = some b ∧
    (b = false → DW L pr gs P os (i + 1) k (a.put o.dst (.tuple [])) σ rs K) ∧
    (b = true → match isAlloc o with
      | true => DW L pr gs P os (i + 1) (k + 1) (a.put o.dst (.ptr k 0)) σ (rs ++ [⟨i, .alloc k⟩]) K
      | false => match o.op with
        | .call { callee := .value f, args, .. } => ∃ fv l cr, opv a.tmps f = some fv ∧ opvs a.tmps args.toList = some l ∧ EvF L pr fv l σ cr ∧
          (match cr with
            | .still (.ret v) => DW L pr gs P os (i + 1) k (a.put o.dst v) σ (rs ++ [⟨i, .call⟩]) K
            | .still (.pan v) => P i v a σ (rs ++ [⟨i, .move []⟩])
            | .moved (.ret v) σ' => DW L pr gs P os (i + 1) k (a.put o.dst v) σ' (rs ++ [⟨i, .move (σ'.ws.take (σ'.ws.length - σ.ws.length))⟩]) K
            | .moved (.pan v) σ' => P i v a σ' (rs ++ [⟨i, .move []⟩]))
        | _ => ∃ r, opStep L (fun _ _ _ => none) true a.tmps o σ = some r ∧ (match r with
          | .val v σ' => DW L pr gs P os (i + 1) k (a.put o.dst v) σ' (rs ++ [⟨i, kindOf L (fun _ _ _ => none) a.tmps o σ⟩]) K
          | .pan v σ' => P i v a σ' (rs ++ [⟨i, .move []⟩])
          | .dfr _ _ => False))
theorem kindOf_cf {tm : Tm} {o : Oper} {cf cf' : LV → List LV → LH → Option CR} (h : ∀ f args ats, o.op ≠ .call ⟨.value f, args, ats⟩) : kindOf L cf tm o σ = kindOf L cf' tm o σ := by
  obtain ⟨dst, op, type, pos, after, guard⟩ := o
  cases op with
  | call c =>
    obtain ⟨callee, args, ats⟩ := c
    cases callee with
    | value f => exact absurd rfl (h f args ats)
    | builtin b => cases b <;> rfl
    | invoke x y => rfl
  | _ => rfl
theorem DW_sound [Pl L] {ops : Array Oper} {P : Nat → LV → LAct → LH → List Rec → Prop} : ∀ {os : List Oper} {i k : Nat} {a : LAct} {σ : LH} {rs : List Rec} {K : LAct → LH → List Rec → Prop}, DW L pr (slotOf ops) P os i k a σ rs K →
    ∃ p a' σ' rs', (∃ n, ∀ m, n ≤ m → runRec L (ev L pr m).f ops os i k a σ = some (p, a', σ', rs')) ∧ (match p with | none => K a' σ' (rs ++ rs') | some (j, v) => P j v a' σ' (rs ++ rs'))
  | [], i, k, a, σ, rs, K, h => ⟨none, a, σ, [], ⟨0, fun m _ => rfl⟩, by show K a σ (rs ++ []); rw [List.append_nil]; exact h⟩
  | o :: os, i, k, a, σ, rs, K, h => by
    obtain ⟨b, hb, hf, ht⟩ := h
    rw [← wantedL_eq] at hb
    cases b with
    | false =>
      obtain ⟨p, a', σ', rs', ⟨n, hn⟩, hk⟩ := DW_sound (hf rfl)
      exact ⟨p, a', σ', rs', ⟨n, fun m hm => by simp only [runRec, hb, hn m hm]⟩, hk⟩
    | true =>
      have h := ht rfl
      cases hal : isAlloc o with
      | true =>
        rw [hal] at h
        obtain ⟨p, a', σ', rs', ⟨n, hn⟩, hk⟩ := DW_sound h
        refine ⟨p, a', σ', ⟨i, .alloc k⟩ :: rs', ⟨n, fun m hm => by simp only [runRec, hb, hal, if_true, hn m hm]⟩, ?_⟩
        simpa using hk
      | false =>
        rw [hal] at h
        simp only at h
        split at h
        · rename_i f args ats hop
          obtain ⟨fv, l, cr, h1, h2, ⟨n, hn⟩, hk⟩ := h
          obtain ⟨dst, op, type, pos, after, guard⟩ := o
          simp only at hop; subst hop
          split at hk
          · rename_i v
            obtain ⟨p, a', σ', rs', ⟨n2, hn2⟩, hk2⟩ := DW_sound hk
            refine ⟨p, a', σ', ⟨i, .call⟩ :: rs', ⟨max n n2, fun m hm => ?_⟩, by simpa using hk2⟩
            have e1 := hn m (by omega)
            have e2 := hn2 m (by omega)
            simp only [runRec, hb, hal, Bool.false_eq_true, if_false, opStep, h1, h2, callSt, e1, CR.out, CR.st, kindOf, isCf_pl]
            simp only [LAct.put] at e2 ⊢
            rw [e2]
          · rename_i v
            refine ⟨some (i, v), a, σ, [⟨i, .move []⟩], ⟨n, fun m hm => ?_⟩, hk⟩
            have e1 := hn m hm
            simp only [runRec, hb, hal, Bool.false_eq_true, if_false, opStep, h1, h2, callSt, e1, CR.out, CR.st]
          · rename_i v σ1
            obtain ⟨p, a', σ', rs', ⟨n2, hn2⟩, hk2⟩ := DW_sound hk
            refine ⟨p, a', σ', ⟨i, .move (σ1.ws.take (σ1.ws.length - σ.ws.length))⟩ :: rs', ⟨max n n2, fun m hm => ?_⟩, by simpa using hk2⟩
            have e1 := hn m (by omega)
            have e2 := hn2 m (by omega)
            simp only [runRec, hb, hal, Bool.false_eq_true, if_false, opStep, h1, h2, callSt, e1, CR.out, CR.st, kindOf, isCf_pl]
            simp only [LAct.put] at e2 ⊢
            rw [e2]
          · rename_i v σ1
            refine ⟨some (i, v), a, σ1, [⟨i, .move []⟩], ⟨n, fun m hm => ?_⟩, hk⟩
            have e1 := hn m hm
            simp only [runRec, hb, hal, Bool.false_eq_true, if_false, opStep, h1, h2, callSt, e1, CR.out, CR.st]
        · rename_i hnc
          obtain ⟨r, hr, hk⟩ := h
          have hr' : ∀ m, opStep L (callSt (ev L pr m).f) true a.tmps o σ = some r := fun m => opStep_cf hr
          have hkd : ∀ m, kindOf L (ev L pr m).f a.tmps o σ = kindOf L (fun _ _ _ => none) a.tmps o σ := fun m => kindOf_cf fun f args ats hop => hnc f args ats hop
          cases r with
          | val v σ1 =>
            obtain ⟨p, a', σ', rs', ⟨n2, hn2⟩, hk2⟩ := DW_sound hk
            refine ⟨p, a', σ', ⟨i, kindOf L (fun _ _ _ => none) a.tmps o σ⟩ :: rs', ⟨n2, fun m hm => by simp only [runRec, hb, hal, Bool.false_eq_true, if_false, hr' m, hn2 m hm, hkd m]⟩, by simpa using hk2⟩
          | pan v σ1 => exact ⟨some (i, v), a, σ1, [⟨i, .move []⟩], ⟨0, fun m hm => by simp only [runRec, hb, hal, Bool.false_eq_true, if_false, hr' m]⟩, hk⟩
          | dfr d σ1 => exact hk.elim
theorem WC_draw [Pl L] {id : Nat} {ops : Array Oper} {σh : LH} (hh : hoist L ops.toList σ = some σh)
    (h : DW L pr (slotOf ops) (fun p v a' σ' rs => drawP σ.boxes.length ops rs p = true ∧ Q (.panic v) { a with tmps := junkDst ops.toList a.tmps } σ') ops.toList 0 σ.boxes.length a σh [] (fun a σ rs => drawOK ops rs none = true ∧ Q .normal a σ)) :
    WC L pr rnd (.region id ops true) a σ Q := by
  obtain ⟨p, a', σ', rs', ⟨n, hn⟩, hk⟩ := DW_sound h
  simp only [List.nil_append] at hk
  cases p with
  | none =>
    obtain ⟨h1, h2⟩ := hk
    exact ⟨_, _, _, EvC.mk n fun m hm => by simp only [stepC, evRegion, if_true, hh, flF_pl, hn m hm, h1], h2⟩
  | some pv =>
    obtain ⟨p, v⟩ := pv
    obtain ⟨h1, h2⟩ := hk
    exact ⟨_, _, _, EvC.mk n fun m hm => by simp only [stepC, evRegion, if_true, hh, flF_pl, hn m hm, h1], h2⟩
def endQ (L : Look) (rs : List ResultVar) (R : LOut → LH → Prop) : LExit → LAct → LH → Prop
  | .normal, a, σ => a.defers = [] ∧ ∃ vs, resultsL L a.tmps σ rs = some vs ∧ R (.ret (tupleL vs)) σ
  | .ret, a, σ => a.defers = [] ∧ ∃ vs, resultsL L a.tmps σ rs = some vs ∧ R (.ret (tupleL vs)) σ
  | .panic v, a, σ => a.defers = [] ∧ R (.pan v) σ
  | .exit _, _, _ => False
theorem body_run {fn : FnL} {args : List LV} {R : LOut → LH → Prop} (h : WC L pr false fn.body { tmps := enterTmps fn args, defers := [] } σ (endQ L fn.results R)) :
    ∃ out σ', (∃ n, ∀ m, n ≤ m → runBody L (ev L pr m) fn args σ = some (out, σ')) ∧ R out σ' := by
  obtain ⟨x, a', σ', ⟨n, hn⟩, hq⟩ := h
  cases x with
  | normal =>
    obtain ⟨hd, vs, h1, h2⟩ := hq
    exact ⟨_, σ', ⟨n, fun m hm => by simp only [runBody, hn m hm, modeOf, hd, leaveL, h1]⟩, h2⟩
  | ret =>
    obtain ⟨hd, vs, h1, h2⟩ := hq
    exact ⟨_, σ', ⟨n, fun m hm => by simp only [runBody, hn m hm, modeOf, hd, leaveL, h1]⟩, h2⟩
  | panic v =>
    obtain ⟨hd, h2⟩ := hq
    exact ⟨_, σ', ⟨n, fun m hm => by simp only [runBody, hn m hm, modeOf, hd, leaveL]⟩, h2⟩
  | exit id => exact hq.elim
theorem EvF_closed {g : FuncId} {fn : FnL} {fs args cs : List LV} {cr : CR} (hfn : L.fnOf g = some fn) (hpr : pr g (fs ++ args ++ cs) σ = none)
    (hcl : (LV.refsOK 0 ((fs ++ args ++ cs).map LV.argC) && LV.toksOK 0 ((fs ++ args ++ cs).map LV.argC)) = true)
    (h : WC L pr false fn.body { tmps := enterTmps fn ((fs ++ args ++ cs).map LV.argC), defers := [] } { boxes := [], toks := [], ws := [] } (endQ L fn.results fun out σ' => closeF σ out σ' = some cr)) :
    EvF L pr (.func (.func g) fs cs) args σ cr := by
  obtain ⟨out, σ', ⟨n, hn⟩, hR⟩ := body_run h
  exact EvF.mk n fun m hm => by simp only [stepF, hpr, hfn, closedF, hcl, if_true, hn m hm, hR]
theorem EvF_open {g : FuncId} {fn : FnL} {fs args cs : List LV} {cr : CR} (hfn : L.fnOf g = some fn) (hpr : pr g (fs ++ args ++ cs) σ = none)
    (hcl : (LV.refsOK 0 ((fs ++ args ++ cs).map LV.argC) && LV.toksOK 0 ((fs ++ args ++ cs).map LV.argC)) = false)
    (h : WC L pr false fn.body { tmps := enterTmps fn ((fs ++ args ++ cs).map LV.canonA), defers := [] } { σ with ws := [] } (endQ L fn.results fun out σ' => finish σ out σ' = cr)) :
    EvF L pr (.func (.func g) fs cs) args σ cr := by
  obtain ⟨out, σ', ⟨n, hn⟩, hR⟩ := body_run h
  exact EvF.mk n fun m hm => by simp only [stepF, hpr, hfn, closedF, hcl, Bool.false_eq_true, if_false, openF, hn m hm, hR]
end Go.Lg
end
section
set_option linter.unusedSimpArgs false
namespace Go.Lg
variable {L : Look} {pr : Prim} {rnd : Bool} {σ : LH} {K : LAct → LH → Prop} {P : LV → LAct → LH → Prop} {tm : Tm} {df : List LDef}
def Tm.has (tm : Tm) (k : Nat) : Prop := k + 1 ≤ tm.n ∧ (tm.get k).isSome = true
theorem get_same {k : Nat} {x : LV} (h : tm.has k) : (tm.put k x).get k = some x := by
  rw [put_get, if_pos ⟨rfl, h.1⟩]
  cases hg : tm.get k with
  | none => rw [Tm.has, hg] at h; simp at h
  | some y => rfl
theorem get_other {k j : Nat} {x : LV} (h : j ≠ k) : (tm.put k x).get j = tm.get j := by
  rw [put_get, if_neg fun e => h e.1]
theorem has_put {k j : Nat} {x : LV} : (tm.put j x).has k ↔ tm.has k := by
  unfold Tm.has
  rw [put_n, put_get]
  split
  · simp
  · rfl
theorem full_has : ∀ (n k : Nat), k + 1 < 2 ^ n → ((Tree.full n).get k).isSome = true
  | 0, k, h => by simp at h
  | n + 1, k, h => by
    have : (Tree.full (n + 1)) = Tree.node (Tree.full n) (.tuple []) (Tree.full n) := rfl
    rw [this, tree_get_node]
    rw [Nat.pow_succ] at h
    split
    · rfl
    · split
      · exact full_has n _ (by omega)
      · exact full_has n _ (by omega)
theorem puts_has : ∀ (xs : List LV) (tm : Tm) (k j : Nat), (tm.puts k xs).has j ↔ tm.has j
  | [], tm, k, j => Iff.rfl
  | x :: xs, tm, k, j => (puts_has xs _ _ _).trans has_put
theorem enter_has {fn : FnL} {args : List LV} {k : Nat} (hk : k < fn.ntmps) (h : fn.ntmps < 511) : (enterTmps fn args).has k := by
  unfold enterTmps
  rw [puts_has]
  exact ⟨by show k + 1 ≤ args.length + _; omega, full_has 9 k (by omega)⟩
theorem puts_at : ∀ (xs : List LV) (tm : Tm) (k i : Nat) (x : LV), (∀ j, j < k + xs.length → tm.has j) → xs[i]? = some x → (tm.puts k xs).get (k + i) = some x
  | [], tm, k, i, x, h, hx => by simp at hx
  | y :: xs, tm, k, i, x, h, hx => by
    simp only [Tm.puts]
    cases i with
    | zero =>
      simp at hx; subst hx
      have : ∀ (zs : List LV) (t : Tm) (m : Nat), k < m → (t.puts m zs).get k = t.get k := by
        intro zs
        induction zs with
        | nil => intro t m _; rfl
        | cons z zs ih => intro t m hm; simp only [Tm.puts]; rw [ih _ _ (by omega), get_other (by omega)]
      show ((tm.put k y).puts (k + 1) xs).get k = some y
      rw [this xs (tm.put k y) (k + 1) (by omega)]
      exact get_same (h k (by simp))
    | succ i =>
      have := puts_at xs (tm.put k y) (k + 1) i x (fun j hj => has_put.2 (h j (by simp; omega))) (by simpa using hx)
      rw [show k + (i + 1) = k + 1 + i by omega]; exact this
theorem enter_get {fn : FnL} {args : List LV} {i : Nat} {x : LV} (hx : args[i]? = some x) (hn : args.length ≤ fn.ntmps) (h : fn.ntmps < 511) : (enterTmps fn args).get i = some x := by
  unfold enterTmps
  have := puts_at args { n := args.length + (fn.ntmps - args.length), t := Tree.full 9 } 0 i x (fun j hj => ⟨by show j + 1 ≤ args.length + _; omega, full_has 9 j (by omega)⟩) hx
  rwa [Nat.zero_add] at this
theorem opv_tmp {t : Nat} : opv tm (.tmp t) = tm.get t := rfl
theorem opv_int {k : IntKind} {n : Int} : opv tm (.const (.int k n)) = some (.int k n) := rfl
theorem opv_bool {b : Bool} : opv tm (.const (.bool b)) = some (.bool b) := rfl
theorem opv_str {s : ByteArray} : opv tm (.const (.string s)) = some (.str s) := rfl
theorem opv_nil : opv tm (.const (.slice none 0 0)) = some (.slice [] .exact (some true)) := rfl
theorem opv_nilF : opv tm (.const .nilFunc) = some .nilFunc := rfl
theorem opv_nilI : opv tm (.const .nilIface) = some .nilIface := rfl
theorem opv_nilP : opv tm (.const (.pointer none)) = some .nilp := rfl
theorem opv_func {g : Nat} : opv tm (.func g) = some (.func (.func g) [] []) := rfl
theorem opv_agg {cs : Array Value} : opv tm (.const (.agg cs)) = (cs.toList.mapM ofV1).map .agg := rfl
theorem opvs_nil : opvs tm [] = some [] := rfl
theorem opvs_cons {x : Operand} {xs : List Operand} {r : List LV} : opvs tm (x :: xs) = some r ↔ ∃ v vs, opv tm x = some v ∧ opvs tm xs = some vs ∧ v :: vs = r := by
  simp only [opvs]
  cases opv tm x <;> cases opvs tm xs <;> simp
theorem some_eq {α : Type} {x y : α} : (some x = some y) ↔ x = y := by simp
theorem put_some {d : Nat} {v : LV} : LAct.put ⟨tm, df⟩ (some d) v = ⟨tm.put d v, df⟩ := rfl
theorem put_none {v : LV} : LAct.put ⟨tm, df⟩ none v = ⟨tm, df⟩ := rfl
theorem RW_nil {gs : Nat → Option Tmp} : RW L pr rnd gs P [] ⟨tm, df⟩ σ K ↔ K ⟨tm, df⟩ σ := Iff.rfl
theorem RW_plain {gs : Nat → Option Tmp} {d : Option Tmp} {op : Op} {ty : TypeId} {p : String} {af : Array Edge} {os : List Oper} :
    RW L pr rnd gs P (⟨d, op, ty, p, af, none⟩ :: os) ⟨tm, df⟩ σ K ↔ OW L pr rnd ⟨d, op, ty, p, af, none⟩ ⟨tm, df⟩ σ (fun a' σ' => RW L pr rnd gs P os a' σ' K) P := by
  constructor
  · rintro ⟨b, hb, h1, h2⟩
    simp only [wantedG] at hb
    injection hb with hb; subst hb; exact h1 rfl
  · intro h
    exact ⟨true, rfl, fun _ => h, fun h => by cases h⟩
theorem RW_guarded {gs : Nat → Option Tmp} {d : Option Tmp} {op : Op} {ty : TypeId} {p : String} {af : Array Edge} {os : List Oper} {gd : Nat × Bool} :
    RW L pr rnd gs P (⟨d, op, ty, p, af, some gd⟩ :: os) ⟨tm, df⟩ σ K ↔ ∃ b, wantedG gs tm (some gd) = some b ∧ (b = true → OW L pr rnd ⟨d, op, ty, p, af, some gd⟩ ⟨tm, df⟩ σ (fun a' σ' => RW L pr rnd gs P os a' σ' K) P) ∧ (b = false → RW L pr rnd gs P os (LAct.put ⟨tm, df⟩ d (.tuple [])) σ K) := Iff.rfl
variable {d : Option Tmp} {ty : TypeId} {p : String} {af : Array Edge} {g : Option (Nat × Bool)}
theorem OW_pure {o : Oper} {v : LV} (hc : ∀ σ, opStep L (fun _ _ _ => none) rnd tm o σ = (pureOp L tm o).map fun v => OpR.val v σ) (hn : ∀ f args ats, o.op ≠ .call ⟨.value f, args, ats⟩) (hv : pureOp L tm o = some v) (h : K (LAct.put ⟨tm, df⟩ o.dst v) σ) : OW L pr rnd o ⟨tm, df⟩ σ K P := by
  unfold OW
  split
  · rename_i f args ats hop; exact absurd hop (hn _ _ _)
  · exact ⟨.val v σ, by rw [hc, hv]; rfl, h⟩
theorem OW_move {x : Operand} : OW L pr rnd ⟨d, .move x, ty, p, af, g⟩ ⟨tm, df⟩ σ K P ↔ ∃ v, opv tm x = some v ∧ K (LAct.put ⟨tm, df⟩ d v) σ := by
  simp only [OW, opStep, pureOp]; cases opv tm x <;> simp
theorem OW_assign {x : Operand} : OW L pr rnd ⟨d, .assign x, ty, p, af, g⟩ ⟨tm, df⟩ σ K P ↔ ∃ v, opv tm x = some v ∧ K (LAct.put ⟨tm, df⟩ d v) σ := by
  simp only [OW, opStep, pureOp]; cases opv tm x <;> simp
theorem OW_pick {x y z : Operand} : OW L pr rnd ⟨d, .pick x y z, ty, p, af, g⟩ ⟨tm, df⟩ σ K P ↔ ∃ c v, opv tm x = some (.bool c) ∧ (if c then opv tm y else opv tm z) = some v ∧ K (LAct.put ⟨tm, df⟩ d v) σ := by
  simp only [OW, opStep, pureOp]
  cases hx : opv tm x with
  | none => simp
  | some v =>
    cases v with
    | bool c =>
      cases c with
      | true => cases opv tm y <;> simp
      | false => cases opv tm z <;> simp
    | _ => simp
theorem OW_build {t : TypeId} {ps : Array (Nat × Operand)} : OW L pr rnd ⟨d, .build t ps, ty, p, af, g⟩ ⟨tm, df⟩ σ K P ↔ ∃ l v, partsL tm ps.toList = some l ∧ buildL L t l = some v ∧ K (LAct.put ⟨tm, df⟩ d v) σ := by
  simp only [OW, opStep, pureOp]
  cases hx : partsL tm ps.toList with
  | none => simp
  | some l => cases hb : buildL L t l <;> simp [hb]
theorem OW_buildSlice [Pl L] {t : TypeId} {n : Nat} {ps : Array (Nat × Operand)} : OW L pr rnd ⟨d, .buildSlice t n ps, ty, p, af, g⟩ ⟨tm, df⟩ σ K P ↔ ∃ l v, partsL tm ps.toList = some l ∧ buildSliceL L t n l = some v ∧ K (LAct.put ⟨tm, df⟩ d v) σ := by
  simp only [OW, opStep, pureOp, Pl.msl]
  cases hx : partsL tm ps.toList with
  | none => simp
  | some l => cases hb : buildSliceL L t n l <;> simp [hb]
theorem OW_bin {op : BinOp} {t t' : TypeId} {x y : Operand} : OW L pr rnd ⟨d, .binOp op t x y t', ty, p, af, g⟩ ⟨tm, df⟩ σ K P ↔ ∃ u v r, opv tm x = some u ∧ opv tm y = some v ∧ binL L op t u v = some r ∧ K (LAct.put ⟨tm, df⟩ d r) σ := by
  simp only [OW, opStep, pureOp]
  cases hx : opv tm x with
  | none => simp
  | some u => cases hy : opv tm y with
    | none => simp
    | some v => cases hb : binL L op t u v <;> simp [hb]
theorem OW_un {op : UnOp} {t : TypeId} {x : Operand} : OW L pr rnd ⟨d, .unOp op t x, ty, p, af, g⟩ ⟨tm, df⟩ σ K P ↔ ∃ u r, opv tm x = some u ∧ unL L op u = some r ∧ K (LAct.put ⟨tm, df⟩ d r) σ := by
  simp only [OW, opStep, pureOp]
  cases hx : opv tm x with
  | none => simp
  | some u => cases hb : unL L op u <;> simp [hb]
theorem OW_conv {s t : TypeId} {x : Operand} : OW L pr rnd ⟨d, .convert s t x, ty, p, af, g⟩ ⟨tm, df⟩ σ K P ↔ ∃ u r, opv tm x = some u ∧ convL L s t u = some r ∧ K (LAct.put ⟨tm, df⟩ d r) σ := by
  simp only [OW, opStep, pureOp]
  cases hx : opv tm x with
  | none => simp
  | some u => cases hb : convL L s t u <;> simp [hb]
theorem OW_iface {t : TypeId} {x : Operand} : OW L pr rnd ⟨d, .makeInterface t x, ty, p, af, g⟩ ⟨tm, df⟩ σ K P ↔ ∃ u r, opv tm x = some u ∧ ifaceL L t u = some r ∧ K (LAct.put ⟨tm, df⟩ d r) σ := by
  simp only [OW, opStep, pureOp]
  cases hx : opv tm x with
  | none => simp
  | some u => cases hb : ifaceL L t u <;> simp [hb]
theorem OW_makeFunc {f : FuncId} {fs cs : Array Operand} : OW L pr rnd ⟨d, .makeFunc (.func f) fs cs, ty, p, af, g⟩ ⟨tm, df⟩ σ K P ↔ ∃ l l', opvs tm fs.toList = some l ∧ opvs tm cs.toList = some l' ∧ K (LAct.put ⟨tm, df⟩ d (.func (.func f) l l')) σ := by
  simp only [OW, opStep, pureOp]
  cases hx : opvs tm fs.toList <;> cases hy : opvs tm cs.toList <;> simp
theorem OW_slice {t : TypeId} {x : Operand} {lo hi mx : Option Operand} : OW L pr rnd ⟨d, .slice t x lo hi mx, ty, p, af, g⟩ ⟨tm, df⟩ σ K P ↔ ∃ u l h m r, opv tm x = some u ∧ optL tm lo = some l ∧ optL tm hi = some h ∧ optL tm mx = some m ∧ sliceL L t u l h m = some r ∧ K (LAct.put ⟨tm, df⟩ d r) σ := by
  simp only [OW, opStep, pureOp]
  cases hx : opv tm x with
  | none => simp
  | some u => cases h1 : optL tm lo with
    | none => simp
    | some l => cases h2 : optL tm hi with
      | none => simp
      | some h => cases h3 : optL tm mx with
        | none => simp
        | some m => cases hb : sliceL L t u l h m <;> simp [hb]
theorem OW_fieldAddr {t : TypeId} {x : Operand} {f : Nat} : OW L pr rnd ⟨d, .fieldAddr t x f, ty, p, af, g⟩ ⟨tm, df⟩ σ K P ↔ ∃ u r, opv tm x = some u ∧ fieldAddrL L t u f = some r ∧ K (LAct.put ⟨tm, df⟩ d r) σ := by
  simp only [OW, opStep, pureOp]
  cases hx : opv tm x with
  | none => simp
  | some u => cases hb : fieldAddrL L t u f <;> simp [hb]
theorem OW_field {t : TypeId} {x : Operand} {f : Nat} : OW L pr rnd ⟨d, .field t x f, ty, p, af, g⟩ ⟨tm, df⟩ σ K P ↔ ∃ u r, opv tm x = some u ∧ fieldL L t u f = some r ∧ K (LAct.put ⟨tm, df⟩ d r) σ := by
  simp only [OW, opStep, pureOp]
  cases hx : opv tm x with
  | none => simp
  | some u => cases hb : fieldL L t u f <;> simp [hb]
theorem OW_indexAddr {t : TypeId} {x y : Operand} : OW L pr rnd ⟨d, .indexAddr t x y, ty, p, af, g⟩ ⟨tm, df⟩ σ K P ↔ ∃ u v r, opv tm x = some u ∧ opv tm y = some v ∧ indexAddrL L t u v = some r ∧ K (LAct.put ⟨tm, df⟩ d r) σ := by
  simp only [OW, opStep, pureOp]
  cases hx : opv tm x with
  | none => simp
  | some u => cases hy : opv tm y with
    | none => simp
    | some v => cases hb : indexAddrL L t u v <;> simp [hb]
theorem OW_index {t : TypeId} {x y : Operand} : OW L pr rnd ⟨d, .index t x y, ty, p, af, g⟩ ⟨tm, df⟩ σ K P ↔ ∃ u v r, opv tm x = some u ∧ opv tm y = some v ∧ indexL L t u v = some r ∧ K (LAct.put ⟨tm, df⟩ d r) σ := by
  simp only [OW, opStep, pureOp]
  cases hx : opv tm x with
  | none => simp
  | some u => cases hy : opv tm y with
    | none => simp
    | some v => cases hb : indexL L t u v <;> simp [hb]
theorem OW_assert {x : Operand} {t t' : TypeId} {ok : Bool} : OW L pr rnd ⟨d, .typeAssert x t t' ok, ty, p, af, g⟩ ⟨tm, df⟩ σ K P ↔ ∃ u r, opv tm x = some u ∧ assertL L u t' ok = some r ∧ K (LAct.put ⟨tm, df⟩ d r) σ := by
  simp only [OW, opStep, pureOp]
  cases hx : opv tm x with
  | none => simp
  | some u => cases hb : assertL L u t' ok <;> simp [hb]
theorem OW_extract {x : Operand} {i : Nat} : OW L pr rnd ⟨d, .extract x i, ty, p, af, g⟩ ⟨tm, df⟩ σ K P ↔ ∃ vs r, opv tm x = some (.tuple vs) ∧ vs[i]? = some r ∧ K (LAct.put ⟨tm, df⟩ d r) σ := by
  simp only [OW, opStep, pureOp]
  cases hx : opv tm x with
  | none => simp
  | some u =>
    cases u with
    | tuple vs => cases hb : vs[i]? <;> simp [hb]
    | _ => simp
theorem OW_len {args : Array Operand} {ats : Array TypeId} : OW L pr rnd ⟨d, .call ⟨.builtin .len, args, ats⟩, ty, p, af, g⟩ ⟨tm, df⟩ σ K P ↔ ∃ x t r, opvs tm args.toList = some [x] ∧ ats[0]? = some t ∧ lenL L t x = some r ∧ K (LAct.put ⟨tm, df⟩ d r) σ := by
  simp only [OW, opStep, pureOp]
  cases hx : opvs tm args.toList with
  | none => simp
  | some l =>
    cases ht : ats[0]? with
    | none => simp
    | some t =>
      match l with
      | [] => simp
      | [x] => cases hb : lenL L t x <;> simp [hb]
      | x :: y :: l => simp
theorem OW_max {args : Array Operand} {ats : Array TypeId} : OW L pr rnd ⟨d, .call ⟨.builtin .max, args, ats⟩, ty, p, af, g⟩ ⟨tm, df⟩ σ K P ↔ ∃ l r, opvs tm args.toList = some l ∧ minmaxL L .max ats ty l = some r ∧ K (LAct.put ⟨tm, df⟩ d r) σ := by
  simp only [OW, opStep, pureOp]
  cases hx : opvs tm args.toList with
  | none => simp
  | some l => cases hb : minmaxL L .max ats ty l <;> simp [hb]
theorem OW_min {args : Array Operand} {ats : Array TypeId} : OW L pr rnd ⟨d, .call ⟨.builtin .min, args, ats⟩, ty, p, af, g⟩ ⟨tm, df⟩ σ K P ↔ ∃ l r, opvs tm args.toList = some l ∧ minmaxL L .min ats ty l = some r ∧ K (LAct.put ⟨tm, df⟩ d r) σ := by
  simp only [OW, opStep, pureOp]
  cases hx : opvs tm args.toList with
  | none => simp
  | some l => cases hb : minmaxL L .min ats ty l <;> simp [hb]
theorem OW_append {args : Array Operand} {ats : Array TypeId} : OW L pr rnd ⟨d, .call ⟨.builtin .append, args, ats⟩, ty, p, af, g⟩ ⟨tm, df⟩ σ K P ↔ ∃ s x t v σ', opvs tm args.toList = some [s, x] ∧ ats[0]? = some t ∧ appendL L σ t ats[1]? s x = some (v, σ') ∧ K (LAct.put ⟨tm, df⟩ d v) σ' := by
  simp only [OW, opStep]
  cases hx : opvs tm args.toList with
  | none => simp
  | some l =>
    cases ht : ats[0]? with
    | none => simp
    | some t =>
      match l with
      | [] => simp
      | [x] => simp
      | [s, x] =>
        cases hb : appendL L σ t ats[1]? s x with
        | none => simp [hb]
        | some r =>
          obtain ⟨v, σ'⟩ := r
          constructor
          · rintro ⟨r, h, hk⟩
            simp only [hb] at h; injection h with h; subst h
            exact ⟨s, x, t, v, σ', rfl, rfl, hb, hk⟩
          · rintro ⟨s', x', t', v', σ2, h1, h2, h3, hk⟩
            simp at h1 h2; obtain ⟨rfl, rfl⟩ := h1; subst h2
            rw [hb] at h3; injection h3 with h3; injection h3 with h3 h4; subst h3; subst h4
            exact ⟨.val v σ', by simp only [hb], hk⟩
      | x :: y :: z :: l => simp
theorem OW_alloc {t : TypeId} : OW L pr rnd ⟨d, .alloc t, ty, p, af, g⟩ ⟨tm, df⟩ σ K P ↔ ∃ z, zeroLV L t = some z ∧ (z.flat = true ∧ z.refOK (σ.boxes.length + 1) = true) ∧ K (LAct.put ⟨tm, df⟩ d (.ptr σ.boxes.length 0)) { σ with boxes := σ.boxes ++ [.cells t z.cells] } := by
  simp only [OW, opStep]
  cases hz : zeroLV L t with
  | none => simp
  | some z =>
    simp only
    by_cases hc : z.flat = true ∧ z.refOK (σ.boxes.length + 1) = true
    · rw [if_pos hc]; simp [hc]
    · rw [if_neg hc]; simp only [some_eq, exists_eq_left', hc, false_and]; simp
theorem OW_box {t : TypeId} {x : Operand} : OW L pr rnd ⟨d, .box t x, ty, p, af, g⟩ ⟨tm, df⟩ σ K P ↔ ∃ v s, opv tm x = some v ∧ sizeL L t = some s ∧ (v.wd = s ∧ v.flat = true ∧ v.refOK (σ.boxes.length + 1) = true) ∧ K (LAct.put ⟨tm, df⟩ d (.ptr σ.boxes.length 0)) { σ with boxes := σ.boxes ++ [.cells t v.cells] } := by
  simp only [OW, opStep]
  cases hx : opv tm x with
  | none => simp
  | some v =>
    cases hs : sizeL L t with
    | none => simp
    | some s =>
      simp only
      by_cases hc : v.wd = s ∧ v.flat = true ∧ v.refOK (σ.boxes.length + 1) = true
      · rw [if_pos hc]; simp [hc]
      · rw [if_neg hc]
        constructor
        · rintro ⟨r, h, _⟩; cases h
        · rintro ⟨v', s', h1, h2, h3, _⟩
          injection h1 with h1; injection h2 with h2; subst h1; subst h2; exact absurd h3 hc
theorem OW_load {t : TypeId} {x : Operand} : OW L pr rnd ⟨d, .load t x, ty, p, af, g⟩ ⟨tm, df⟩ σ K P ↔ ∃ u r, opv tm x = some u ∧ loadL L σ t u = some r ∧ K (LAct.put ⟨tm, df⟩ d r) σ := by
  simp only [OW, opStep]
  cases hx : opv tm x with
  | none => simp
  | some u => cases hb : loadL L σ t u <;> simp [hb]
theorem OW_store {t : TypeId} {x y : Operand} : OW L pr rnd ⟨d, .store t x y, ty, p, af, g⟩ ⟨tm, df⟩ σ K P ↔ ∃ u v σ', opv tm x = some u ∧ opv tm y = some v ∧ storeL L σ t u v = some σ' ∧ K (LAct.put ⟨tm, df⟩ d (.tuple [])) σ' := by
  simp only [OW, opStep]
  cases hx : opv tm x with
  | none => simp
  | some u => cases hy : opv tm y with
    | none => simp
    | some v => cases hb : storeL L σ t u v <;> simp [hb]
theorem OW_panic {x : Operand} : OW L pr rnd ⟨d, .panic x, ty, p, af, g⟩ ⟨tm, df⟩ σ K P ↔ ∃ t v, opv tm x = some (.iface t v) ∧ P (.iface t v) ⟨tm, df⟩ σ := by
  simp only [OW, opStep]
  cases hx : opv tm x with
  | none => simp
  | some u =>
    cases u with
    | iface t v =>
      constructor
      · rintro ⟨r, h, hk⟩; simp at h; subst h; exact ⟨t, v, rfl, hk⟩
      · rintro ⟨t', v', h, hk⟩; simp at h; obtain ⟨rfl, rfl⟩ := h; exact ⟨_, rfl, hk⟩
    | _ => simp
theorem OW_call {f : Operand} {args : Array Operand} {ats : Array TypeId} : OW L pr rnd ⟨d, .call ⟨.value f, args, ats⟩, ty, p, af, g⟩ ⟨tm, df⟩ σ K P ↔ ∃ fv l cr, opv tm f = some fv ∧ opvs tm args.toList = some l ∧ EvF L pr fv l σ cr ∧ (match cr.out with | .ret v => K (LAct.put ⟨tm, df⟩ d v) (cr.st σ) | .pan v => P v ⟨tm, df⟩ (cr.st σ)) := Iff.rfl
def Ret (L : Look) (pr : Prim) (g : FuncId) (args : List LV) (v : LV) : Prop := ∀ σ, EvF L pr (.func (.func g) [] []) args σ (.still (.ret v))
theorem OW_ret {f : FuncId} {args : Array Operand} {ats : Array TypeId} {l : List LV} {v : LV} (hl : opvs tm args.toList = some l) (h : Ret L pr f l v) (hk : K (LAct.put ⟨tm, df⟩ d v) σ) : OW L pr rnd ⟨d, .call ⟨.value (.func f), args, ats⟩, ty, p, af, g⟩ ⟨tm, df⟩ σ K P :=
  OW_call.2 ⟨_, l, _, rfl, hl, h σ, hk⟩
end Go.Lg
end
section
set_option linter.unusedSimpArgs false
namespace Go.Lg
variable {L : Look} {pr : Prim} {rnd : Bool}
def LH.len (σ : LH) : Nat := σ.boxes.length
def LH.push (σ : LH) (o : LObj) : LH := { σ with boxes := σ.boxes ++ [o] }
def LH.upd (σ : LH) (b : Nat) (t : TypeId) (cs : List LV) : LH := { σ with boxes := σ.boxes.set b (.cells t cs), ws := b :: σ.ws }
def LH.own (σ : LH) : Own → LH
  | .tok k => { σ with toks := σ.toks.set k false ++ [true] }
  | _ => { σ with toks := σ.toks ++ [true] }
def App (σ : LH) : Own → Prop
  | .none => False
  | .exact => True
  | .tok k => σ.toks[k]? = some true
def LH.new : LH := { boxes := [], toks := [], ws := [] }
theorem new_len : LH.new.len = 0 := rfl
theorem push_len {σ : LH} {o : LObj} : (σ.push o).len = σ.len + 1 := by simp [LH.push, LH.len]
theorem upd_len {σ : LH} {b : Nat} {t : TypeId} {cs : List LV} : (σ.upd b t cs).len = σ.len := by simp [LH.upd, LH.len]
theorem own_len {σ : LH} {o : Own} : (σ.own o).len = σ.len := by cases o <;> rfl
theorem box_push {σ : LH} {t : TypeId} {cs : List LV} : boxOf (σ.push (.cells t cs)) σ.len = some (t, cs) := by simp [boxOf, LH.push, LH.len]
theorem box_push_lt {σ : LH} {o : LObj} {b : Nat} (h : b < σ.len) : boxOf (σ.push o) b = boxOf σ b := by
  simp only [boxOf, LH.push]; rw [List.getElem?_append_left h]
theorem box_upd {σ : LH} {b : Nat} {t : TypeId} {cs : List LV} (h : b < σ.len) : boxOf (σ.upd b t cs) b = some (t, cs) := by
  simp only [boxOf, LH.upd]; rw [List.getElem?_set_self h]
theorem box_upd_ne {σ : LH} {b b' : Nat} {t : TypeId} {cs : List LV} (h : b' ≠ b) : boxOf (σ.upd b t cs) b' = boxOf σ b' := by
  simp only [boxOf, LH.upd]; rw [List.getElem?_set_ne (Ne.symm h)]
theorem box_own {σ : LH} {o : Own} {b : Nat} : boxOf (σ.own o) b = boxOf σ b := by cases o <;> rfl
theorem box_lt {σ : LH} {b : Nat} {y : TypeId × List LV} (h : boxOf σ b = some y) : b < σ.len := by
  unfold boxOf at h
  rcases Nat.lt_or_ge b σ.boxes.length with h' | h'
  · exact h'
  · rw [List.getElem?_eq_none h'] at h; cases h
theorem box_push_of {σ : LH} {b : Nat} {y : TypeId × List LV} (h : boxOf σ b = some y) {o : LObj} : boxOf (σ.push o) b = some y := (box_push_lt (box_lt h)).trans h
theorem app_push {σ : LH} {o : LObj} {w : Own} : App (σ.push o) w ↔ App σ w := by cases w <;> rfl
theorem app_upd {σ : LH} {b : Nat} {t : TypeId} {cs : List LV} {w : Own} : App (σ.upd b t cs) w ↔ App σ w := by cases w <;> rfl
theorem app_exact {σ : LH} : App σ .exact := trivial
theorem app_own {σ : LH} {w : Own} : App (σ.own w) (.tok σ.toks.length) := by
  unfold App LH.own
  cases w with
  | tok k => simp [List.getElem?_append]
  | _ => simp
theorem push_toks {σ : LH} {o : LObj} : (σ.push o).toks = σ.toks := rfl
theorem upd_toks {σ : LH} {b : Nat} {t : TypeId} {cs : List LV} : (σ.upd b t cs).toks = σ.toks := rfl
theorem own_toks {σ : LH} {w : Own} : (σ.own w).toks.length = σ.toks.length + 1 := by cases w <;> simp [LH.own]
def LH.put (σ : LH) (t : TypeId) (cs : List LV) : LH := { boxes := σ.boxes ++ [.cells t cs], toks := σ.toks, ws := σ.boxes.length :: σ.ws }
theorem push_upd {σ : LH} {o : LObj} {t : TypeId} {cs : List LV} : (σ.push o).upd σ.len t cs = σ.put t cs := by
  simp [LH.push, LH.upd, LH.put, LH.len]
theorem put_len {σ : LH} {t : TypeId} {cs : List LV} : (σ.put t cs).len = σ.len + 1 := by simp [LH.put, LH.len]
theorem box_put {σ : LH} {t : TypeId} {cs : List LV} : boxOf (σ.put t cs) σ.len = some (t, cs) := by simp [boxOf, LH.put, LH.len]
theorem box_put_of {σ : LH} {b : Nat} {y : TypeId × List LV} (h : boxOf σ b = some y) {t : TypeId} {cs : List LV} : boxOf (σ.put t cs) b = some y := by
  have hl := box_lt h
  simp only [boxOf, LH.put]
  rw [List.getElem?_append_left hl]; exact h
theorem app_put {σ : LH} {t : TypeId} {cs : List LV} {w : Own} : App (σ.put t cs) w ↔ App σ w := by cases w <;> rfl
theorem put_toks {σ : LH} {t : TypeId} {cs : List LV} : (σ.put t cs).toks = σ.toks := rfl
theorem setRange_all {cs vs : List LV} (h : cs.length = vs.length) : setRange cs 0 vs = vs := by simp [setRange, h]
structure LV.Good (v : LV) : Prop where
  ref : ∀ n, v.refOK n = true
  tok : ∀ n, v.tokOK n = true
theorem refOK_all {v : LV} (h : v.refOK 0 = true) (n : Nat) : v.refOK n = true := by
  have : ∀ N M, N ≤ M → v.refOK N = true → v.refOK M = true := fun N M hle => refOK_mono hle v
  exact this 0 n (Nat.zero_le n) h
theorem good_int {k : IntKind} {n : Int} : (LV.int k n).Good := ⟨fun _ => rfl, fun _ => rfl⟩
theorem good_bool {b : Bool} : (LV.bool b).Good := ⟨fun _ => rfl, fun _ => rfl⟩
theorem good_str {s : ByteArray} : (LV.str s).Good := ⟨fun _ => rfl, fun _ => rfl⟩
theorem goods_ref {xs : List LV} (h : ∀ x ∈ xs, x.Good) (n : Nat) : LV.refsOK n xs = true := refsOK_iff.2 fun x hx => (h x hx).ref n
theorem goods_tok {xs : List LV} (h : ∀ x ∈ xs, x.Good) (n : Nat) : LV.toksOK n xs = true := toksOK_iff.2 fun x hx => (h x hx).tok n
theorem good_agg {xs : List LV} (h : ∀ x ∈ xs, x.Good) : (LV.agg xs).Good := ⟨fun n => goods_ref h n, fun n => goods_tok h n⟩
theorem good_slice {xs : List LV} {nz : Option Bool} (h : ∀ x ∈ xs, x.Good) : (LV.slice xs .none nz).Good := ⟨fun n => goods_ref h n, fun n => by simp only [LV.tokOK, Own.ok, Bool.true_and]; exact goods_tok h n⟩
theorem good_slice' {xs : List LV} {nz : Option Bool} (h : ∀ x ∈ xs, x.Good) : (LV.slice xs .exact nz).Good := ⟨fun n => goods_ref h n, fun n => by simp only [LV.tokOK, Own.ok, Bool.true_and]; exact goods_tok h n⟩
variable {σ : LH} {K : LAct → LH → Prop} {P : LV → LAct → LH → Prop} {tm : Tm} {df : List LDef} {d : Option Tmp} {ty : TypeId} {p : String} {af : Array Edge} {g : Option (Nat × Bool)}
theorem OW_alloc' {t : TypeId} {z : LV} (hz : zeroLV L t = some z) (hf : z.flat = true) (hr : z.refOK 0 = true) (h : K (LAct.put ⟨tm, df⟩ d (.ptr σ.len 0)) (σ.push (.cells t z.cells))) : OW L pr rnd ⟨d, .alloc t, ty, p, af, g⟩ ⟨tm, df⟩ σ K P :=
  OW_alloc.2 ⟨z, hz, ⟨hf, refOK_all hr _⟩, h⟩
theorem OW_box' {t : TypeId} {x : Operand} {v : LV} (hx : opv tm x = some v) (hs : sizeL L t = some v.wd) (hf : v.flat = true) (hr : v.refOK 0 = true) (h : K (LAct.put ⟨tm, df⟩ d (.ptr σ.len 0)) (σ.push (.cells t v.cells))) : OW L pr rnd ⟨d, .box t x, ty, p, af, g⟩ ⟨tm, df⟩ σ K P :=
  OW_box.2 ⟨v, v.wd, hx, hs, ⟨rfl, hf, refOK_all hr _⟩, h⟩
theorem OW_store' {t bt : TypeId} {x y : Operand} {b o s : Nat} {cs : List LV} {v : LV} (hx : opv tm x = some (.ptr b o)) (hy : opv tm y = some v) (hb : boxOf σ b = some (bt, cs)) (hs : sizeL L t = some s) (hw : v.wd = s) (hl : o + s ≤ cs.length) (hf : v.flat = true) (hr : v.refOK 0 = true)
    (h : K (LAct.put ⟨tm, df⟩ d (.tuple [])) (σ.upd b bt (setRange cs o v.cells))) : OW L pr rnd ⟨d, .store t x y, ty, p, af, g⟩ ⟨tm, df⟩ σ K P := by
  refine OW_store.2 ⟨_, v, _, hx, hy, ?_, h⟩
  simp only [storeL, hb, hs]
  rw [if_pos ⟨hw, hl, hf, refOK_all hr _⟩]; rfl
theorem OW_loadBox {t bt : TypeId} {x : Operand} {b o : Nat} {cs : List LV} {v : LV} (hx : opv tm x = some (.ptr b o)) (hb : boxOf σ b = some (bt, cs)) (hp : partL L t cs o = some v) (h : K (LAct.put ⟨tm, df⟩ d v) σ) : OW L pr rnd ⟨d, .load t x, ty, p, af, g⟩ ⟨tm, df⟩ σ K P :=
  OW_load.2 ⟨_, v, hx, by simp only [loadL, hb]; exact hp, h⟩
theorem OW_loadRo {t : TypeId} {x : Operand} {cs : List LV} {v : LV} (hx : opv tm x = some (.ro cs)) (hp : partL L t cs 0 = some v) (h : K (LAct.put ⟨tm, df⟩ d v) σ) : OW L pr rnd ⟨d, .load t x, ty, p, af, g⟩ ⟨tm, df⟩ σ K P :=
  OW_load.2 ⟨_, v, hx, hp, h⟩
theorem OW_indexAddr' {t el : TypeId} {x y : Operand} {xs : List LV} {own : Own} {nz : Option Bool} {k : IntKind} {i : Nat} {e : LV} (hx : opv tm x = some (.slice xs own nz)) (hy : opv tm y = some (.int k i)) (hu : L.und t = some (.slice el)) (he : xs[i]? = some e) (hs : sizeL L el = some e.wd)
    (h : K (LAct.put ⟨tm, df⟩ d (.ro e.cells)) σ) : OW L pr rnd ⟨d, .indexAddr t x y, ty, p, af, g⟩ ⟨tm, df⟩ σ K P := by
  refine OW_indexAddr.2 ⟨_, _, _, hx, hy, ?_, h⟩
  simp only [indexAddrL, hu, Int.toNat_natCast, he, hs, if_true]
  rw [if_pos (Int.natCast_nonneg i)]
theorem OW_append' {args : Array Operand} {ats : Array TypeId} {st xt el el' : TypeId} {y : TyL} {xs ys : List LV} {own own' : Own} {nz nz' : Option Bool}
    (hl : opvs tm args.toList = some [.slice xs own nz, .slice ys own' nz']) (h0 : ats[0]? = some st) (h1 : ats[1]? = some xt) (hu : L.und st = some (.slice el)) (hx : L.und xt = some (.slice el')) (hy : L.tyOf el = some y)
    (hp : 0 < y.size ∧ y.bytes ≤ 16384 ∧ (y.zero.any (·.wd == y.size)) = true) (hn : xs.length + ys.length ≤ 1073741824) (hw : ∀ z ∈ xs, z.wd = y.size) (hw' : ∀ z ∈ ys, z.wd = y.size) (hne : ys ≠ []) (ha : App σ own)
    (h : K (LAct.put ⟨tm, df⟩ d (.slice (xs ++ ys) (.tok σ.toks.length) (some false))) (σ.own own)) : OW L pr rnd ⟨d, .call ⟨.builtin .append, args, ats⟩, ty, p, af, g⟩ ⟨tm, df⟩ σ K P := by
  refine OW_append.2 ⟨_, _, st, _, _, hl, h0, ?_, h⟩
  have e1 : (xs.head?.all (·.wd == y.size)) = true := by
    cases xs with
    | nil => rfl
    | cons a l => simpa using hw a (by simp)
  have e2 : (ys.head?.all (·.wd == y.size)) = true := by
    cases ys with
    | nil => rfl
    | cons a l => simpa using hw' a (by simp)
  simp only [appendL, hu, h1, hx, hy]
  rw [if_pos ⟨hp.1, hp.2.1, hn, e1, e2, hp.2.2⟩]
  cases ys with
  | nil => exact absurd rfl hne
  | cons z zs =>
    cases own with
    | none => exact ha.elim
    | exact => rfl
    | tok k => simp only [App] at ha; simp only [ha, if_true, LH.own]
theorem WC_reg {id : Nat} {ops : Array Oper} {rest : Code} {a : LAct} {Q : LExit → LAct → LH → Prop}
    (h : ∀ (K : LAct → LH → Prop) (gs : Nat → Option Tmp) (P : LV → LAct → LH → Prop), (∀ a σ, WC L pr rnd rest a σ Q → K a σ) → gs = slotOf ops → (∀ v a σ, Q (.panic v) a σ → P v a σ) → RW L pr rnd gs P ops.toList a σ K) : WC L pr rnd (.seq (.region id ops false) rest) a σ Q :=
  WC_seq (WC_region (h _ _ _ (fun a σ h => h) rfl (fun v a σ h => h)))
theorem WC_reg1 {id : Nat} {ops : Array Oper} {a : LAct} {Q : LExit → LAct → LH → Prop}
    (h : ∀ (K : LAct → LH → Prop) (gs : Nat → Option Tmp) (P : LV → LAct → LH → Prop), (∀ a σ, Q .normal a σ → K a σ) → gs = slotOf ops → (∀ v a σ, Q (.panic v) a σ → P v a σ) → RW L pr rnd gs P ops.toList a σ K) : WC L pr rnd (.region id ops false) a σ Q :=
  WC_region (h _ _ _ (fun a σ h => h) rfl (fun v a σ h => h))
theorem eql_int {a b : Int} {t : TypeId} {k : IntKind} : binL L .eql t (.int k a) (.int k b) = some (.bool (a == b)) := by simp [binL, eqL]
theorem neq_int {a b : Int} {t : TypeId} {k : IntKind} : binL L .neq t (.int k a) (.int k b) = some (.bool (!(a == b))) := by simp [binL, eqL]
theorem sub_int {a b : Int} {t : TypeId} : binL L .sub t (.int .i64 a) (.int .i64 b) = some (.int .i64 (IntKind.i64.wrap (a - b))) := by simp only [binL]; rfl
theorem lss_int {a b : Int} {t : TypeId} : binL L .lss t (.int .i64 a) (.int .i64 b) = some (.bool (decide (a < b))) := by simp only [binL]; rfl
theorem leq_int {a b : Int} {t : TypeId} : binL L .leq t (.int .i64 a) (.int .i64 b) = some (.bool (decide (a ≤ b))) := by simp only [binL]; rfl
theorem gtr_int {a b : Int} {t : TypeId} : binL L .gtr t (.int .i64 a) (.int .i64 b) = some (.bool (decide (a > b))) := by simp only [binL]; rfl
theorem geq_int {a b : Int} {t : TypeId} : binL L .geq t (.int .i64 a) (.int .i64 b) = some (.bool (decide (a ≥ b))) := by simp only [binL]; rfl
theorem add_int {a b : Int} {t : TypeId} : binL L .add t (.int .i64 a) (.int .i64 b) = some (.int .i64 (IntKind.i64.wrap (a + b))) := by simp only [binL]; rfl
theorem len_slice {t el : TypeId} {xs : List LV} {own : Own} {nz : Option Bool} (h : L.und t = some (.slice el)) : lenL L t (.slice xs own nz) = some (.int .i64 xs.length) := by simp only [lenL, h]
theorem load_box {σ : LH} {t bt : TypeId} {b o : Nat} {cs : List LV} (h : boxOf σ b = some (bt, cs)) : loadL L σ t (.ptr b o) = partL L t cs o := by simp only [loadL, h]
theorem load_ro {σ : LH} {t : TypeId} {cs : List LV} : loadL L σ t (.ro cs) = partL L t cs 0 := rfl
theorem store_box {σ : LH} {t bt : TypeId} {b o s : Nat} {cs : List LV} {v : LV} (h : boxOf σ b = some (bt, cs)) (hs : sizeL L t = some s) (hw : v.wd = s) (hl : o + s ≤ cs.length) (hf : v.flat = true) (hr : v.refOK 0 = true) :
    storeL L σ t (.ptr b o) v = some (σ.upd b bt (setRange cs o v.cells)) := by
  simp only [storeL, h, hs]
  rw [if_pos ⟨hw, hl, hf, refOK_all hr _⟩]; rfl
theorem index_slice {t el : TypeId} {xs : List LV} {own : Own} {nz : Option Bool} {k : IntKind} {i : Nat} {e : LV} (hu : L.und t = some (.slice el)) (he : xs[i]? = some e) (hs : sizeL L el = some e.wd) :
    indexAddrL L t (.slice xs own nz) (.int k i) = some (.ro e.cells) := by
  simp only [indexAddrL, hu, Int.toNat_natCast, he, hs, if_true]
  rw [if_pos (Int.natCast_nonneg i)]
end Go.Lg
end
section
namespace Go.Lg
variable {L : Look} {pr : Prim}
theorem wrap_in {n : Int} (h1 : -9223372036854775808 ≤ n) (h2 : n ≤ 9223372036854775807) : IntKind.i64.wrap n = n := by
  simp only [IntKind.wrap, IntKind.bits, IntKind.signed, Bool.true_and]
  split
  · rename_i h; have h := of_decide_eq_true h; omega
  · rename_i h; have h : ¬ _ := fun h' => h (decide_eq_true h'); omega
theorem Ret.mk {g : FuncId} {fn : FnL} {args : List LV} {v : LV} (hfn : L.fnOf g = some fn) (hpr : ∀ σ, pr g args σ = none) (hn : args.length ≤ fn.ntmps ∧ fn.ntmps < 511)
    (hg : ∀ x ∈ args, x.Good ∧ x.argC = x) (hv : v.Good) (hs : ∀ xs k nz, v ≠ .slice xs (.tok k) nz)
    (h : ∀ tm : Tm, (∀ k, k < fn.ntmps → tm.has k) → (∀ i x, args[i]? = some x → tm.get i = some x) → WC L pr false fn.body ⟨tm, []⟩ LH.new (endQ L fn.results fun out σ' => out.fin = .ret v)) : Ret L pr g args v := by
  intro σ
  have hm : ([] ++ args ++ []).map LV.argC = args := by
    rw [List.nil_append, List.append_nil]
    exact (List.map_congr_left fun x hx => (hg x hx).2).trans (List.map_id _)
  refine EvF_closed hfn (by rw [List.nil_append, List.append_nil]; exact hpr σ) ?_ ?_
  · rw [hm, goods_ref (fun x hx => (hg x hx).1), goods_tok (fun x hx => (hg x hx).1)]; rfl
  · rw [hm]
    refine (h _ (fun k hk => enter_has hk hn.2) (fun i x hx => enter_get hx hn.1 hn.2)).mono fun e a' σ' hq => ?_
    have key : ∀ out, out.fin = LOut.ret v → closeF σ out σ' = some (.still (.ret v)) := fun out ho => by
      unfold closeF
      simp only [ho]
      have hb : (LOut.ret v).bare.tokOK 0 = true := by
        cases v with
        | slice xs own nz =>
          have := hv.tok 0
          simp only [LV.tokOK, Bool.and_eq_true] at this
          simp only [LOut.bare, LV.tokOK, Own.ok, Bool.true_and]; exact this.2
        | _ => exact hv.tok 0
      rw [if_pos ⟨hv.ref 0, hb⟩]
      split
      · rename_i xs k nz heq
        injection heq with heq
        exact absurd heq (hs _ _ _)
      · rfl
    cases e with
    | normal => obtain ⟨h1, vs, h2, h3⟩ := hq; exact ⟨h1, vs, h2, key _ h3⟩
    | ret => obtain ⟨h1, vs, h2, h3⟩ := hq; exact ⟨h1, vs, h2, key _ h3⟩
    | panic u => obtain ⟨h1, h2⟩ := hq; exact ⟨h1, key _ h2⟩
    | exit id => exact hq
theorem gargs_nil : ∀ x ∈ ([] : List LV), x.Good ∧ x.argC = x := fun x hx => by cases hx
theorem gargs_cons {v : LV} {l : List LV} (h : v.Good ∧ v.argC = v) (hl : ∀ x ∈ l, x.Good ∧ x.argC = x) : ∀ x ∈ v :: l, x.Good ∧ x.argC = x := fun x hx => by
  rcases List.mem_cons.1 hx with rfl | hx
  · exact h
  · exact hl x hx
theorem gint {k : IntKind} {n : Int} : (LV.int k n).Good ∧ (LV.int k n).argC = .int k n := ⟨good_int, rfl⟩
theorem gbool {b : Bool} : (LV.bool b).Good ∧ (LV.bool b).argC = .bool b := ⟨good_bool, rfl⟩
theorem gstr {s : ByteArray} : (LV.str s).Good ∧ (LV.str s).argC = .str s := ⟨good_str, rfl⟩
theorem RW_step {gs : Nat → Option Tmp} {P : LV → LAct → LH → Prop} {K : LAct → LH → Prop} {tm : Tm} {df : List LDef} {σ : LH} {d : Option Tmp} {op : Op} {ty : TypeId} {p : String} {af : Array Edge} {os : List Oper} {rnd : Bool}
    (h : OW L pr rnd ⟨d, op, ty, p, af, none⟩ ⟨tm, df⟩ σ (fun a' σ' => RW L pr rnd gs P os a' σ' K) P) : RW L pr rnd gs P (⟨d, op, ty, p, af, none⟩ :: os) ⟨tm, df⟩ σ K := RW_plain.2 h
end Go.Lg
end
section
set_option linter.unusedSimpArgs false
namespace Go.Lg
variable {L : Look} {pr : Prim} {rnd : Bool}
def Slots (tm : Tm) (N : Nat) (l : List (Nat × LV)) : Prop := (∀ k, k < N → tm.has k) ∧ ∀ p ∈ l, tm.get p.1 = some p.2
theorem slots_put {tm : Tm} {N d : Nat} {l : List (Nat × LV)} {v : LV} (hd : d < N) (h : Slots tm N l) : Slots (tm.put d v) N ((d, v) :: l.filter fun p => p.1 ≠ d) := by
  refine ⟨fun k hk => has_put.2 (h.1 k hk), fun p hp => ?_⟩
  rcases List.mem_cons.1 hp with rfl | hp
  · exact get_same (h.1 d hd)
  · rw [List.mem_filter] at hp
    rw [get_other (by simpa using hp.2)]
    exact h.2 p hp.1
theorem slots_get {tm : Tm} {N k : Nat} {l : List (Nat × LV)} {v : LV} (h : Slots tm N l) (hv : l.lookup k = some v) : tm.get k = some v := by
  have : (k, v) ∈ l := by
    clear h
    induction l with
    | nil => simp at hv
    | cons p l ih =>
      obtain ⟨j, u⟩ := p
      rw [List.lookup_cons] at hv
      split at hv
      · rename_i e
        injection hv with hv; subst hv
        have : k = j := by simpa using e
        subst this; simp
      · exact List.mem_cons_of_mem _ (ih hv)
  exact h.2 _ this
theorem slots_sub {tm : Tm} {N : Nat} {l l' : List (Nat × LV)} (h : Slots tm N l) (hs : ∀ p ∈ l', p ∈ l) : Slots tm N l' := ⟨h.1, fun p hp => h.2 p (hs p hp)⟩
theorem slots_has {tm : Tm} {N k : Nat} {l : List (Nat × LV)} (h : Slots tm N l) (hk : k < N) : tm.has k := h.1 k hk
theorem WC_range {r1 r2 c u ti tn N n ty1 ty2 ty3 x0 : Nat} {t1 t2 t3 t4 : TypeId} {p1 p2 p3 : String} {a1 a2 a3 : Array Edge} {B : Code} {Q : LExit → LAct → LH → Prop}
    (I : Nat → LAct → LH → Prop)
    (hI : ∀ i a σ, I i a σ → (∀ k, k < N → a.tmps.has k) ∧ a.tmps.get ti = some (.int .i64 i) ∧ a.tmps.get tn = some (.int .i64 n))
    (hc : c < N) (hu : u < N) (hti : ti < N) (hcu : c ≠ u) (hct : c ≠ ti) (hut : u ≠ ti) (hcn : c ≠ tn) (hsm : n < 4611686018427387904)
    (step : ∀ i tm df σ, i < n → I i ⟨tm, df⟩ σ → WC L pr rnd B ⟨tm.put c (.bool true), df⟩ σ (thenQ (fun a' σ' => (∀ k, k < N → a'.tmps.has k) ∧ a'.tmps.get ti = some (.int .i64 i) ∧ I (i + 1) ⟨(a'.tmps.put u (.int .i64 (i + 1 : Nat))).put ti (.int .i64 (i + 1 : Nat)), a'.defers⟩ σ') Q))
    (fin : ∀ tm df σ, I n ⟨tm, df⟩ σ → Q (.exit x0) ⟨tm.put c (.bool false), df⟩ σ) :
    ∀ k i a σ, n = i + k → I i a σ → WC L pr rnd (.loop (.seq (.region r1 #[⟨some c, .binOp .lss t1 (.tmp ti) (.tmp tn) t2, ty1, p1, a1, none⟩] false) (.seq (.cond (.tmp c) .skip (.exit x0)) (.seq B (.region r2 #[⟨some u, .binOp .add t3 (.tmp ti) (.const (.int .i64 1)) t4, ty2, p2, a2, none⟩, ⟨some ti, .move (.tmp u), ty3, p3, a3, none⟩] false))))) a σ Q := by
  intro k
  induction k with
  | zero =>
    intro i a σ hik hi
    have hin : i = n := by omega
    subst hin
    obtain ⟨tm, df⟩ := a
    obtain ⟨h1, h2, h3⟩ := hI _ _ _ hi
    refine WC_loop (WC_reg fun K _ _ hK _ _ => RW_step (OW_bin.2 ⟨_, _, _, h2, h3, lss_int, ?_⟩))
    refine hK _ _ ?_
    refine WC_seq (WC_cond (b := false) ?_ (fun h => by cases h) (fun _ => WC_exit ?_))
    · show (Tm.put _ _ _).get c = _
      rw [get_same (h1 c hc)]; simp
    · have := fin tm df σ hi
      simp only [thenQ]
      have e : decide ((i : Int) < (i : Int)) = false := by simp
      rw [show (LAct.put ⟨tm, df⟩ (some c) (LV.bool (decide ((i : Int) < (i : Int))))) = ⟨tm.put c (.bool false), df⟩ by rw [e]; rfl]
      exact this
  | succ k ih =>
    intro i a σ hik hi
    obtain ⟨tm, df⟩ := a
    obtain ⟨h1, h2, h3⟩ := hI _ _ _ hi
    have hlt : i < n := by omega
    refine WC_loop (WC_reg fun K _ _ hK _ _ => RW_step (OW_bin.2 ⟨_, _, _, h2, h3, lss_int, ?_⟩))
    refine hK _ _ ?_
    have e : decide ((i : Int) < (n : Int)) = true := by simp; omega
    rw [show (LAct.put ⟨tm, df⟩ (some c) (LV.bool (decide ((i : Int) < (n : Int))))) = ⟨tm.put c (.bool true), df⟩ by rw [e]; rfl]
    refine WC_seq (WC_cond (b := true) (get_same (h1 c hc)) (fun _ => WC_skip ?_) (fun h => by cases h))
    simp only [thenQ]
    refine WC_seq ((step i tm df σ hlt hi).mono fun ex a' σ' hq => ?_)
    cases ex with
    | normal =>
      obtain ⟨g1, g2, g3⟩ := hq
      obtain ⟨tm', df'⟩ := a'
      simp only [thenQ]
      refine WC_reg1 fun K _ _ hK _ _ => RW_step (OW_bin.2 ⟨_, _, _, g2, rfl, add_int, ?_⟩)
      refine RW_step (OW_move.2 ⟨_, get_same (g1 u hu), ?_⟩)
      refine hK _ _ ?_
      have hw : IntKind.i64.wrap ((i : Int) + 1) = ((i + 1 : Nat) : Int) := by
        rw [show ((i : Int) + 1) = ((i + 1 : Nat) : Int) by omega]
        exact wrap_in (by omega) (by omega)
      simp only [hw, put_some, thenQ]
      exact ih (i + 1) _ _ (by omega) g3
    | exit id => exact hq
    | ret => exact hq
    | panic v => exact hq
def Boxes (σ : LH) (l : List (Nat × TypeId × List LV)) : Prop := ∀ p ∈ l, boxOf σ p.1 = some p.2
theorem boxes_push {σ : LH} {o : LObj} {l : List (Nat × TypeId × List LV)} (h : Boxes σ l) : Boxes (σ.push o) l := fun p hp => box_push_of (h p hp)
theorem boxes_new {σ : LH} {t : TypeId} {cs : List LV} {l : List (Nat × TypeId × List LV)} (h : Boxes σ l) : Boxes (σ.push (.cells t cs)) ((σ.len, t, cs) :: l) := fun p hp => by
  rcases List.mem_cons.1 hp with rfl | hp
  · exact box_push
  · exact box_push_of (h p hp)
theorem boxes_upd {σ : LH} {b : Nat} {t : TypeId} {cs : List LV} {l : List (Nat × TypeId × List LV)} (hb : b < σ.len) (h : Boxes σ l) : Boxes (σ.upd b t cs) ((b, t, cs) :: l.filter fun p => p.1 ≠ b) := fun p hp => by
  rcases List.mem_cons.1 hp with rfl | hp
  · exact box_upd hb
  · rw [List.mem_filter] at hp
    rw [box_upd_ne (by simpa using hp.2)]; exact h p hp.1
theorem boxes_own {σ : LH} {w : Own} {l : List (Nat × TypeId × List LV)} (h : Boxes σ l) : Boxes (σ.own w) l := fun p hp => box_own.trans (h p hp)
theorem EvF.uniq {f : LV} {args : List LV} {σ : LH} {c c' : CR} (h : EvF L pr f args σ c) (h' : EvF L pr f args σ c') : c = c' := by
  obtain ⟨n, hn⟩ := h
  obtain ⟨n', hn'⟩ := h'
  have := hn (max n n') (by omega)
  rw [hn' (max n n') (by omega)] at this
  injection this with this; exact this.symm
theorem call_iff {f : FuncId} {l : List LV} {v : LV} (h : Ret L pr f l v) {σ : LH} {M : CR → Prop} : (∃ cr, EvF L pr (.func (.func f) [] []) l σ cr ∧ M cr) ↔ M (.still (.ret v)) :=
  ⟨fun ⟨cr, h1, h2⟩ => (EvF.uniq h1 (h σ)) ▸ h2, fun hm => ⟨_, h σ, hm⟩⟩
end Go.Lg
end
section
namespace Go.Lg
inductive Term where
  | mk (kind n : Int) (name : ByteArray) (args : List Term)
namespace Term
def kind : Term → Int | .mk k _ _ _ => k
def n : Term → Int | .mk _ n _ _ => n
def name : Term → ByteArray | .mk _ _ s _ => s
def args : Term → List Term | .mk _ _ _ l => l
end Term
mutual
def encT : Term → LV
  | .mk k n s l => .agg [.int .i64 k, .int .i64 n, .str s, .slice (encTs l) .none none]
def encTs : List Term → List LV
  | [] => []
  | x :: xs => encT x :: encTs xs
end
theorem encTs_map : ∀ l, encTs l = l.map encT
  | [] => rfl
  | x :: xs => by rw [encTs, encTs_map xs]; rfl
theorem encT_eq (t : Term) : encT t = .agg [.int .i64 t.kind, .int .i64 t.n, .str t.name, .slice (t.args.map encT) .none none] := by
  cases t with
  | mk k n s l => rw [encT, encTs_map]; rfl
theorem Term.ind {P : Term → Prop} (h : ∀ t : Term, (∀ x ∈ t.args, P x) → P t) : ∀ t, P t := by
  intro t
  refine Term.rec (motive_1 := P) (motive_2 := fun l => ∀ x ∈ l, P x) ?_ ?_ ?_ t
  · intro k n s l ih; exact h _ ih
  · intro x hx; cases hx
  · intro x xs h1 h2 y hy
    rcases List.mem_cons.1 hy with e | e
    · exact e ▸ h1
    · exact h2 y e
theorem encT_good : ∀ t : Term, (encT t).Good := by
  refine Term.ind fun t ih => ?_
  rw [encT_eq]
  refine good_agg fun x hx => ?_
  simp only [List.mem_cons, List.not_mem_nil, or_false] at hx
  rcases hx with rfl | rfl | rfl | rfl
  · exact good_int
  · exact good_int
  · exact good_str
  · refine good_slice fun y hy => ?_
    obtain ⟨z, hz, rfl⟩ := List.mem_map.1 hy
    exact ih z hz
theorem encT_wd (t : Term) : (encT t).wd = 4 := by rw [encT_eq]; rfl
theorem encT_flat (t : Term) : (encT t).flat = true := by rw [encT_eq]; rfl
theorem encT_cells (t : Term) : (encT t).cells = [.int .i64 t.kind, .int .i64 t.n, .str t.name, .slice (t.args.map encT) .none none] := by rw [encT_eq]; rfl
theorem encT_argC (t : Term) : (encT t).argC = encT t := by rw [encT_eq]; rfl
theorem encT_canonR (t : Term) : (encT t).canonR = encT t := by rw [encT_eq]; rfl
theorem encT_canon (t : Term) : (encT t).canon = encT t := by rw [encT_eq]; rfl
end Go.Lg
end
section
set_option linter.unusedSimpArgs false
namespace Go.Lg
def lk : List (Nat × LV) → Nat → Option LV
  | [], _ => none
  | (a, v) :: l, k => bif Nat.beq a k then some v else lk l k
def SL (tm : Tm) (N : Nat) (l : List (Nat × LV)) : Prop := (∀ k, k < N → tm.has k) ∧ ∀ k v, lk l k = some v → tm.get k = some v
theorem SL.put {tm : Tm} {N d : Nat} {l : List (Nat × LV)} {v : LV} (hd : Nat.blt d N = true) (h : SL tm N l) : SL (tm.put d v) N ((d, v) :: l) := by
  have hd' : d < N := by simpa [Nat.blt_eq] using hd
  refine ⟨fun k hk => has_put.2 (h.1 k hk), fun k u hu => ?_⟩
  simp only [lk] at hu
  cases hb : Nat.beq d k with
  | true =>
    rw [hb] at hu
    have := Nat.eq_of_beq_eq_true hb
    subst this
    simp at hu; subst hu
    exact get_same (h.1 d hd')
  | false =>
    rw [hb] at hu
    have hne : k ≠ d := fun e => by subst e; rw [Nat.beq_refl] at hb; cases hb
    rw [get_other hne]; exact h.2 k u hu
def Sub (l0 l : List (Nat × LV)) : Prop := ∀ k v, lk l0 k = some v → lk l k = some v
theorem sub_nil {l : List (Nat × LV)} : Sub [] l := fun k v h => by cases h
theorem sub_cons {l0 l : List (Nat × LV)} {k : Nat} {v : LV} (h : lk l k = some v) (hs : Sub l0 l) : Sub ((k, v) :: l0) l := fun j u hu => by
  simp only [lk] at hu
  cases hb : Nat.beq k j with
  | true =>
    rw [hb] at hu
    have := Nat.eq_of_beq_eq_true hb
    subst this
    simp at hu; subst hu; exact h
  | false => rw [hb] at hu; exact hs j u hu
theorem SL.sub {tm : Tm} {N : Nat} {l l0 : List (Nat × LV)} (h : SL tm N l) (hs : Sub l0 l) : SL tm N l0 := ⟨h.1, fun k v hv => h.2 k v (hs k v hv)⟩
def ov (l : List (Nat × LV)) : Operand → Option LV
  | .tmp t => lk l t
  | .const v => ofV v
  | .func f => some (.func (.func f) [] [])
  | .global _ => none
theorem ov_sound {tm : Tm} {N : Nat} {l : List (Nat × LV)} (h : SL tm N l) {x : Operand} {v : LV} (hv : ov l x = some v) : opv tm x = some v := by
  cases x with
  | tmp t => exact h.2 t v hv
  | _ => exact hv
inductive OVs (l : List (Nat × LV)) : List Operand → List LV → Prop
  | nil : OVs l [] []
  | cons {x : Operand} {v : LV} {xs : List Operand} {vs : List LV} (h : ov l x = some v) (hs : OVs l xs vs) : OVs l (x :: xs) (v :: vs)
theorem OVs.sound {tm : Tm} {N : Nat} {l : List (Nat × LV)} (h : SL tm N l) {xs : List Operand} {vs : List LV} (hv : OVs l xs vs) : opvs tm xs = some vs := by
  induction hv with
  | nil => rfl
  | cons h1 _ ih => simp only [opvs, ov_sound h h1, ih]
inductive PVs (l : List (Nat × LV)) : List (Nat × Operand) → List (Nat × LV) → Prop
  | nil : PVs l [] []
  | cons {i : Nat} {x : Operand} {v : LV} {xs : List (Nat × Operand)} {vs : List (Nat × LV)} (h : ov l x = some v) (hs : PVs l xs vs) : PVs l ((i, x) :: xs) ((i, v) :: vs)
theorem PVs.sound {tm : Tm} {N : Nat} {l : List (Nat × LV)} (h : SL tm N l) {xs : List (Nat × Operand)} {vs : List (Nat × LV)} (hv : PVs l xs vs) : partsL tm xs = some vs := by
  induction hv with
  | nil => rfl
  | cons h1 _ ih => simp only [partsL, ov_sound h h1, ih]
section
variable (L : Look) (pr : Prim) (rnd : Bool) (N : Nat) (df : List LDef)
def WS (c : Code) (l : List (Nat × LV)) (σ : LH) (Q : LExit → LAct → LH → Prop) : Prop := ∀ tm, SL tm N l → WC L pr rnd c ⟨tm, df⟩ σ Q
def RS (gs : Nat → Option Tmp) (P : LV → LAct → LH → Prop) (os : List Oper) (l : List (Nat × LV)) (σ : LH) (K : List (Nat × LV) → LH → Prop) : Prop :=
  ∀ tm, SL tm N l → RW L pr rnd gs P os ⟨tm, df⟩ σ (fun a' σ' => a'.defers = df ∧ ∃ l', SL a'.tmps N l' ∧ K l' σ')
end
variable {L : Look} {pr : Prim} {rnd : Bool} {N : Nat} {df : List LDef} {l : List (Nat × LV)} {σ : LH} {Q : LExit → LAct → LH → Prop}
theorem WS_seq {x y : Code} (h : WS L pr rnd N df x l σ (thenQ (fun a' σ' => WC L pr rnd y a' σ' Q) Q)) : WS L pr rnd N df (.seq x y) l σ Q := fun tm ht => WC_seq (h tm ht)
theorem WS_skip (h : ∀ tm, SL tm N l → Q .normal ⟨tm, df⟩ σ) : WS L pr rnd N df .skip l σ Q := fun tm ht => WC_skip (h tm ht)
theorem WS_exit {id : Nat} (h : ∀ tm, SL tm N l → Q (.exit id) ⟨tm, df⟩ σ) : WS L pr rnd N df (.exit id) l σ Q := fun tm ht => WC_exit (h tm ht)
theorem WS_ret (h : ∀ tm, SL tm N l → Q .ret ⟨tm, df⟩ σ) : WS L pr rnd N df .ret l σ Q := fun tm ht => WC_ret (h tm ht)
theorem WS_block {id : Nat} {c : Code} (h : WS L pr rnd N df c l σ (blockQ id Q)) : WS L pr rnd N df (.block id c) l σ Q := fun tm ht => WC_block (h tm ht)
theorem WS_cond {c : Operand} {x y : Code} {b : Bool} (hb : ov l c = some (.bool b)) (ht : b = true → WS L pr rnd N df x l σ Q) (hf : b = false → WS L pr rnd N df y l σ Q) : WS L pr rnd N df (.cond c x y) l σ Q :=
  fun tm h => WC_cond (ov_sound h hb) (fun e => ht e tm h) (fun e => hf e tm h)
theorem WS.weaken {c : Code} {l0 : List (Nat × LV)} (hs : Sub l0 l) (h : WS L pr rnd N df c l0 σ Q) : WS L pr rnd N df c l σ Q := fun tm ht => h tm (ht.sub hs)
theorem WS_reg {id : Nat} {ops : Array Oper} {rest : Code}
    (h : ∀ (K : List (Nat × LV) → LH → Prop) (gs : Nat → Option Tmp) (P : LV → LAct → LH → Prop), (∀ l' σ', WS L pr rnd N df rest l' σ' Q → K l' σ') → gs = slotOf ops → (∀ v a σ, Q (.panic v) a σ → P v a σ) → RS L pr rnd N df gs P ops.toList l σ K) : WS L pr rnd N df (.seq (.region id ops false) rest) l σ Q :=
  fun tm ht => WC_reg fun K gs P hK hgs hP => by
    have := h (fun l' σ' => ∀ tm', SL tm' N l' → K ⟨tm', df⟩ σ') gs P (fun l' σ' hw tm' ht' => hK _ _ (hw tm' ht')) hgs hP tm ht
    exact this.mono' fun a' σ' ⟨hd, l', h1, h2⟩ => by
      obtain ⟨tm', df'⟩ := a'
      simp only at hd h1; subst hd
      exact h2 tm' h1
theorem WS_reg1 {id : Nat} {ops : Array Oper}
    (h : ∀ (K : List (Nat × LV) → LH → Prop) (gs : Nat → Option Tmp) (P : LV → LAct → LH → Prop), (∀ l' σ', (∀ tm, SL tm N l' → Q .normal ⟨tm, df⟩ σ') → K l' σ') → gs = slotOf ops → (∀ v a σ, Q (.panic v) a σ → P v a σ) → RS L pr rnd N df gs P ops.toList l σ K) : WS L pr rnd N df (.region id ops false) l σ Q :=
  fun tm ht => WC_reg1 fun K gs P hK hgs hP => by
    have := h (fun l' σ' => ∀ tm', SL tm' N l' → K ⟨tm', df⟩ σ') gs P (fun l' σ' hw tm' ht' => hK _ _ (hw tm' ht')) hgs hP tm ht
    exact this.mono' fun a' σ' ⟨hd, l', h1, h2⟩ => by
      obtain ⟨tm', df'⟩ := a'
      simp only at hd h1; subst hd
      exact h2 tm' h1
variable {gs : Nat → Option Tmp} {P : LV → LAct → LH → Prop} {K : List (Nat × LV) → LH → Prop} {d : Nat} {ty : TypeId} {p : String} {af : Array Edge} {os : List Oper}
theorem o_nil (h : K l σ) : RS L pr rnd N df gs P [] l σ K := fun tm ht => ⟨rfl, l, ht, h⟩
theorem o_yes {o : Oper} {j : Nat} {w : Bool} {dj : Nat} (hg : o.guard = some (j, w)) (hj : gs j = some dj) (hb : lk l dj = some (.bool w)) (h : RS L pr rnd N df gs P ({ o with guard := none } :: os) l σ K) : RS L pr rnd N df gs P (o :: os) l σ K := by
  obtain ⟨d, op, ty, p, af, g⟩ := o
  simp only at hg; subst hg
  intro tm ht
  obtain ⟨b, hb', h1, _⟩ := h tm ht
  simp only [wantedG] at hb'
  injection hb' with hb'
  refine ⟨true, by simp only [wantedG, hj, ht.2 _ _ hb, beq_self_eq_true], fun _ => ?_, fun h => by cases h⟩
  have := h1 hb'.symm
  unfold OW at this ⊢
  exact this
theorem o_no {o : Oper} {j : Nat} {w : Bool} {dj : Nat} (hg : o.guard = some (j, w)) (hd : o.dst = some d) (hN : Nat.blt d N = true) (hj : gs j = some dj) (hb : lk l dj = some (.bool (!w))) (h : RS L pr rnd N df gs P os ((d, .tuple []) :: l) σ K) : RS L pr rnd N df gs P (o :: os) l σ K := by
  obtain ⟨d', op, ty, p, af, g⟩ := o
  simp only at hg hd; subst hg; subst hd
  intro tm ht
  refine ⟨false, by simp only [wantedG, hj, ht.2 _ _ hb]; cases w <;> rfl, (fun h => by cases h), fun _ => h _ (ht.put hN)⟩
theorem o_not {o : Oper} {j : Nat} {w : Bool} {dj : Nat} (hg : o.guard = some (j, w)) (hd : o.dst = some d) (hN : Nat.blt d N = true) (hj : gs j = some dj) (hb : lk l dj = some (.tuple [])) (h : RS L pr rnd N df gs P os ((d, .tuple []) :: l) σ K) : RS L pr rnd N df gs P (o :: os) l σ K := by
  obtain ⟨d', op, ty, p, af, g⟩ := o
  simp only at hg hd; subst hg; subst hd
  intro tm ht
  refine ⟨false, by simp only [wantedG, hj, ht.2 _ _ hb], (fun h => by cases h), fun _ => h _ (ht.put hN)⟩
theorem o_mv {x : Operand} {v : LV} (hN : Nat.blt d N = true) (hx : ov l x = some v) (h : RS L pr rnd N df gs P os ((d, v) :: l) σ K) : RS L pr rnd N df gs P (⟨some d, .move x, ty, p, af, none⟩ :: os) l σ K :=
  fun tm ht => RW_step (OW_move.2 ⟨v, ov_sound ht hx, h _ (ht.put hN)⟩)
theorem o_as {x : Operand} {v : LV} (hN : Nat.blt d N = true) (hx : ov l x = some v) (h : RS L pr rnd N df gs P os ((d, v) :: l) σ K) : RS L pr rnd N df gs P (⟨some d, .assign x, ty, p, af, none⟩ :: os) l σ K :=
  fun tm ht => RW_step (OW_assign.2 ⟨v, ov_sound ht hx, h _ (ht.put hN)⟩)
theorem o_pick {x y z : Operand} {c : Bool} {v : LV} (hN : Nat.blt d N = true) (hx : ov l x = some (.bool c)) (hv : (bif c then ov l y else ov l z) = some v) (h : RS L pr rnd N df gs P os ((d, v) :: l) σ K) : RS L pr rnd N df gs P (⟨some d, .pick x y z, ty, p, af, none⟩ :: os) l σ K :=
  fun tm ht => RW_step (OW_pick.2 ⟨c, v, ov_sound ht hx, by cases c <;> exact ov_sound ht hv, h _ (ht.put hN)⟩)
theorem o_bin {op : BinOp} {t t' : TypeId} {x y : Operand} {u v r : LV} (hN : Nat.blt d N = true) (hx : ov l x = some u) (hy : ov l y = some v) (hr : binL L op t u v = some r) (h : RS L pr rnd N df gs P os ((d, r) :: l) σ K) : RS L pr rnd N df gs P (⟨some d, .binOp op t x y t', ty, p, af, none⟩ :: os) l σ K :=
  fun tm ht => RW_step (OW_bin.2 ⟨u, v, r, ov_sound ht hx, ov_sound ht hy, hr, h _ (ht.put hN)⟩)
theorem o_un {op : UnOp} {t : TypeId} {x : Operand} {u r : LV} (hN : Nat.blt d N = true) (hx : ov l x = some u) (hr : unL L op u = some r) (h : RS L pr rnd N df gs P os ((d, r) :: l) σ K) : RS L pr rnd N df gs P (⟨some d, .unOp op t x, ty, p, af, none⟩ :: os) l σ K :=
  fun tm ht => RW_step (OW_un.2 ⟨u, r, ov_sound ht hx, hr, h _ (ht.put hN)⟩)
theorem o_conv {s t : TypeId} {x : Operand} {u r : LV} (hN : Nat.blt d N = true) (hx : ov l x = some u) (hr : convL L s t u = some r) (h : RS L pr rnd N df gs P os ((d, r) :: l) σ K) : RS L pr rnd N df gs P (⟨some d, .convert s t x, ty, p, af, none⟩ :: os) l σ K :=
  fun tm ht => RW_step (OW_conv.2 ⟨u, r, ov_sound ht hx, hr, h _ (ht.put hN)⟩)
theorem o_mki {t : TypeId} {x : Operand} {u r : LV} (hN : Nat.blt d N = true) (hx : ov l x = some u) (hr : ifaceL L t u = some r) (h : RS L pr rnd N df gs P os ((d, r) :: l) σ K) : RS L pr rnd N df gs P (⟨some d, .makeInterface t x, ty, p, af, none⟩ :: os) l σ K :=
  fun tm ht => RW_step (OW_iface.2 ⟨u, r, ov_sound ht hx, hr, h _ (ht.put hN)⟩)
theorem o_fa {t : TypeId} {x : Operand} {f : Nat} {u r : LV} (hN : Nat.blt d N = true) (hx : ov l x = some u) (hr : fieldAddrL L t u f = some r) (h : RS L pr rnd N df gs P os ((d, r) :: l) σ K) : RS L pr rnd N df gs P (⟨some d, .fieldAddr t x f, ty, p, af, none⟩ :: os) l σ K :=
  fun tm ht => RW_step (OW_fieldAddr.2 ⟨u, r, ov_sound ht hx, hr, h _ (ht.put hN)⟩)
theorem o_fd {t : TypeId} {x : Operand} {f : Nat} {u r : LV} (hN : Nat.blt d N = true) (hx : ov l x = some u) (hr : fieldL L t u f = some r) (h : RS L pr rnd N df gs P os ((d, r) :: l) σ K) : RS L pr rnd N df gs P (⟨some d, .field t x f, ty, p, af, none⟩ :: os) l σ K :=
  fun tm ht => RW_step (OW_field.2 ⟨u, r, ov_sound ht hx, hr, h _ (ht.put hN)⟩)
theorem o_ia {t : TypeId} {x y : Operand} {u v r : LV} (hN : Nat.blt d N = true) (hx : ov l x = some u) (hy : ov l y = some v) (hr : indexAddrL L t u v = some r) (h : RS L pr rnd N df gs P os ((d, r) :: l) σ K) : RS L pr rnd N df gs P (⟨some d, .indexAddr t x y, ty, p, af, none⟩ :: os) l σ K :=
  fun tm ht => RW_step (OW_indexAddr.2 ⟨u, v, r, ov_sound ht hx, ov_sound ht hy, hr, h _ (ht.put hN)⟩)
theorem o_ix {t : TypeId} {x y : Operand} {u v r : LV} (hN : Nat.blt d N = true) (hx : ov l x = some u) (hy : ov l y = some v) (hr : indexL L t u v = some r) (h : RS L pr rnd N df gs P os ((d, r) :: l) σ K) : RS L pr rnd N df gs P (⟨some d, .index t x y, ty, p, af, none⟩ :: os) l σ K :=
  fun tm ht => RW_step (OW_index.2 ⟨u, v, r, ov_sound ht hx, ov_sound ht hy, hr, h _ (ht.put hN)⟩)
theorem o_ext {x : Operand} {i : Nat} {vs : List LV} {r : LV} (hN : Nat.blt d N = true) (hx : ov l x = some (.tuple vs)) (hr : vs[i]? = some r) (h : RS L pr rnd N df gs P os ((d, r) :: l) σ K) : RS L pr rnd N df gs P (⟨some d, .extract x i, ty, p, af, none⟩ :: os) l σ K :=
  fun tm ht => RW_step (OW_extract.2 ⟨vs, r, ov_sound ht hx, hr, h _ (ht.put hN)⟩)
theorem o_bld {t : TypeId} {ps : Array (Nat × Operand)} {vs : List (Nat × LV)} {r : LV} (hN : Nat.blt d N = true) (hx : PVs l ps.toList vs) (hr : buildL L t vs = some r) (h : RS L pr rnd N df gs P os ((d, r) :: l) σ K) : RS L pr rnd N df gs P (⟨some d, .build t ps, ty, p, af, none⟩ :: os) l σ K :=
  fun tm ht => RW_step (OW_build.2 ⟨vs, r, hx.sound ht, hr, h _ (ht.put hN)⟩)
theorem o_bsl [Pl L] {t : TypeId} {n : Nat} {ps : Array (Nat × Operand)} {vs : List (Nat × LV)} {r : LV} (hN : Nat.blt d N = true) (hx : PVs l ps.toList vs) (hr : buildSliceL L t n vs = some r) (h : RS L pr rnd N df gs P os ((d, r) :: l) σ K) : RS L pr rnd N df gs P (⟨some d, .buildSlice t n ps, ty, p, af, none⟩ :: os) l σ K :=
  fun tm ht => RW_step (OW_buildSlice.2 ⟨vs, r, hx.sound ht, hr, h _ (ht.put hN)⟩)
theorem o_len {x : Operand} {t : TypeId} {ats : Array TypeId} {u r : LV} (hN : Nat.blt d N = true) (hx : ov l x = some u) (ht0 : ats[0]? = some t) (hr : lenL L t u = some r) (h : RS L pr rnd N df gs P os ((d, r) :: l) σ K) : RS L pr rnd N df gs P (⟨some d, .call ⟨.builtin .len, #[x], ats⟩, ty, p, af, none⟩ :: os) l σ K :=
  fun tm ht => RW_step (OW_len.2 ⟨u, t, r, by simp only [opvs, ov_sound ht hx], ht0, hr, h _ (ht.put hN)⟩)
theorem max_int {L : Look} {ats : Array TypeId} {ty : TypeId} {a b : Int} : minmaxL L .max ats ty [.int .i64 a, .int .i64 b] = minmaxL L .max ats ty [.int .i64 a, .int .i64 b] := rfl
theorem o_max {xs : Array Operand} {ats : Array TypeId} {vs : List LV} {r : LV} (hN : Nat.blt d N = true) (hx : OVs l xs.toList vs) (hr : minmaxL L .max ats ty vs = some r) (h : RS L pr rnd N df gs P os ((d, r) :: l) σ K) : RS L pr rnd N df gs P (⟨some d, .call ⟨.builtin .max, xs, ats⟩, ty, p, af, none⟩ :: os) l σ K :=
  fun tm ht => RW_step (OW_max.2 ⟨vs, r, hx.sound ht, hr, h _ (ht.put hN)⟩)
theorem o_min {xs : Array Operand} {ats : Array TypeId} {vs : List LV} {r : LV} (hN : Nat.blt d N = true) (hx : OVs l xs.toList vs) (hr : minmaxL L .min ats ty vs = some r) (h : RS L pr rnd N df gs P os ((d, r) :: l) σ K) : RS L pr rnd N df gs P (⟨some d, .call ⟨.builtin .min, xs, ats⟩, ty, p, af, none⟩ :: os) l σ K :=
  fun tm ht => RW_step (OW_min.2 ⟨vs, r, hx.sound ht, hr, h _ (ht.put hN)⟩)
theorem o_mkf {f : FuncId} {fs cs : Array Operand} {vs vs' : List LV} (hN : Nat.blt d N = true) (hx : OVs l fs.toList vs) (hy : OVs l cs.toList vs') (h : RS L pr rnd N df gs P os ((d, .func (.func f) vs vs') :: l) σ K) : RS L pr rnd N df gs P (⟨some d, .makeFunc (.func f) fs cs, ty, p, af, none⟩ :: os) l σ K :=
  fun tm ht => RW_step (OW_makeFunc.2 ⟨vs, vs', hx.sound ht, hy.sound ht, h _ (ht.put hN)⟩)
theorem o_al {t : TypeId} {z : LV} (hN : Nat.blt d N = true) (hz : zeroLV L t = some z) (hf : z.flat = true) (hr : z.refOK 0 = true) (h : RS L pr rnd N df gs P os ((d, .ptr σ.len 0) :: l) (σ.push (.cells t z.cells)) K) : RS L pr rnd N df gs P (⟨some d, .alloc t, ty, p, af, none⟩ :: os) l σ K :=
  fun tm ht => RW_step (OW_alloc' hz hf hr (h _ (ht.put hN)))
theorem o_box {t : TypeId} {x : Operand} {v : LV} (hN : Nat.blt d N = true) (hx : ov l x = some v) (hs : sizeL L t = some v.wd) (hf : v.flat = true) (hr : v.refOK 0 = true) (h : RS L pr rnd N df gs P os ((d, .ptr σ.len 0) :: l) (σ.push (.cells t v.cells)) K) : RS L pr rnd N df gs P (⟨some d, .box t x, ty, p, af, none⟩ :: os) l σ K :=
  fun tm ht => RW_step (OW_box' (ov_sound ht hx) hs hf hr (h _ (ht.put hN)))
theorem o_ld {t : TypeId} {x : Operand} {u r : LV} (hN : Nat.blt d N = true) (hx : ov l x = some u) (hr : loadL L σ t u = some r) (h : RS L pr rnd N df gs P os ((d, r) :: l) σ K) : RS L pr rnd N df gs P (⟨some d, .load t x, ty, p, af, none⟩ :: os) l σ K :=
  fun tm ht => RW_step (OW_load.2 ⟨u, r, ov_sound ht hx, hr, h _ (ht.put hN)⟩)
theorem o_st {t : TypeId} {x y : Operand} {u v : LV} {σ' : LH} (hx : ov l x = some u) (hy : ov l y = some v) (hr : storeL L σ t u v = some σ') (h : RS L pr rnd N df gs P os l σ' K) : RS L pr rnd N df gs P (⟨none, .store t x y, ty, p, af, none⟩ :: os) l σ K :=
  fun tm ht => RW_step (OW_store.2 ⟨u, v, σ', ov_sound ht hx, ov_sound ht hy, hr, h _ ht⟩)
theorem o_app {xs : Array Operand} {ats : Array TypeId} {s x v : LV} {t : TypeId} {σ' : LH} (hN : Nat.blt d N = true) (hx : OVs l xs.toList [s, x]) (ht0 : ats[0]? = some t) (hr : appendL L σ t ats[1]? s x = some (v, σ')) (h : RS L pr rnd N df gs P os ((d, v) :: l) σ' K) : RS L pr rnd N df gs P (⟨some d, .call ⟨.builtin .append, xs, ats⟩, ty, p, af, none⟩ :: os) l σ K :=
  fun tm ht => RW_step (OW_append.2 ⟨s, x, t, v, σ', hx.sound ht, ht0, hr, h _ (ht.put hN)⟩)
theorem o_call {f : FuncId} {xs : Array Operand} {ats : Array TypeId} {vs : List LV} {v : LV} (hN : Nat.blt d N = true) (hx : OVs l xs.toList vs) (hc : Ret L pr f vs v) (h : RS L pr rnd N df gs P os ((d, v) :: l) σ K) : RS L pr rnd N df gs P (⟨some d, .call ⟨.value (.func f), xs, ats⟩, ty, p, af, none⟩ :: os) l σ K :=
  fun tm ht => RW_step (OW_ret (hx.sound ht) hc (h _ (ht.put hN)))
theorem o_pan {x : Operand} {t : TypeId} {v : LV} (hx : ov l x = some (.iface t v)) (h : ∀ tm, SL tm N l → P (.iface t v) ⟨tm, df⟩ σ) {dd : Option Tmp} : RS L pr rnd N df gs P (⟨dd, .panic x, ty, p, af, none⟩ :: os) l σ K :=
  fun tm ht => RW_step (OW_panic.2 ⟨t, v, ov_sound ht hx, h tm ht⟩)
def argSlots : Nat → List LV → List (Nat × LV)
  | _, [] => []
  | k, x :: xs => (k, x) :: argSlots (k + 1) xs
theorem argSlots_get : ∀ (xs : List LV) (k j : Nat) (v : LV), lk (argSlots k xs) j = some v → ∃ i, j = k + i ∧ xs[i]? = some v
  | [], k, j, v, h => by cases h
  | x :: xs, k, j, v, h => by
    simp only [argSlots, lk] at h
    cases hb : Nat.beq k j with
    | true =>
      rw [hb] at h
      have := Nat.eq_of_beq_eq_true hb
      subst this
      simp at h; subst h; exact ⟨0, rfl, rfl⟩
    | false =>
      rw [hb] at h
      obtain ⟨i, h1, h2⟩ := argSlots_get xs (k + 1) j v h
      exact ⟨i + 1, by omega, by simpa using h2⟩
theorem Ret.of {g : FuncId} {fn : FnL} {args : List LV} {v : LV} (hfn : L.fnOf g = some fn) (hpr : ∀ l σ, pr g l σ = none) (hn : args.length ≤ fn.ntmps ∧ fn.ntmps < 511)
    (hg : ∀ x ∈ args, x.Good ∧ x.argC = x) (hv : v.Good) (hs : ∀ xs k nz, v ≠ .slice xs (.tok k) nz)
    (h : WS L pr false fn.ntmps [] fn.body (argSlots 0 args) LH.new (endQ L fn.results fun out σ' => out.fin = .ret v)) : Ret L pr g args v :=
  Ret.mk hfn (hpr _) hn hg hv hs fun tm hh hget => h tm ⟨hh, fun k u hu => by
    obtain ⟨i, h1, h2⟩ := argSlots_get args 0 k u hu
    rw [Nat.zero_add] at h1; subst h1; exact hget _ _ h2⟩
theorem endQ_tmp {t : Nat} {v : LV} {R : LOut → LH → Prop} {tm : Tm} (ht : SL tm N l) (hv : lk l t = some v) (h : R (.ret v) σ) : endQ L [.tmp t] R .ret ⟨tm, []⟩ σ :=
  ⟨rfl, [v], by simp only [resultsL, resultL, ht.2 _ _ hv], h⟩
end Go.Lg
end
section
set_option linter.unusedSimpArgs false
namespace Go.Lg
variable {L : Look} {pr : Prim} {rnd : Bool} {N : Nat} {df : List LDef} {l : List (Nat × LV)} {σ : LH} {Q : LExit → LAct → LH → Prop}
theorem WS_of {c : Code} {tm : Tm} (h : WS L pr rnd N df c l σ Q) (ht : SL tm N l) : WC L pr rnd c ⟨tm, df⟩ σ Q := h tm ht
theorem WS_regM {id : Nat} {ops : Array Oper} {rest : Code} (l0 : List (Nat × LV)) (σ' : LH) (hrest : WS L pr rnd N df rest l0 σ' Q)
    (h : ∀ (K : List (Nat × LV) → LH → Prop) (gs : Nat → Option Tmp) (P : LV → LAct → LH → Prop), (∀ l', Sub l0 l' → K l' σ') → gs = slotOf ops → (∀ v a σ, Q (.panic v) a σ → P v a σ) → RS L pr rnd N df gs P ops.toList l σ K) : WS L pr rnd N df (.seq (.region id ops false) rest) l σ Q :=
  WS_reg fun K gs P hK hgs hP => h K gs P (fun l' hs => hK _ _ (hrest.weaken hs)) hgs hP
def RoundTo (N : Nat) (df : List LDef) (J : List (Nat × LV) → LH → Prop) (a' : LAct) (σ' : LH) : Prop := a'.defers = df ∧ ∃ l', SL a'.tmps N l' ∧ J l' σ'
theorem RoundTo.mk {J : List (Nat × LV) → LH → Prop} {tm : Tm} {l' : List (Nat × LV)} {σ' : LH} (h : SL tm N l) (hs : Sub l' l) (hj : J l' σ') : RoundTo N df J ⟨tm, df⟩ σ' := ⟨rfl, l', h.sub hs, hj⟩
theorem WS_loop {b : Code} (I : Nat → List (Nat × LV) → LH → Prop)
    (step : ∀ k l σ, I k l σ → WS L pr rnd N df b l σ (thenQ (RoundTo N df fun l' σ' => ∃ k', k' < k ∧ I k' l' σ') Q)) :
    ∀ k l σ, I k l σ → WS L pr rnd N df (.loop b) l σ Q := fun k l σ hi tm ht =>
  WC_loop_ind (fun k a σ => a.defers = df ∧ ∃ l, SL a.tmps N l ∧ I k l σ) (fun k a σ ⟨hd, l, hl, hi⟩ => by
    obtain ⟨tm, df'⟩ := a
    simp only at hd hl; subst hd
    refine (step k l σ hi tm hl).mono fun e a' σ' hq => ?_
    cases e with
    | normal =>
      obtain ⟨h1, l', h2, k', h3, h4⟩ := hq
      exact ⟨k', h3, h1, l', h2, h4⟩
    | _ => exact hq) k _ _ ⟨rfl, l, ht, hi⟩
theorem WS_range {r1 r2 c u ti tn n ty1 ty2 ty3 x0 : Nat} {t1 t2 t3 t4 : TypeId} {p1 p2 p3 : String} {a1 a2 a3 : Array Edge} {B : Code}
    (I : Nat → List (Nat × LV) → LH → Prop)
    (hI : ∀ i l σ, I i l σ → lk l ti = some (.int .i64 i) ∧ lk l tn = some (.int .i64 n))
    (hc : Nat.blt c N = true) (hu : Nat.blt u N = true) (hti : Nat.blt ti N = true) (hut : Nat.beq ti u = false) (hsm : n < 4611686018427387904)
    (step : ∀ i l σ, i < n → I i l σ → WS L pr rnd N df B ((c, .bool true) :: l) σ (thenQ (RoundTo N df fun l' σ' => lk l' ti = some (.int .i64 i) ∧ ∃ l'', Sub l'' ((ti, .int .i64 (i + 1 : Nat)) :: (u, .int .i64 (i + 1 : Nat)) :: l') ∧ I (i + 1) l'' σ') Q))
    (fin : ∀ l σ, I n l σ → ∀ tm, SL tm N ((c, .bool false) :: l) → Q (.exit x0) ⟨tm, df⟩ σ) :
    ∀ k i l σ, n = i + k → I i l σ → WS L pr rnd N df (.loop (.seq (.region r1 #[⟨some c, .binOp .lss t1 (.tmp ti) (.tmp tn) t2, ty1, p1, a1, none⟩] false) (.seq (.cond (.tmp c) .skip (.exit x0)) (.seq B (.region r2 #[⟨some u, .binOp .add t3 (.tmp ti) (.const (.int .i64 1)) t4, ty2, p2, a2, none⟩, ⟨some ti, .move (.tmp u), ty3, p3, a3, none⟩] false))))) l σ Q := by
  intro k
  induction k with
  | zero =>
    intro i l σ hik hi tm ht
    have hin : i = n := by omega
    subst hin
    obtain ⟨h2, h3⟩ := hI _ _ _ hi
    refine WC_loop (WS_of (N := N) (WS_reg fun K gs P hK hgs hP => o_bin hc h2 h3 lss_int (o_nil (hK _ _ ?_))) ht)
    have e : decide ((i : Int) < (i : Int)) = false := by simp
    rw [e]
    refine WS_seq (WS_cond (b := false) (by simp only [ov, lk, Nat.beq_refl]; rfl) (fun h => by cases h) (fun _ => WS_exit fun tm' ht' => ?_))
    exact fin l σ hi tm' ht'
  | succ k ih =>
    intro i l σ hik hi tm ht
    obtain ⟨h2, h3⟩ := hI _ _ _ hi
    have hlt : i < n := by omega
    refine WC_loop (WS_of (N := N) (WS_reg fun K gs P hK hgs hP => o_bin hc h2 h3 lss_int (o_nil (hK _ _ ?_))) ht)
    have e : decide ((i : Int) < (n : Int)) = true := by simp; omega
    rw [e]
    refine WS_seq (WS_cond (b := true) (by simp only [ov, lk, Nat.beq_refl]; rfl) (fun _ => WS_skip fun tm' ht' => ?_) (fun h => by cases h))
    simp only [thenQ]
    refine WC_seq ((step i l σ hlt hi tm' ht').mono fun ex a' σ' hq => ?_)
    cases ex with
    | normal =>
      obtain ⟨hd, l', hl', hti', l'', hs, hJ⟩ := hq
      obtain ⟨tm2, df2⟩ := a'
      simp only at hd hl'; subst hd
      simp only [thenQ]
      have hw : IntKind.i64.wrap ((i : Int) + 1) = ((i + 1 : Nat) : Int) := by
        rw [show ((i : Int) + 1) = ((i + 1 : Nat) : Int) by omega]
        exact wrap_in (by omega) (by omega)
      refine WS_of (N := N) (WS_reg1 fun K gs P hK hgs hP => o_bin hu hti' rfl add_int (o_mv hti (v := .int .i64 (IntKind.i64.wrap ((i : Int) + 1))) (by simp only [ov, lk, Nat.beq_refl]; rfl) (o_nil (hK _ _ fun tm3 ht3 => ?_)))) hl'
      rw [hw] at ht3
      simp only [thenQ]
      exact ih (i + 1) l'' _ (by omega) hJ tm3 (ht3.sub hs)
    | exit id => exact hq
    | ret => exact hq
    | panic v => exact hq
theorem ldb {t bt : TypeId} {b o : Nat} {cs : List LV} {v : LV} (h : boxOf σ b = some (bt, cs)) (hp : partL L t cs o = some v) : loadL L σ t (.ptr b o) = some v := (load_box h).trans hp
theorem ldr {t : TypeId} {cs : List LV} {v : LV} (hp : partL L t cs 0 = some v) : loadL L σ t (.ro cs) = some v := hp
theorem box_upd' {b : Nat} {t t' : TypeId} {cs cs' : List LV} (h : boxOf σ b = some (t', cs')) : boxOf (σ.upd b t cs) b = some (t, cs) := box_upd (box_lt h)
theorem box_upd_of {b b' : Nat} {t : TypeId} {cs : List LV} {y : TypeId × List LV} (h : boxOf σ b' = some y) (hne : b' ≠ b) : boxOf (σ.upd b t cs) b' = some y := (box_upd_ne hne).trans h
theorem box_own_of {w : Own} {b : Nat} {y : TypeId × List LV} (h : boxOf σ b = some y) : boxOf (σ.own w) b = some y := box_own.trans h
theorem stn {t : TypeId} {cs : List LV} {v : LV} (hs : sizeL L t = some v.wd) (hl : cs.length = v.wd) (hf : v.flat = true) (hr : v.refOK 0 = true) : storeL L (σ.push (.cells t cs)) t (.ptr σ.len 0) v = some (σ.put t v.cells) := by
  rw [store_box (s := v.wd) box_push hs rfl (by omega) hf hr, setRange_all (by rw [hl, wd_cells]), push_upd]
end Go.Lg
end
section
namespace Go.Lg
structure Move where
  n : Int
  terms : List Term
  uses : List Int
mutual
inductive Turn where
  | mk (kind : Int) (term : Term) (l : List Proof)
inductive Proof where
  | mk (kind n : Int) (uses : List Int) (term : Term) (spine : List Turn) (moves : List Move) (l : List Proof)
end
namespace Turn
def kind : Turn → Int | .mk k _ _ => k
def term : Turn → Term | .mk _ t _ => t
def l : Turn → List Proof | .mk _ _ l => l
end Turn
namespace Proof
def kind : Proof → Int | .mk k _ _ _ _ _ _ => k
def n : Proof → Int | .mk _ n _ _ _ _ _ => n
def uses : Proof → List Int | .mk _ _ u _ _ _ _ => u
def term : Proof → Term | .mk _ _ _ t _ _ _ => t
def spine : Proof → List Turn | .mk _ _ _ _ s _ _ => s
def moves : Proof → List Move | .mk _ _ _ _ _ m _ => m
def l : Proof → List Proof | .mk _ _ _ _ _ _ l => l
def kids (p : Proof) : List Proof := p.spine.flatMap Turn.l ++ p.l
variable {β : Type}
mutual
def fold (f : Proof → List (List β) → List β → β) : Proof → β
  | .mk k n u t s m l => f (.mk k n u t s m l) (foldU f s) (foldL f l)
def foldU (f : Proof → List (List β) → List β → β) : List Turn → List (List β)
  | [] => []
  | .mk _ _ l :: us => foldL f l :: foldU f us
def foldL (f : Proof → List (List β) → List β → β) : List Proof → List β
  | [] => []
  | x :: xs => fold f x :: foldL f xs
end
theorem foldL_map (f : Proof → List (List β) → List β → β) : ∀ l, foldL f l = l.map (fold f)
  | [] => by rw [foldL]; rfl
  | x :: xs => by rw [foldL, foldL_map f xs]; rfl
theorem foldU_map (f : Proof → List (List β) → List β → β) : ∀ l, foldU f l = l.map fun u => u.l.map (fold f)
  | [] => by rw [foldU]; rfl
  | .mk k t l :: xs => by rw [foldU, foldU_map f xs, foldL_map f]; rfl
theorem fold_eq (f : Proof → List (List β) → List β → β) (p : Proof) : p.fold f = f p (p.spine.map fun u => u.l.map (fold f)) (p.l.map (fold f)) := by
  cases p with
  | mk k n u t s m l => rw [fold, foldU_map, foldL_map]; rfl
theorem ind {P : Proof → Prop} (h : ∀ p : Proof, (∀ x ∈ p.kids, P x) → P p) : ∀ p, P p := by
  intro p
  refine Proof.rec (motive_1 := fun u => ∀ x ∈ u.l, P x) (motive_2 := P) (motive_3 := fun l => ∀ x ∈ l, P x) (motive_4 := fun us => ∀ u ∈ us, ∀ x ∈ u.l, P x) ?_ ?_ ?_ ?_ ?_ ?_ p
  · intro k t l h; exact h
  · intro k n u t s m l h1 h2
    refine h _ fun x hx => ?_
    rcases List.mem_append.1 hx with hx | hx
    · obtain ⟨u, hu, hx⟩ := List.mem_flatMap.1 hx
      exact h1 u hu x hx
    · exact h2 x hx
  · intro x hx; cases hx
  · intro x xs h1 h2 y hy
    rcases List.mem_cons.1 hy with e | e
    · exact e ▸ h1
    · exact h2 y e
  · intro x hx; cases hx
  · intro x xs h1 h2 y hy
    rcases List.mem_cons.1 hy with e | e
    · exact e ▸ h1
    · exact h2 y e
end Proof
def slc (xs : List LV) : LV := .slice xs .none none
def encN (n : Int) : LV := .int .i64 n
def encM (m : Move) : LV := .agg [encN m.n, slc (m.terms.map encT), slc (m.uses.map encN)]
def encB (p : Proof) (X : List (List LV)) (Y : List LV) : LV :=
  .agg ([encN p.kind, encN p.n, slc (p.uses.map encN)] ++ (encT p.term).cells ++ [slc ((p.spine.zip X).map fun (u, x) => .agg ([encN u.kind] ++ (encT u.term).cells ++ [slc x])), slc (p.moves.map encM), slc Y])
def encP (p : Proof) : LV := p.fold encB
def encU (u : Turn) : LV := .agg ([encN u.kind] ++ (encT u.term).cells ++ [slc (u.l.map encP)])
theorem encP_eq (p : Proof) : encP p = .agg [encN p.kind, encN p.n, slc (p.uses.map encN), .int .i64 p.term.kind, .int .i64 p.term.n, .str p.term.name, slc (p.term.args.map encT), slc (p.spine.map encU), slc (p.moves.map encM), slc (p.l.map encP)] := by
  rw [encP, Proof.fold_eq, encB, encT_cells]
  have : ∀ (us : List Turn) (g : Proof → LV), (us.zip (us.map fun u => u.l.map g)).map (fun (u, x) => LV.agg ([encN u.kind] ++ (encT u.term).cells ++ [slc x])) = us.map fun u => LV.agg ([encN u.kind] ++ (encT u.term).cells ++ [slc (u.l.map g)]) := fun us g => by
    induction us with
    | nil => rfl
    | cons u us ih => simp only [List.map_cons, List.zip_cons_cons, ih]
  rw [this]; rfl
theorem encU_eq (u : Turn) : encU u = .agg [encN u.kind, .int .i64 u.term.kind, .int .i64 u.term.n, .str u.term.name, slc (u.term.args.map encT), slc (u.l.map encP)] := by
  rw [encU, encT_cells]; rfl
theorem encM_eq (m : Move) : encM m = .agg [encN m.n, slc (m.terms.map encT), slc (m.uses.map encN)] := rfl
theorem encN_good {n : Int} : (encN n).Good := good_int
theorem slc_good {α : Type} {f : α → LV} {l : List α} (h : ∀ x ∈ l, (f x).Good) : (slc (l.map f)).Good := good_slice fun y hy => by
  obtain ⟨z, hz, rfl⟩ := List.mem_map.1 hy
  exact h z hz
theorem goods_nil : ∀ x ∈ ([] : List LV), x.Good := fun x hx => by cases hx
theorem goods_cons {v : LV} {l : List LV} (h : v.Good) (hl : ∀ x ∈ l, x.Good) : ∀ x ∈ v :: l, x.Good := fun x hx => by
  rcases List.mem_cons.1 hx with rfl | hx
  · exact h
  · exact hl x hx
theorem encM_good (m : Move) : (encM m).Good := good_agg (goods_cons good_int (goods_cons (slc_good fun x _ => encT_good x) (goods_cons (slc_good fun x _ => encN_good) goods_nil)))
theorem encP_good : ∀ p : Proof, (encP p).Good := by
  refine Proof.ind fun p ih => ?_
  rw [encP_eq]
  refine good_agg (goods_cons good_int (goods_cons good_int (goods_cons (slc_good fun x _ => encN_good) (goods_cons good_int (goods_cons good_int (goods_cons good_str (goods_cons (slc_good fun x _ => encT_good x) (goods_cons (slc_good fun u hu => ?_) (goods_cons (slc_good fun x _ => encM_good x) (goods_cons (slc_good fun x hx => ih x (List.mem_append_right _ hx)) goods_nil))))))))))
  rw [encU_eq]
  exact good_agg (goods_cons good_int (goods_cons good_int (goods_cons good_int (goods_cons good_str (goods_cons (slc_good fun x _ => encT_good x) (goods_cons (slc_good fun x hx => ih x (List.mem_append_left _ (List.mem_flatMap.2 ⟨u, hu, hx⟩))) goods_nil))))))
theorem encU_good (u : Turn) : (encU u).Good := by
  rw [encU_eq]
  exact good_agg (goods_cons good_int (goods_cons good_int (goods_cons good_int (goods_cons good_str (goods_cons (slc_good fun x _ => encT_good x) (goods_cons (slc_good fun x hx => encP_good x) goods_nil))))))
theorem encP_wd (p : Proof) : (encP p).wd = 10 := by rw [encP_eq]; rfl
theorem encP_flat (p : Proof) : (encP p).flat = true := by rw [encP_eq]; rfl
theorem encP_cells (p : Proof) : (encP p).cells = [encN p.kind, encN p.n, slc (p.uses.map encN), .int .i64 p.term.kind, .int .i64 p.term.n, .str p.term.name, slc (p.term.args.map encT), slc (p.spine.map encU), slc (p.moves.map encM), slc (p.l.map encP)] := by rw [encP_eq]; rfl
theorem encP_argC (p : Proof) : (encP p).argC = encP p := by rw [encP_eq]; rfl
theorem encP_canonR (p : Proof) : (encP p).canonR = encP p := by rw [encP_eq]; rfl
theorem encP_canonA (p : Proof) : (encP p).canonA = encP p := by rw [encP_eq]; rfl
theorem encU_wd (p : Turn) : (encU p).wd = 6 := by rw [encU_eq]; rfl
theorem encU_flat (p : Turn) : (encU p).flat = true := by rw [encU_eq]; rfl
theorem encU_cells (u : Turn) : (encU u).cells = [encN u.kind, .int .i64 u.term.kind, .int .i64 u.term.n, .str u.term.name, slc (u.term.args.map encT), slc (u.l.map encP)] := by rw [encU_eq]; rfl
theorem encU_argC (p : Turn) : (encU p).argC = encU p := by rw [encU_eq]; rfl
theorem encU_canonR (p : Turn) : (encU p).canonR = encU p := by rw [encU_eq]; rfl
theorem encU_canonA (p : Turn) : (encU p).canonA = encU p := by rw [encU_eq]; rfl
theorem encM_wd (p : Move) : (encM p).wd = 3 := rfl
theorem encM_flat (p : Move) : (encM p).flat = true := rfl
theorem encM_cells (m : Move) : (encM m).cells = [encN m.n, slc (m.terms.map encT), slc (m.uses.map encN)] := rfl
theorem encM_argC (p : Move) : (encM p).argC = encM p := rfl
theorem encM_canonR (p : Move) : (encM p).canonR = encM p := rfl
namespace Term
variable {β : Type}
mutual
def fold (f : Term → List β → β) : Term → β
  | .mk k n s l => f (.mk k n s l) (foldL f l)
def foldL (f : Term → List β → β) : List Term → List β
  | [] => []
  | x :: xs => fold f x :: foldL f xs
end
theorem foldL_map (f : Term → List β → β) : ∀ l, foldL f l = l.map (fold f)
  | [] => by rw [foldL]; rfl
  | x :: xs => by rw [foldL, foldL_map f xs]; rfl
theorem fold_eq (f : Term → List β → β) (t : Term) : t.fold f = f t (t.args.map (fold f)) := by
  cases t with
  | mk k n s l => rw [fold, foldL_map]; rfl
end Term
def Term.Small (t : Term) : Prop := t.fold fun t bs => (t.args.length < 1073741824 ∧ t.name.size < 1073741824) ∧ ∀ b ∈ bs, b
theorem Term.small_iff (t : Term) : t.Small ↔ (t.args.length < 1073741824 ∧ t.name.size < 1073741824) ∧ ∀ x ∈ t.args, x.Small := by
  unfold Term.Small
  rw [Term.fold_eq]
  simp only [List.mem_map, forall_exists_index, and_imp, forall_apply_eq_imp_iff₂]
def Move.Small (m : Move) : Prop := m.terms.length < 1073741824 ∧ m.uses.length < 1073741824 ∧ ∀ t ∈ m.terms, t.Small
def Proof.Small (p : Proof) : Prop := p.fold fun p us bs => (p.uses.length < 1073741824 ∧ p.term.Small ∧ p.spine.length < 1073741824 ∧ (∀ u ∈ p.spine, u.term.Small ∧ u.l.length < 1073741824) ∧ p.moves.length < 1073741824 ∧ (∀ m ∈ p.moves, m.Small) ∧ p.l.length < 1073741824) ∧ (∀ u ∈ us, ∀ b ∈ u, b) ∧ ∀ b ∈ bs, b
theorem Proof.small_iff (p : Proof) : p.Small ↔ (p.uses.length < 1073741824 ∧ p.term.Small ∧ p.spine.length < 1073741824 ∧ (∀ u ∈ p.spine, u.term.Small ∧ u.l.length < 1073741824) ∧ p.moves.length < 1073741824 ∧ (∀ m ∈ p.moves, m.Small) ∧ p.l.length < 1073741824) ∧ ∀ x ∈ p.kids, x.Small := by
  unfold Proof.Small
  rw [Proof.fold_eq]
  refine and_congr_right fun _ => ?_
  constructor
  · rintro ⟨h1, h2⟩ x hx
    rcases List.mem_append.1 hx with hx | hx
    · obtain ⟨u, hu, hx⟩ := List.mem_flatMap.1 hx
      exact h1 _ (List.mem_map.2 ⟨u, hu, rfl⟩) _ (List.mem_map.2 ⟨x, hx, rfl⟩)
    · exact h2 _ (List.mem_map.2 ⟨x, hx, rfl⟩)
  · intro h
    refine ⟨fun bs hbs b hb => ?_, fun b hb => ?_⟩
    · obtain ⟨u, hu, rfl⟩ := List.mem_map.1 hbs
      obtain ⟨x, hx, rfl⟩ := List.mem_map.1 hb
      exact h x (List.mem_append_left _ (List.mem_flatMap.2 ⟨u, hu, hx⟩))
    · obtain ⟨x, hx, rfl⟩ := List.mem_map.1 hb
      exact h x (List.mem_append_right _ hx)
def Term.none (t : Term) : Bool := (t.kind == 0) && (t.name.data.toList == []) && (((t.args.length : Int)) == 0)
def Proof.all (p : Proof) : List Term := p.term :: (p.spine.map Turn.term ++ p.moves.flatMap Move.terms)
def some1 (l : List Term) : List Term := l.filter fun t => !t.none
def Proof.terms (p : Proof) : List Term := some1 p.all
theorem some1_get {l done rest : List Term} {x : Term} (h : l = done ++ x :: rest) (hx : x.none = false) : (some1 l)[(some1 done).length]? = some x := by
  subst h
  simp [some1, List.filter_append, hx]
theorem some1_next {done : List Term} {x : Term} (hx : x.none = false) : (some1 (done ++ [x])).length = (some1 done).length + 1 := by simp [some1, List.filter_append, hx]
theorem some1_skip {done : List Term} {x : Term} (hx : x.none = true) : (some1 (done ++ [x])).length = (some1 done).length := by simp [some1, List.filter_append, hx]
def turnI (u : Turn) (i : Nat) : List (Int × Proof) := u.l.map fun y => (-1 - (i : Int), y)
def Proof.kidsS (us : List Turn) : List (Int × Proof) := us.zipIdx.flatMap fun (u, i) => turnI u i
def Proof.kidsL (l : List Proof) : List (Int × Proof) := l.zipIdx.map fun (x, i) => ((i : Int), x)
def Proof.kidsI (p : Proof) : List (Int × Proof) := Proof.kidsS p.spine ++ Proof.kidsL p.l
theorem Proof.kidsS_split {us : List Turn} {u : Turn} {i : Nat} (h : us[i]? = some u) : ∃ rest, Proof.kidsS us = Proof.kidsS (us.take i) ++ turnI u i ++ rest ∧ Proof.kidsS (us.take (i + 1)) = Proof.kidsS (us.take i) ++ turnI u i := by
  have hi : i < us.length := (List.getElem?_eq_some_iff.1 h).1
  have hu : us[i] = u := (List.getElem?_eq_some_iff.1 h).2
  have e1 : us.take (i + 1) = us.take i ++ [u] := by rw [List.take_add_one]; simp [hi, hu]
  have e2 : us = us.take (i + 1) ++ us.drop (i + 1) := (List.take_append_drop _ _).symm
  have hl : (us.take i).length = i := by rw [List.length_take]; omega
  have e3 : Proof.kidsS (us.take (i + 1)) = Proof.kidsS (us.take i) ++ turnI u i := by
    rw [e1, Proof.kidsS, List.zipIdx_append, List.flatMap_append, Proof.kidsS]
    simp [hl]
  refine ⟨((us.drop (i + 1)).zipIdx (us.take (i + 1)).length).flatMap fun (u, i) => turnI u i, ?_, e3⟩
  conv => lhs; rw [Proof.kidsS, e2, List.zipIdx_append, List.flatMap_append]
  rw [← e3, Proof.kidsS]
  simp
theorem Proof.kidsL_get {l : List Proof} {x : Proof} {i : Nat} (h : l[i]? = some x) : (Proof.kidsL l)[i]? = some ((i : Int), x) := by
  simp [Proof.kidsL, h]
theorem Proof.kidsI_snd (p : Proof) : p.kidsI.map Prod.snd = p.kids := by
  have h1 : ∀ (us : List Turn) k, ((us.zipIdx k).flatMap fun (u, i) => turnI u i).map Prod.snd = us.flatMap Turn.l := fun us => by
    induction us with
    | nil => intro k; rfl
    | cons u us ih =>
      intro k
      have h3 : ∀ i, (turnI u i).map Prod.snd = u.l := fun i => by simp [turnI, List.map_map, Function.comp_def]
      rw [List.zipIdx_cons, List.flatMap_cons, List.map_append, ih, h3]; rfl
  have h2 : ∀ (l : List Proof) k, ((l.zipIdx k).map fun (x, i) => ((i : Int), x)).map Prod.snd = l := fun l => by
    induction l with
    | nil => intro k; rfl
    | cons u us ih =>
      intro k
      have := ih (k + 1)
      simp only [List.zipIdx_cons, List.map_cons, this]
  rw [Proof.kidsI, List.map_append, Proof.kidsS, Proof.kidsL, h1, h2]; rfl
def encI (x : Int × Proof) : List LV := [encN x.1, encP x.2]
theorem Proof.fold_kids {β : Type} (f : Proof → List β → β) (p : Proof) : p.fold (fun p us bs => f p (us.flatten ++ bs)) = f p (p.kids.map (Proof.fold fun p us bs => f p (us.flatten ++ bs))) := by
  rw [Proof.fold_eq, Proof.kids, List.map_append, List.map_flatMap, List.flatMap_def]
theorem canonT1 {t : Term} : [encT t].map LV.canonA = [encT t] := by rw [encT_eq]; rfl
theorem canonI {x : Int × Proof} : (encI x).map LV.canonA = encI x := by rw [encI, encP_eq]; rfl
theorem drop_at {α : Type} {l : List α} {i : Nat} {x : α} (h : l[i]? = some x) : x ∈ l ∧ l.drop i = x :: l.drop (i + 1) := by
  have hlt := (List.getElem?_eq_some_iff.1 h).1
  exact ⟨List.mem_of_getElem? h, by rw [List.drop_eq_getElem_cons hlt, (List.getElem?_eq_some_iff.1 h).2]⟩
theorem terms_at {p : Proof} {i : Nat} {x : List LV} (hx : (p.terms.map fun t => [encT t])[i]? = some x) : ∃ t, x = [encT t] ∧ t ∈ p.terms ∧ p.terms.drop i = t :: p.terms.drop (i + 1) := by
  rw [List.getElem?_map] at hx
  cases ht : p.terms[i]? with
  | none => rw [ht] at hx; cases hx
  | some t =>
    rw [ht] at hx; injection hx with hx
    exact ⟨t, hx.symm, drop_at ht⟩
theorem kids_at {p : Proof} {i : Nat} {x : List LV} (hx : (p.kidsI.map encI)[i]? = some x) : ∃ ki k, x = encI (ki, k) ∧ k ∈ p.kids ∧ p.kids.drop i = k :: p.kids.drop (i + 1) := by
  rw [List.getElem?_map] at hx
  cases hk : p.kidsI[i]? with
  | none => rw [hk] at hx; cases hx
  | some k =>
    rw [hk] at hx; injection hx with hx
    have : p.kids[i]? = some k.2 := by rw [← Proof.kidsI_snd, List.getElem?_map, hk]; rfl
    exact ⟨k.1, k.2, hx.symm, drop_at this⟩
theorem kids_len {p : Proof} : (p.kidsI.map encI).length = p.kids.length := by rw [List.length_map, ← List.length_map (f := Prod.snd), Proof.kidsI_snd]
theorem terms_len {p : Proof} : (p.terms.map fun t => [encT t]).length = p.terms.length := List.length_map ..
end Go.Lg
end
