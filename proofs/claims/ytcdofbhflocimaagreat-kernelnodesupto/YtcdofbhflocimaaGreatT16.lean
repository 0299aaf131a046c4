/- Part 16 of the proof: Kw7 Kw8 Kw9 Kw10 Kw11 Kw12. By AI agents; no person has read it. -/
import Derived.Test.YtcdofbhflocimaaGreatT15
set_option linter.unusedVariables false
set_option linter.unusedSimpArgs false
set_option linter.unusedSectionVars false
section
set_option linter.unusedSimpArgs false
namespace Go.Lg
variable {L : Look} {pr : Prim}
structure Fr (M n : Nat) (σ σ' : LH) : Prop where
  toks : σ'.toks = σ.toks
  len : n ≤ σ'.len
  box : ∀ b, M ≤ b → b < n → σ'.boxes[b]? = σ.boxes[b]?
theorem Fr.refl {M n : Nat} {σ : LH} (h : n ≤ σ.len) : Fr M n σ σ := ⟨rfl, h, fun _ _ _ => rfl⟩
theorem Fr.trans {M n : Nat} {σ σ' σ'' : LH} (h : Fr M n σ σ') (h' : Fr M n σ' σ'') : Fr M n σ σ'' :=
  ⟨h'.toks.trans h.toks, h'.len, fun b h1 h2 => (h'.box b h1 h2).trans (h.box b h1 h2)⟩
theorem Fr.push {M n : Nat} {σ σ' : LH} (h : Fr M n σ σ') {o : LObj} : Fr M n σ (σ'.push o) :=
  ⟨h.toks, by rw [push_len]; have := h.len; omega, fun b h1 h2 => by
    have := h.len
    rw [← h.box b h1 h2]; simp only [LH.push]; rw [List.getElem?_append_left (by show b < σ'.len; omega)]⟩
theorem Fr.put {M n : Nat} {σ σ' : LH} (h : Fr M n σ σ') {t : TypeId} {cs : List LV} : Fr M n σ (σ'.put t cs) :=
  ⟨h.toks, by rw [put_len]; have := h.len; omega, fun b h1 h2 => by
    have := h.len
    rw [← h.box b h1 h2]; simp only [LH.put]; rw [List.getElem?_append_left (by show b < σ'.len; omega)]⟩
theorem Fr.upd {M n : Nat} {σ σ' : LH} (h : Fr M n σ σ') {b : Nat} {t : TypeId} {cs : List LV} (hb : b < M ∨ n ≤ b) : Fr M n σ (σ'.upd b t cs) :=
  ⟨h.toks, by rw [upd_len]; exact h.len, fun b' h1 h2 => by
    rw [← h.box b' h1 h2]; simp only [LH.upd]; rw [List.getElem?_set_ne (by omega)]⟩
def Low (M : Nat) (J : LH → Prop) : Prop := ∀ σ σ' : LH, (∀ b, b < M → σ'.boxes[b]? = σ.boxes[b]?) → σ'.toks = σ.toks → J σ → J σ'
theorem boxOf_get {σ σ' : LH} {b : Nat} (h : σ'.boxes[b]? = σ.boxes[b]?) : boxOf σ' b = boxOf σ b := by simp only [boxOf, h]
def Wr (M : Nat) (σ : LH) : Prop := ∃ w, w ∈ σ.ws ∧ w < M
def Iter (L : Look) (pr : Prim) (f : LV) (xs : List (List LV)) (σ0 : LH → Prop) : Prop :=
  ∀ (σ : LH) (y : LV) (M : Nat) (C : Nat → LH → Prop) (D : LH → Prop), σ0 σ → M ≤ σ.len → y.refOK 0 = false → y.argC = y ∧ y.canonA = y → (∀ i, Low M (C i)) → Low M D → (∀ i σ, C i σ → σ0 σ) → C 0 σ →
    (∀ i x σ', xs[i]? = some x → C i σ' → σ.len ≤ σ'.len → ∃ b σ2, EvF L pr y x σ' (.moved (.ret (.bool b)) σ2) ∧ Fr M σ'.len σ' σ2 ∧ σ2.len = σ'.len ∧ Wr M σ2 ∧ (if b then C (i + 1) σ2 else D σ2)) →
    ∃ v cr, EvF L pr f [y] σ cr ∧ cr.out = .ret v ∧ (C xs.length (cr.st σ) ∨ D (cr.st σ)) ∧ (cr.st σ).len = σ.len ∧ Fr M σ.len σ (cr.st σ)
theorem EvF_round {l : Nat} {r : LLoop} {args : List LV} {σ : LH} {R : Bool → LH → Prop} (hr : σ.boxes[l]? = some (.loop r)) (hst : r.state = .ready) (hlen : args.length = r.params.length)
    (h : WC L pr true r.assign ⟨(r.params.zip (args.map LV.canonA)).foldl (fun tm (t, v) => tm.put t v) r.tmps, []⟩ { σ with ws := [] } (fun e a1 σ1 => e = .normal ∧ σ1.boxes[l]? = some (.loop r) ∧
      WC L pr true r.body a1 { σ1 with boxes := σ1.boxes.set l (.loop { r with state := .busy }), ws := l :: σ1.ws } (fun x a2 σ2 => ∃ j, jumpOf x = some j ∧ σ2.boxes[l]? = some (.loop { r with state := .busy }) ∧ a2.defers = [] ∧
        R j.isNone { boxes := (σ2.boxes.set l (.loop { r with state := (if j.isNone then .ready else .done), pending := j })).take σ.len, toks := σ2.toks, ws := (l :: σ2.ws).filter (· < σ.boxes.length) ++ σ.ws }))) :
    ∃ b σ3, EvF L pr (.func (.yield l) [] []) args σ (.moved (.ret (.bool b)) σ3) ∧ R b σ3 := by
  obtain ⟨e, a1, σ1, ⟨n1, hn1⟩, he, hr1, x, a2, σ2, ⟨n2, hn2⟩, j, hj, hr2, hd, hR⟩ := h
  subst he
  have hlt : l < σ.boxes.length := (List.getElem?_eq_some_iff.1 hr).1
  have hold : (l :: σ2.ws).filter (· < σ.boxes.length) ≠ [] := by simp [hlt]
  have fin : ∀ (b : Bool) (bx : List LObj), finish σ (.ret (.bool b)) { σ2 with boxes := bx, ws := l :: σ2.ws } = .moved (.ret (.bool b)) { boxes := bx.take σ.len, toks := σ2.toks, ws := (l :: σ2.ws).filter (· < σ.boxes.length) ++ σ.ws } := fun b bx => by
    unfold finish
    simp only [LOut.fin, LV.canonR, LOut.val, LV.refOK, if_true]
    exact if_neg fun h => hold h.1
  refine ⟨_, _, EvF.mk (max n1 n2) fun m hm => ?_, hR⟩
  have e1 := hn1 m (by omega)
  have e2 := hn2 m (by omega)
  rw [← fin]
  cases x with
  | panic v => cases hj
  | normal =>
    injection hj with hj; subst hj
    simp only [stepF, hr, hlen, ne_eq, not_true_eq_false, if_false, e1, hr1, hst, if_true, e2, hr2, hd, List.isEmpty_nil]
  | ret =>
    injection hj with hj; subst hj
    simp only [stepF, hr, hlen, ne_eq, not_true_eq_false, if_false, e1, hr1, hst, if_true, e2, hr2, hd, List.isEmpty_nil]
  | exit id =>
    injection hj with hj; subst hj
    simp only [stepF, hr, hlen, ne_eq, not_true_eq_false, if_false, e1, hr1, hst, if_true, e2, hr2, hd, List.isEmpty_nil]
theorem WC_rangeFunc {g : Operand} {ps : Array Tmp} {as b : Code} {a : LAct} {σ : LH} {Q : LExit → LAct → LH → Prop} {f : FuncId} {fs cs : List LV} (hg : opv a.tmps g = some (.func (.func f) fs cs))
    (h : ∃ v r cr, EvF L pr (.func (.func f) fs cs) [.func (.yield (σ.len + 1)) [] []] ((σ.push .dfr).push (.loop ⟨a.tmps, ps.toList, as, b, .ready, none⟩)) cr ∧ cr.out = .ret v ∧ (cr.st ((σ.push .dfr).push (.loop ⟨a.tmps, ps.toList, as, b, .ready, none⟩))).boxes[σ.len + 1]? = some (.loop r) ∧ r.state ≠ .busy ∧
      ∃ x, jumpOf x = some r.pending ∧ Q x { a with defers := .mark σ.len :: a.defers } { cr.st ((σ.push .dfr).push (.loop ⟨a.tmps, ps.toList, as, b, .ready, none⟩)) with boxes := (cr.st ((σ.push .dfr).push (.loop ⟨a.tmps, ps.toList, as, b, .ready, none⟩))).boxes.set (σ.len + 1) (.loop { r with state := .exhausted }), ws := (σ.len + 1) :: (cr.st ((σ.push .dfr).push (.loop ⟨a.tmps, ps.toList, as, b, .ready, none⟩))).ws }) :
    WC L pr false (.rangeFunc g ps as b) a σ Q := by
  obtain ⟨v, r, cr, ⟨n, hn⟩, hout, hr, hb, x, hx, hq⟩ := h
  refine ⟨x, _, _, EvC.mk n fun m hm => ?_, hq⟩
  have e1 := hn m hm
  have hl : ({ σ with boxes := σ.boxes ++ [LObj.dfr] } : LH).boxes.length = σ.len + 1 := by simp [LH.len]
  simp only [stepC, hg, Bool.false_eq_true, if_false, hl]
  simp only [LH.push] at e1 hr hq ⊢
  rw [e1]
  simp only [hout, hr, if_neg hb]
  cases x with
  | normal => injection hx with hx; rw [← hx]; rfl
  | ret => injection hx with hx; rw [← hx]; rfl
  | exit id => injection hx with hx; rw [← hx]; rfl
  | panic v => cases hx
inductive MarksOK : List LDef → LH → LH → Prop
  | nil {σ : LH} : MarksOK [] σ σ
  | cons {d : Nat} {ds : List LDef} {σ σ' : LH} (h : σ.boxes[d]? = some .dfr) (hs : MarksOK ds { σ with boxes := σ.boxes.set d .gone, ws := d :: σ.ws } σ') : MarksOK (.mark d :: ds) σ σ'
theorem MarksOK.leave {evD : FuncId → List LV → LMode → LH → Option (LMode × LH)} {ds : List LDef} {σ σ' : LH} {m : LMode} (h : MarksOK ds σ σ') : leaveL evD ds m σ = some (m, σ') := by
  induction h with
  | nil => rfl
  | cons h _ ih => simp only [leaveL, h, ih]
def endM (L : Look) (rs : List ResultVar) (R : LOut → LH → Prop) : LExit → LAct → LH → Prop
  | .normal, a, σ => ∃ σ', MarksOK a.defers σ σ' ∧ ∃ vs, resultsL L a.tmps σ' rs = some vs ∧ R (.ret (tupleL vs)) σ'
  | .ret, a, σ => ∃ σ', MarksOK a.defers σ σ' ∧ ∃ vs, resultsL L a.tmps σ' rs = some vs ∧ R (.ret (tupleL vs)) σ'
  | .panic v, a, σ => ∃ σ', MarksOK a.defers σ σ' ∧ R (.pan v) σ'
  | .exit _, _, _ => False
theorem body_runM {fn : FnL} {args : List LV} {σ : LH} {R : LOut → LH → Prop} (h : WC L pr false fn.body { tmps := enterTmps fn args, defers := [] } σ (endM L fn.results R)) :
    ∃ out σ', (∃ n, ∀ m, n ≤ m → runBody L (ev L pr m) fn args σ = some (out, σ')) ∧ R out σ' := by
  obtain ⟨x, a', σ1, ⟨n, hn⟩, hq⟩ := h
  cases x with
  | normal =>
    obtain ⟨σ2, hd, vs, h1, h2⟩ := hq
    exact ⟨_, σ2, ⟨n, fun m hm => by simp only [runBody, hn m hm, modeOf, hd.leave, h1]⟩, h2⟩
  | ret =>
    obtain ⟨σ2, hd, vs, h1, h2⟩ := hq
    exact ⟨_, σ2, ⟨n, fun m hm => by simp only [runBody, hn m hm, modeOf, hd.leave, h1]⟩, h2⟩
  | panic v =>
    obtain ⟨σ2, hd, h2⟩ := hq
    exact ⟨_, σ2, ⟨n, fun m hm => by simp only [runBody, hn m hm, modeOf, hd.leave]⟩, h2⟩
  | exit id => exact hq.elim
theorem EvF_openM {g : FuncId} {fn : FnL} {fs args cs : List LV} {σ : LH} {R : CR → Prop} (hfn : L.fnOf g = some fn) (hpr : pr g (fs ++ args ++ cs) σ = none)
    (hcl : (LV.refsOK 0 ((fs ++ args ++ cs).map LV.argC) && LV.toksOK 0 ((fs ++ args ++ cs).map LV.argC)) = false)
    (h : WC L pr false fn.body { tmps := enterTmps fn ((fs ++ args ++ cs).map LV.canonA), defers := [] } { σ with ws := [] } (endM L fn.results fun out σ' => R (finish σ out σ'))) :
    ∃ cr, EvF L pr (.func (.func g) fs cs) args σ cr ∧ R cr := by
  obtain ⟨out, σ', ⟨n, hn⟩, hR⟩ := body_runM h
  exact ⟨_, EvF.mk n fun m hm => by simp only [stepF, hpr, hfn, closedF, hcl, Bool.false_eq_true, if_false, openF, hn m hm], hR⟩
theorem EvF_both {g : FuncId} {fn : FnL} {fs args cs : List LV} {σ : LH} {R : CR → Prop} (hfn : L.fnOf g = some fn) (hpr : pr g (fs ++ args ++ cs) σ = none)
    (h0 : WC L pr false fn.body { tmps := enterTmps fn ((fs ++ args ++ cs).map LV.argC), defers := [] } { boxes := [], toks := [], ws := [] } (endM L fn.results fun out σ' => closeF σ out σ' = none))
    (h : WC L pr false fn.body { tmps := enterTmps fn ((fs ++ args ++ cs).map LV.canonA), defers := [] } { σ with ws := [] } (endM L fn.results fun out σ' => R (finish σ out σ'))) :
    ∃ cr, EvF L pr (.func (.func g) fs cs) args σ cr ∧ R cr := by
  obtain ⟨out, σ', ⟨n, hn⟩, hR⟩ := body_runM h
  obtain ⟨out0, σ0, ⟨n0, hn0⟩, hR0⟩ := body_runM h0
  refine ⟨_, EvF.mk (max n n0) fun m hm => ?_, hR⟩
  have e1 := hn m (by omega)
  have e2 := hn0 m (by omega)
  simp only [stepF, hpr, hfn, closedF, e2, hR0, openF, e1]
  split
  · rename_i cr' heq; simp at heq
  · rfl
theorem Ret.ofM {g : FuncId} {fn : FnL} {args : List LV} {v : LV} (hfn : L.fnOf g = some fn) (hpr : ∀ l σ, pr g l σ = none) (hn : args.length ≤ fn.ntmps ∧ fn.ntmps < 511)
    (hg : ∀ x ∈ args, x.Good ∧ x.argC = x) (hv : v.Good) (hs : ∀ xs k nz, v ≠ .slice xs (.tok k) nz)
    (h : WS L pr false fn.ntmps [] fn.body (argSlots 0 args) LH.new (endM L fn.results fun out σ' => out.fin = .ret v)) : Ret L pr g args v := by
  intro σ
  have hm : ([] ++ args ++ []).map LV.argC = args := by
    rw [List.nil_append, List.append_nil]
    exact (List.map_congr_left fun x hx => (hg x hx).2).trans (List.map_id _)
  have hsl : SL (enterTmps fn args) fn.ntmps (argSlots 0 args) := ⟨fun k hk => enter_has hk hn.2, fun k u hu => by
    obtain ⟨i, h1, h2⟩ := argSlots_get args 0 k u hu
    rw [Nat.zero_add] at h1; subst h1; exact enter_get h2 hn.1 hn.2⟩
  obtain ⟨out, σ', ⟨n, hn'⟩, hR⟩ := body_runM (h _ hsl)
  have hcl : (LV.refsOK 0 args && LV.toksOK 0 args) = true := by rw [goods_ref (fun x hx => (hg x hx).1), goods_tok (fun x hx => (hg x hx).1)]; rfl
  have key : closeF σ out σ' = some (.still (.ret v)) := by
    unfold closeF
    simp only [hR]
    have hb : (LOut.ret v).bare.tokOK 0 = true := by
      cases v with
      | slice xs own nz =>
        have := hv.tok 0
        simp only [LV.tokOK, Bool.and_eq_true] at this
        simp only [LOut.bare, LV.tokOK, Own.ok, Bool.true_and]; exact this.2
      | _ => exact hv.tok 0
    rw [if_pos ⟨hv.ref 0, hb⟩]
    split
    · rename_i xs k nz heq
      injection heq with heq
      exact absurd heq (hs _ _ _)
    · rfl
  refine EvF.mk n fun m hmm => ?_
  have e1 := hn' m hmm
  simp only [LH.new] at e1
  simp only [stepF, hm, List.nil_append, List.append_nil, hpr, hfn, closedF]
  rw [show args.map LV.argC = args from by simpa using hm, hcl]
  simp only [if_true, e1, key]
end Go.Lg
end
section
namespace Go.Lg
variable {L : Look} {pr : Prim} {rnd : Bool} {N : Nat} {df : List LDef} {l : List (Nat × LV)} {σ : LH} {Q : LExit → LAct → LH → Prop}
variable {gs : Nat → Option Tmp} {P : LV → LAct → LH → Prop} {K : List (Nat × LV) → LH → Prop} {d : Nat} {os : List Oper}
theorem sub_same {l : List (Nat × LV)} {d : Nat} {v : LV} (h : lk l d = some v) : Sub ((d, v) :: l) l := sub_cons h fun _ _ h => h
theorem o_split {b : Bool} (d : Nat) (h : lk l d = some (.bool b)) (h1 : b = true → RS L pr rnd N df gs P os ((d, .bool true) :: l) σ K) (h2 : b = false → RS L pr rnd N df gs P os ((d, .bool false) :: l) σ K) :
    RS L pr rnd N df gs P os l σ K := by
  cases b with
  | true => exact fun tm ht => h1 rfl tm (ht.sub (sub_same h))
  | false => exact fun tm ht => h2 rfl tm (ht.sub (sub_same h))
end Go.Lg
end
section
namespace Go.Lg
variable {L : Look} {pr : Prim} {rnd : Bool} {N : Nat} {df : List LDef} {l : List (Nat × LV)} {σ : LH} {Q : LExit → LAct → LH → Prop}
theorem DW.mono' {gs : Nat → Option Tmp} {P : Nat → LV → LAct → LH → List Rec → Prop} : ∀ {os : List Oper} {i k : Nat} {a : LAct} {σ : LH} {rs : List Rec} {K K' : LAct → LH → List Rec → Prop}, DW L pr gs P os i k a σ rs K → (∀ a σ rs, K a σ rs → K' a σ rs) → DW L pr gs P os i k a σ rs K'
  | [], i, k, a, σ, rs, K, K', h, hk => hk _ _ _ h
  | o :: os, i, k, a, σ, rs, K, K', h, hk => by
    obtain ⟨b, hb, h1, h2⟩ := h
    refine ⟨b, hb, fun e => (h1 e).mono' hk, fun e => ?_⟩
    have h2 := h2 e
    split
    · rename_i hal
      simp only [hal] at h2
      exact h2.mono' hk
    · rename_i hal
      simp only [hal] at h2
      split
      · rename_i f args ats hop
        simp only [hop] at h2
        obtain ⟨fv, l, cr, g1, g2, g3, g4⟩ := h2
        refine ⟨fv, l, cr, g1, g2, g3, ?_⟩
        cases cr with
        | still r => cases r with
          | ret v => exact DW.mono' g4 hk
          | pan v => exact g4
        | moved r σ' => cases r with
          | ret v => exact DW.mono' g4 hk
          | pan v => exact g4
      · rename_i hn
        split at h2
        · rename_i f args ats hop
          exact absurd hop (hn f args ats)
        · obtain ⟨r, g1, g2⟩ := h2
          refine ⟨r, g1, ?_⟩
          cases r with
          | val v σ' => exact DW.mono' g2 hk
          | pan v σ' => exact g2
          | dfr d σ' => exact g2
section
variable (L : Look) (pr : Prim) (N : Nat) (df : List LDef)
def DS (gs : Nat → Option Tmp) (P : Nat → LV → LAct → LH → List Rec → Prop) (os : List Oper) (i k : Nat) (rs : List Rec) (l : List (Nat × LV)) (σ : LH) (K : List (Nat × LV) → LH → List Rec → Prop) : Prop :=
  ∀ tm, SL tm N l → DW L pr gs P os i k ⟨tm, df⟩ σ rs (fun a' σ' rs' => a'.defers = df ∧ ∃ l', SL a'.tmps N l' ∧ K l' σ' rs')
end
theorem WS_draw [Pl L] {id : Nat} {ops : Array Oper} {rest : Code} {σh : LH} (hh : hoist L ops.toList σ = some σh)
    (h : ∀ (K : List (Nat × LV) → LH → List Rec → Prop) (gs : Nat → Option Tmp) (P : Nat → LV → LAct → LH → List Rec → Prop), (∀ l' σ' rs, drawOK ops rs none = true → WS L pr rnd N df rest l' σ' Q → K l' σ' rs) → gs = slotOf ops → DS L pr N df gs P ops.toList 0 σ.len [] l σh K) : WS L pr rnd N df (.seq (.region id ops true) rest) l σ Q := fun tm ht => by
  refine WC_seq (WC_draw hh ?_)
  refine (h (fun l' σ' rs => drawOK ops rs none = true ∧ WS L pr rnd N df rest l' σ' Q) _ _ (fun l' σ' rs h1 h2 => ⟨h1, h2⟩) rfl tm ht).mono' fun a' σ' rs ⟨hd, l', h1, h2, h3⟩ => ?_
  obtain ⟨tm', df'⟩ := a'
  simp only at hd h1; subst hd
  exact ⟨h2, h3 tm' h1⟩
theorem WS_draw1 [Pl L] {id : Nat} {ops : Array Oper} {σh : LH} (hh : hoist L ops.toList σ = some σh)
    (h : ∀ (K : List (Nat × LV) → LH → List Rec → Prop) (gs : Nat → Option Tmp) (P : Nat → LV → LAct → LH → List Rec → Prop), (∀ l' σ' rs, drawOK ops rs none = true → (∀ tm, SL tm N l' → Q .normal ⟨tm, df⟩ σ') → K l' σ' rs) → gs = slotOf ops → DS L pr N df gs P ops.toList 0 σ.len [] l σh K) : WS L pr rnd N df (.region id ops true) l σ Q := fun tm ht => by
  refine WC_draw hh ?_
  refine (h (fun l' σ' rs => drawOK ops rs none = true ∧ ∀ tm, SL tm N l' → Q .normal ⟨tm, df⟩ σ') _ _ (fun l' σ' rs h1 h2 => ⟨h1, h2⟩) rfl tm ht).mono' fun a' σ' rs ⟨hd, l', h1, h2, h3⟩ => ?_
  obtain ⟨tm', df'⟩ := a'
  simp only at hd h1; subst hd
  exact ⟨h2, h3 tm' h1⟩
def notV : Op → Bool
  | .call { callee := .value _, .. } => false
  | _ => true
variable {gs : Nat → Option Tmp} {P : Nat → LV → LAct → LH → List Rec → Prop} {K : List (Nat × LV) → LH → List Rec → Prop} {d : Nat} {ty : TypeId} {p : String} {af : Array Edge} {os : List Oper} {i k : Nat} {rs : List Rec}
theorem d_nil (h : K l σ rs) : DS L pr N df gs P [] i k rs l σ K := fun tm ht => ⟨rfl, l, ht, h⟩
theorem d_op {o : Oper} {kd : RK} (ho : o.guard = none) (ha : isAlloc o = false) (hc : notV o.op = true) (hk : ∀ tm, SL tm N l → kindOf L (fun _ _ _ => none) tm o σ = kd)
    (h : RS L pr true N df gs (fun _ _ _ => False) [o] l σ (fun l1 σ1 => DS L pr N df gs P os (i + 1) k (rs ++ [⟨i, kd⟩]) l1 σ1 K)) : DS L pr N df gs P (o :: os) i k rs l σ K := fun tm ht => by
  obtain ⟨b, hb, h1, h2⟩ := h tm ht
  rw [ho] at hb
  injection hb with hb
  have h1 := h1 hb.symm
  refine ⟨true, by rw [ho]; rfl, (fun e => by cases e), fun _ => ?_⟩
  rw [ha]
  unfold OW at h1
  simp only
  split at h1
  · rename_i f args ats hop
    rw [hop] at hc; cases hc
  · rename_i hn
    obtain ⟨r, hr, hk1⟩ := h1
    refine ⟨r, hr, ?_⟩
    cases r with
    | val v σ' =>
      obtain ⟨h3, l', h4, h5⟩ := hk1
      simp only
      rw [hk tm ht]
      have := h5 _ h4
      have e : (LAct.put ⟨tm, df⟩ o.dst v) = ⟨(LAct.put ⟨tm, df⟩ o.dst v).tmps, df⟩ := by
        cases ho : o.dst <;> rfl
      rw [e]; exact this
    | pan v σ' => exact hk1.elim
    | dfr dd σ' =>
      obtain ⟨h3, _⟩ := hk1
      have h4 : (LAct.put ⟨tm, dd :: df⟩ o.dst (.tuple [])).defers = dd :: df := by cases o.dst <;> rfl
      have : dd :: df = df := h4.symm.trans h3
      exact absurd (congrArg List.length this) (by simp)
theorem d_p {o : Oper} (ho : o.guard = none) (ha : isAlloc o = false) (hc : notV o.op = true) (hk : ∀ tm, kindOf L (fun _ _ _ => none) tm o σ = .pure)
    (h : RS L pr true N df gs (fun _ _ _ => False) [o] l σ (fun l1 σ1 => DS L pr N df gs P os (i + 1) k (rs ++ [⟨i, .pure⟩]) l1 σ1 K)) : DS L pr N df gs P (o :: os) i k rs l σ K := d_op ho ha hc (fun tm _ => hk tm) h
theorem d_ld {t : TypeId} {x : Operand} {b oo : Nat} (hx : ov l x = some (.ptr b oo))
    (h : RS L pr true N df gs (fun _ _ _ => False) [⟨some d, .load t x, ty, p, af, none⟩] l σ (fun l1 σ1 => DS L pr N df gs P os (i + 1) k (rs ++ [⟨i, .load b⟩]) l1 σ1 K)) : DS L pr N df gs P (⟨some d, .load t x, ty, p, af, none⟩ :: os) i k rs l σ K :=
  d_op rfl rfl rfl (fun tm ht => by simp only [kindOf, ov_sound ht hx]) h
theorem d_lr {t : TypeId} {x : Operand} {cs : List LV} (hx : ov l x = some (.ro cs))
    (h : RS L pr true N df gs (fun _ _ _ => False) [⟨some d, .load t x, ty, p, af, none⟩] l σ (fun l1 σ1 => DS L pr N df gs P os (i + 1) k (rs ++ [⟨i, .pure⟩]) l1 σ1 K)) : DS L pr N df gs P (⟨some d, .load t x, ty, p, af, none⟩ :: os) i k rs l σ K :=
  d_op rfl rfl rfl (fun tm ht => by simp only [kindOf, ov_sound ht hx]) h
theorem d_st {t : TypeId} {x y : Operand} {b oo : Nat} (hx : ov l x = some (.ptr b oo))
    (h : RS L pr true N df gs (fun _ _ _ => False) [⟨none, .store t x y, ty, p, af, none⟩] l σ (fun l1 σ1 => DS L pr N df gs P os (i + 1) k (rs ++ [⟨i, .move [b]⟩]) l1 σ1 K)) : DS L pr N df gs P (⟨none, .store t x y, ty, p, af, none⟩ :: os) i k rs l σ K :=
  d_op rfl rfl rfl (fun tm ht => by simp only [kindOf, ov_sound ht hx]) h
theorem d_m {o : Oper} (ho : o.guard = none) (ha : isAlloc o = false) (hc : notV o.op = true) (hk : ∀ tm, kindOf L (fun _ _ _ => none) tm o σ = .move [])
    (h : RS L pr true N df gs (fun _ _ _ => False) [o] l σ (fun l1 σ1 => DS L pr N df gs P os (i + 1) k (rs ++ [⟨i, .move []⟩]) l1 σ1 K)) : DS L pr N df gs P (o :: os) i k rs l σ K := d_op ho ha hc (fun tm _ => hk tm) h
theorem d_al {t : TypeId} (hN : Nat.blt d N = true) (h : DS L pr N df gs P os (i + 1) (k + 1) (rs ++ [⟨i, .alloc k⟩]) ((d, .ptr k 0) :: l) σ K) : DS L pr N df gs P (⟨some d, .alloc t, ty, p, af, none⟩ :: os) i k rs l σ K :=
  fun tm ht => ⟨true, rfl, (fun e => by cases e), fun _ => h _ (ht.put hN)⟩
theorem d_callv {f : Operand} {xs : Array Operand} {ats : Array TypeId} {vs : List LV} {fv v : LV} (hN : Nat.blt d N = true) (hf : ov l f = some fv) (hx : OVs l xs.toList vs) (hc : EvF L pr fv vs σ (.still (.ret v)))
    (h : DS L pr N df gs P os (i + 1) k (rs ++ [⟨i, .call⟩]) ((d, v) :: l) σ K) : DS L pr N df gs P (⟨some d, .call ⟨.value f, xs, ats⟩, ty, p, af, none⟩ :: os) i k rs l σ K :=
  fun tm ht => ⟨true, rfl, (fun e => by cases e), fun _ => ⟨fv, vs, _, ov_sound ht hf, hx.sound ht, hc, h _ (ht.put hN)⟩⟩
theorem d_callm {f : Operand} {xs : Array Operand} {ats : Array TypeId} {vs : List LV} {fv v : LV} {σ' : LH} (hN : Nat.blt d N = true) (hf : ov l f = some fv) (hx : OVs l xs.toList vs) (hc : EvF L pr fv vs σ (.moved (.ret v) σ'))
    (h : DS L pr N df gs P os (i + 1) k (rs ++ [⟨i, .move (σ'.ws.take (σ'.ws.length - σ.ws.length))⟩]) ((d, v) :: l) σ' K) : DS L pr N df gs P (⟨some d, .call ⟨.value f, xs, ats⟩, ty, p, af, none⟩ :: os) i k rs l σ K :=
  fun tm ht => ⟨true, rfl, (fun e => by cases e), fun _ => ⟨fv, vs, _, ov_sound ht hf, hx.sound ht, hc, h _ (ht.put hN)⟩⟩
theorem d_call {f : FuncId} {xs : Array Operand} {ats : Array TypeId} {vs : List LV} {v : LV} (hN : Nat.blt d N = true) (hx : OVs l xs.toList vs) (hc : Ret L pr f vs v)
    (h : DS L pr N df gs P os (i + 1) k (rs ++ [⟨i, .call⟩]) ((d, v) :: l) σ K) : DS L pr N df gs P (⟨some d, .call ⟨.value (.func f), xs, ats⟩, ty, p, af, none⟩ :: os) i k rs l σ K :=
  d_callv hN rfl hx (hc σ) h
theorem d_yes {o : Oper} {j : Nat} {w : Bool} {dj : Nat} (hg : o.guard = some (j, w)) (hj : gs j = some dj) (hb : lk l dj = some (.bool w)) (h : DS L pr N df gs P ({ o with guard := none } :: os) i k rs l σ K) (hal : isAlloc o = false) (hc : notV o.op = true) : DS L pr N df gs P (o :: os) i k rs l σ K := by
  obtain ⟨d, op, ty, p, af, g⟩ := o
  simp only at hg; subst hg
  intro tm ht
  obtain ⟨b, hb', _, h2⟩ := h tm ht
  simp only [wantedG] at hb'
  injection hb' with hb'
  refine ⟨true, by simp only [wantedG, hj, ht.2 _ _ hb, beq_self_eq_true], (fun h => by cases h), fun _ => ?_⟩
  exact h2 hb'.symm
theorem d_no {o : Oper} {j : Nat} {w : Bool} {dj : Nat} (hg : o.guard = some (j, w)) (hd : o.dst = some d) (hN : Nat.blt d N = true) (hj : gs j = some dj) (hb : lk l dj = some (.bool (!w))) (h : DS L pr N df gs P os (i + 1) k rs ((d, .tuple []) :: l) σ K) : DS L pr N df gs P (o :: os) i k rs l σ K := by
  obtain ⟨d', op, ty, p, af, g⟩ := o
  simp only at hg hd; subst hg; subst hd
  intro tm ht
  refine ⟨false, by simp only [wantedG, hj, ht.2 _ _ hb]; cases w <;> rfl, fun _ => h _ (ht.put hN), (fun h => by cases h)⟩
theorem d_not {o : Oper} {j : Nat} {w : Bool} {dj : Nat} (hg : o.guard = some (j, w)) (hd : o.dst = some d) (hN : Nat.blt d N = true) (hj : gs j = some dj) (hb : lk l dj = some (.tuple [])) (h : DS L pr N df gs P os (i + 1) k rs ((d, .tuple []) :: l) σ K) : DS L pr N df gs P (o :: os) i k rs l σ K := by
  obtain ⟨d', op, ty, p, af, g⟩ := o
  simp only at hg hd; subst hg; subst hd
  intro tm ht
  refine ⟨false, by simp only [wantedG, hj, ht.2 _ _ hb], fun _ => h _ (ht.put hN), (fun h => by cases h)⟩
theorem d_split {b : Bool} (d : Nat) (h : lk l d = some (.bool b)) (h1 : b = true → DS L pr N df gs P os i k rs ((d, .bool true) :: l) σ K) (h2 : b = false → DS L pr N df gs P os i k rs ((d, .bool false) :: l) σ K) :
    DS L pr N df gs P os i k rs l σ K := by
  cases b with
  | true => exact fun tm ht => h1 rfl tm (ht.sub (sub_same h))
  | false => exact fun tm ht => h2 rfl tm (ht.sub (sub_same h))
theorem hoist_al {t : TypeId} {z : LV} {os : List Oper} {σh : LH} {dd : Option Tmp} (hz : zeroLV L t = some z) (hf : z.flat = true) (hr : ∀ n, z.refOK n = true) (h : hoist L os (σ.push (.cells t z.cells)) = some σh) :
    hoist L (⟨dd, .alloc t, ty, p, af, none⟩ :: os) σ = some σh := by
  simp only [hoist, hz, hf, hr, and_self, if_true]; exact h
theorem o_callv {P : LV → LAct → LH → Prop} {K : List (Nat × LV) → LH → Prop} {f : Operand} {xs : Array Operand} {ats : Array TypeId} {vs : List LV} {fv v : LV} {cr : CR} (hN : Nat.blt d N = true) (hf : ov l f = some fv) (hx : OVs l xs.toList vs) (hc : EvF L pr fv vs σ cr) (ho : cr.out = .ret v)
    (h : RS L pr rnd N df gs P os ((d, v) :: l) (cr.st σ) K) : RS L pr rnd N df gs P (⟨some d, .call ⟨.value f, xs, ats⟩, ty, p, af, none⟩ :: os) l σ K :=
  fun tm ht => RW_step (OW_call.2 ⟨fv, vs, cr, ov_sound ht hf, hx.sound ht, hc, by rw [ho]; exact h _ (ht.put hN)⟩)
noncomputable def appOK (L : Look) (st xt : TypeId) (w : Nat) : Bool :=
  match L.und st, L.und xt with
  | some (.slice el), some (.slice _) => match L.tyOf el with
    | some i => Nat.ble 1 i.size && Nat.ble i.bytes 16384 && Nat.beq i.size w && i.zero.any (·.wd == i.size)
    | none => false
  | _, _ => false
theorem app_ok {st xt : TypeId} {w : Nat} {xs ys : List LV} {own own' : Own} {nz nz' : Option Bool} (h : appOK L st xt w = true) (hn : xs.length + ys.length ≤ 1073741824)
    (hw : ∀ z ∈ xs, z.wd = w) (hw' : ∀ z ∈ ys, z.wd = w) (hne : ys ≠ []) (ha : App σ own) :
    appendL L σ st (some xt) (.slice xs own nz) (.slice ys own' nz') = some (.slice (xs ++ ys) (.tok σ.toks.length) (some false), σ.own own) := by
  unfold appOK at h
  split at h
  · rename_i el el' hu hx
    split at h
    · rename_i y hy
      simp only [Bool.and_eq_true, Nat.ble_eq, Nat.beq_eq] at h
      obtain ⟨⟨⟨g1, g2⟩, g3⟩, g4⟩ := h
      subst g3
      have e1 : (xs.head?.all (·.wd == y.size)) = true := by
        cases xs with
        | nil => rfl
        | cons a l => simpa using hw a (by simp)
      have e2 : (ys.head?.all (·.wd == y.size)) = true := by
        cases ys with
        | nil => rfl
        | cons a l => simpa using hw' a (by simp)
      simp only [appendL, hu, hx, hy]
      rw [if_pos ⟨g1, g2, hn, e1, e2, g4⟩]
      cases ys with
      | nil => exact absurd rfl hne
      | cons z zs =>
        cases own with
        | none => exact ha.elim
        | exact => rfl
        | tok k => simp only [App] at ha; simp only [ha, if_true, LH.own]
    · cases h
  · cases h
theorem app_one {α : Type} {f : α → LV} {st xt : TypeId} {w : Nat} {xs : List α} {x : α} {own own' : Own} {nz nz' : Option Bool} (h : appOK L st xt w = true) (hf : ∀ x, (f x).wd = w) (hn : xs.length + 1 ≤ 1073741824) (ha : App σ own) :
    appendL L σ st (some xt) (.slice (xs.map f) own nz) (.slice [f x] own' nz') = some (.slice ((xs ++ [x]).map f) (.tok σ.toks.length) (some false), σ.own own) := by
  rw [app_ok h (by simpa using hn) (fun z hz => by obtain ⟨y, _, rfl⟩ := List.mem_map.1 hz; exact hf y) (fun z hz => by simp only [List.mem_singleton] at hz; subst hz; exact hf x) (by simp) ha, List.map_append]; rfl
theorem endQ_cell {t : TypeId} {a : Tmp} {b o : Nat} {v : LV} {R : LOut → LH → Prop} {tm : Tm} (ht : SL tm N l) (hp : lk l a = some (.ptr b o)) (hv : loadL L σ t (.ptr b o) = some v) (h : R (.ret v) σ) : endQ L [.cell a t] R .ret ⟨tm, []⟩ σ :=
  ⟨rfl, [v], by simp only [resultsL, resultL, ht.2 _ _ hp, hv], h⟩
theorem WS_regB {l1 : List (Nat × LV)} (hs : Sub l1 l) (d0 : Nat) (b : Bool) {id : Nat} {ops : Array Oper} {rest : Code}
    (h : ∀ (K : List (Nat × LV) → LH → Prop) (gs : Nat → Option Tmp) (P : LV → LAct → LH → Prop), (∀ l', lk l' d0 = some (.bool b) → Sub l1 l' → K l' σ) → gs = slotOf ops → (∀ v a σ, Q (.panic v) a σ → P v a σ) → RS L pr rnd N df gs P ops.toList l σ K)
    (hrest : WS L pr rnd N df rest ((d0, .bool b) :: l1) σ Q) : WS L pr rnd N df (.seq (.region id ops false) rest) l σ Q :=
  WS_regM ((d0, .bool b) :: l1) σ hrest fun K gs P hK hgs hP => h K gs P (fun l' h1 h2 => hK _ (sub_cons h1 h2)) hgs hP
theorem WS_drawB [Pl L] {l1 : List (Nat × LV)} (hs : Sub l1 l) (d0 : Nat) (b : Bool) {id : Nat} {ops : Array Oper} {rest : Code} (hh : hoist L ops.toList σ = some σ)
    (h : ∀ (K : List (Nat × LV) → LH → List Rec → Prop) (gs : Nat → Option Tmp) (P : Nat → LV → LAct → LH → List Rec → Prop), (∀ l' rs, drawOK ops rs none = true → lk l' d0 = some (.bool b) → Sub l1 l' → K l' σ rs) → gs = slotOf ops → DS L pr N df gs P ops.toList 0 σ.len [] l σ K)
    (hrest : WS L pr rnd N df rest ((d0, .bool b) :: l1) σ Q) : WS L pr rnd N df (.seq (.region id ops true) rest) l σ Q :=
  WS_draw hh fun K gs P hK hgs => h K gs P (fun l' rs h0 h1 h2 => hK _ _ _ h0 (hrest.weaken (sub_cons h1 h2))) hgs
end Go.Lg
end
section
namespace Go.Lg
variable {L : Look} {pr : Prim} {rnd : Bool} {N : Nat} {df : List LDef} {l : List (Nat × LV)} {σ : LH} {Q : LExit → LAct → LH → Prop}
def rslots : List (Tmp × LV) → List (Nat × LV) → List (Nat × LV)
  | [], l => l
  | (t, v) :: r, l => rslots r ((t, v) :: l)
theorem rslots_SL : ∀ (ps : List (Tmp × LV)) {tm : Tm} {l : List (Nat × LV)}, (ps.all fun p => Nat.blt p.1 N) = true → SL tm N l → SL (ps.foldl (fun tm (t, v) => tm.put t v) tm) N (rslots ps l)
  | [], tm, l, _, h => h
  | (t, v) :: r, tm, l, hp, h => by
    simp only [List.all_cons, Bool.and_eq_true] at hp
    exact rslots_SL r hp.2 (h.put hp.1)
theorem WS_iter {g : Operand} {ps : Array Tmp} {as b : Code} {f : FuncId} {fs cs : List LV} {xs : List (List LV)} {σ0 : LH → Prop} (hg : ov l g = some (.func (.func f) fs cs))
    (hit : Iter L pr (.func (.func f) fs cs) xs σ0) (hps : ∀ x ∈ xs, x.length = ps.toList.length ∧ x.map LV.canonA = x) (hN : (ps.toList.all fun p => Nat.blt p N) = true)
    (I : Nat → LH → Prop) (J : LExit → LH → Prop) (hI : ∀ i, Low σ.len (I i)) (hJ : ∀ e, Low σ.len (J e)) (hI0 : ∀ i σ', I i σ' → σ0 σ') (h0 : I 0 σ)
    (step : ∀ i x σ', xs[i]? = some x → I i σ' → σ.len + 2 ≤ σ'.len → WS L pr true N [] as (rslots (ps.toList.zip x) l) { σ' with ws := [] } (fun e a1 σ1 => e = .normal ∧ Fr σ.len σ'.len σ' σ1 ∧
      ∀ σ1' : LH, (∀ b, b ≠ σ.len + 1 → σ1'.boxes[b]? = σ1.boxes[b]?) → σ1'.toks = σ1.toks → σ1'.len = σ1.len → WC L pr true b a1 σ1' (fun e a2 σ2 => a2.defers = [] ∧ Fr σ.len σ'.len σ1' σ2 ∧
        ((e = .normal ∧ I (i + 1) σ2) ∨ (∃ j, jumpOf e = some (some j)) ∧ J e σ2))))
    (fin : ∀ tm σ3, SL tm N l → σ3.len = σ.len + 2 → σ3.boxes[σ.len]? = some .dfr → I xs.length σ3 → Q .normal ⟨tm, .mark σ.len :: df⟩ σ3)
    (brk : ∀ e tm σ3, SL tm N l → σ3.len = σ.len + 2 → σ3.boxes[σ.len]? = some .dfr → J e σ3 → Q e ⟨tm, .mark σ.len :: df⟩ σ3) : WS L pr false N df (.rangeFunc g ps as b) l σ Q := fun tm ht => by
  refine WC_rangeFunc (ov_sound ht hg) ?_
  let r0 : LLoop := ⟨tm, ps.toList, as, b, .ready, none⟩
  let σ1 : LH := (σ.push .dfr).push (.loop r0)
  have hl1 : σ1.len = σ.len + 2 := by simp only [σ1, push_len]
  have b1 : σ1.boxes[σ.len]? = some .dfr := by simp [σ1, LH.push, LH.len]
  have b2 : σ1.boxes[σ.len + 1]? = some (.loop r0) := by simp [σ1, LH.push, LH.len]
  have lowσ : ∀ b, b < σ.len → σ1.boxes[b]? = σ.boxes[b]? := fun b hb => by
    simp only [σ1, LH.push]
    rw [List.getElem?_append_left (by simp only [List.length_append, List.length_singleton]; exact Nat.lt_succ_of_lt hb), List.getElem?_append_left hb]
  have key0 := hit σ1 (.func (.yield (σ.len + 1)) [] []) (σ.len + 2)
    (fun i σ' => I i σ' ∧ σ'.boxes[σ.len]? = some .dfr ∧ σ'.boxes[σ.len + 1]? = some (.loop r0))
    (fun σ' => σ'.boxes[σ.len]? = some .dfr ∧ ∃ e j, jumpOf e = some (some j) ∧ σ'.boxes[σ.len + 1]? = some (.loop { r0 with state := .done, pending := some j }) ∧ J e σ')
    (hI0 0 _ (hI 0 σ σ1 lowσ rfl h0)) (Nat.le_of_eq hl1.symm) (by simp [LV.refOK, LV.refsOK]) ⟨rfl, rfl⟩
    (fun i σ' σ'' hb ht ⟨g1, g2, g3⟩ => ⟨hI i _ _ (fun b hb' => hb b (by omega)) ht g1, by rw [hb _ (by omega)]; exact g2, by rw [hb _ (by omega)]; exact g3⟩)
    (fun σ' σ'' hb ht ⟨g1, e, j, g2, g3, g4⟩ => ⟨by rw [hb _ (by omega)]; exact g1, e, j, g2, by rw [hb _ (by omega)]; exact g3, hJ e _ _ (fun b hb' => hb b (by omega)) ht g4⟩)
    (fun i σ' h => hI0 i σ' h.1) ⟨hI 0 σ σ1 lowσ rfl h0, b1, b2⟩
  obtain ⟨v, cr, h1, h2, h3, h4, h5⟩ := key0 (by
    intro i x σ' hx ⟨g1, g2, g3⟩ hle
    rw [hl1] at hle
    obtain ⟨hx1, hx2⟩ := hps x (List.mem_of_getElem? hx)
    have hst := step i x σ' hx g1 hle
    have htm : SL ((ps.toList.zip x).foldl (fun tm (t, v) => tm.put t v) tm) N (rslots (ps.toList.zip x) l) := by
      refine rslots_SL _ ?_ ht
      rw [List.all_eq_true] at hN ⊢
      intro p hp
      exact hN p.1 (List.of_mem_zip hp).1
    have hst := hst _ htm
    have key := EvF_round (L := L) (pr := pr) (l := σ.len + 1) (r := r0) (args := x) (σ := σ') (R := fun bb σ2 => Fr (σ.len + 2) σ'.len σ' σ2 ∧ σ2.len = σ'.len ∧ Wr (σ.len + 2) σ2 ∧ (if bb then (I (i + 1) σ2 ∧ σ2.boxes[σ.len]? = some .dfr ∧ σ2.boxes[σ.len + 1]? = some (.loop r0)) else (σ2.boxes[σ.len]? = some .dfr ∧ ∃ e j, jumpOf e = some (some j) ∧ σ2.boxes[σ.len + 1]? = some (.loop { r0 with state := .done, pending := some j }) ∧ J e σ2)))
      g3 rfl (by rw [hx1]) ?_
    · obtain ⟨bb, σ3, k1, k2⟩ := key
      exact ⟨bb, σ3, k1, k2.1, k2.2.1, k2.2.2.1, k2.2.2.2⟩
    · rw [hx2]
      refine hst.mono fun e a1 τ1 ⟨he, hf, hb⟩ => ?_
      refine ⟨he, ?_, ?_⟩
      · rw [hf.box _ (by omega) (by omega)]; exact g3
      · have hlen1 : τ1.len = (LH.mk (τ1.boxes.set (σ.len + 1) (.loop { r0 with state := .busy })) τ1.toks ((σ.len + 1) :: τ1.ws)).len := by simp [LH.len]
        have hle1 := hf.len
        refine (hb { τ1 with boxes := τ1.boxes.set (σ.len + 1) (.loop { r0 with state := .busy }), ws := (σ.len + 1) :: τ1.ws } (fun b hb => by rw [List.getElem?_set_ne (by omega)]) rfl hlen1.symm).mono fun x2 a2 τ2 ⟨k1, k2, k3⟩ => ?_
        have q0 : τ2.boxes[σ.len + 1]? = some (.loop { r0 with state := .busy }) := by
          rw [k2.box _ (by omega) (by omega)]
          show (τ1.boxes.set _ _)[_]? = _
          rw [List.getElem?_set_self (by have : τ1.len = τ1.boxes.length := rfl; omega)]
        have q1 : τ2.boxes[σ.len]? = some .dfr := by
          rw [k2.box _ (by omega) (by omega)]
          show (τ1.boxes.set _ _)[_]? = _
          rw [List.getElem?_set_ne (by omega), hf.box _ (by omega) (by omega)]; exact g2
        have q2 : τ2.toks = σ'.toks := k2.toks.trans hf.toks
        have q3 : ∀ b, σ.len + 2 ≤ b → b < σ'.len → τ2.boxes[b]? = σ'.boxes[b]? := fun b h1 h2 => by
          rw [k2.box _ (by omega) (by omega)]
          show (τ1.boxes.set _ _)[_]? = _
          rw [List.getElem?_set_ne (by omega), hf.box _ (by omega) (by omega)]
        have q4 := k2.len
        have q5 : σ'.len ≤ τ2.boxes.length := q4
        have tk : ∀ (o : LObj) b, b < σ'.len → b ≠ σ.len + 1 → ((τ2.boxes.set (σ.len + 1) o).take σ'.len)[b]? = τ2.boxes[b]? := fun o b h1 h2 => by
          rw [List.getElem?_take_of_lt h1, List.getElem?_set_ne (by omega)]
        have tk1 : ∀ (o : LObj), ((τ2.boxes.set (σ.len + 1) o).take σ'.len)[σ.len + 1]? = some o := fun o => by
          rw [List.getElem?_take_of_lt (by omega), List.getElem?_set_self (by omega)]
        have fr : ∀ (o : LObj) ws, Fr (σ.len + 2) σ'.len σ' ⟨(τ2.boxes.set (σ.len + 1) o).take σ'.len, τ2.toks, ws⟩ := fun o ws => ⟨q2, by simp only [LH.len, List.length_take, List.length_set]; simp only [LH.len] at q5 ⊢; omega, fun b h1 h2 => by
          show ((τ2.boxes.set (σ.len + 1) o).take σ'.len)[b]? = _
          rw [tk o b h2 (by omega)]; exact q3 b h1 h2⟩
        have ln : ∀ (o : LObj) ws, (LH.mk ((τ2.boxes.set (σ.len + 1) o).take σ'.len) τ2.toks ws).len = σ'.len := fun o ws => by
          simp only [LH.len, List.length_take, List.length_set]; simp only [LH.len] at q5 ⊢; omega
        have wr : ∀ bx tk (ws : List Nat), Wr (σ.len + 2) ⟨bx, tk, ((σ.len + 1) :: τ2.ws).filter (· < σ'.boxes.length) ++ ws⟩ := fun bx tk ws => ⟨σ.len + 1, List.mem_append_left _ (List.mem_filter.2 ⟨List.mem_cons_self, by have : σ'.len = σ'.boxes.length := rfl; simp; omega⟩), by omega⟩
        rcases k3 with ⟨rfl, k4⟩ | ⟨⟨j, hj⟩, k4⟩
        · refine ⟨none, rfl, q0, k1, fr _ _, ln _ _, wr _ _ _, ?_⟩
          simp only [Option.isNone_none, if_true]
          exact ⟨hI _ _ _ (fun b hb => tk _ b (by omega) (by omega)) rfl k4, (tk _ _ (by omega) (by omega)).trans q1, tk1 _⟩
        · refine ⟨some j, hj, q0, k1, fr _ _, ln _ _, wr _ _ _, ?_⟩
          simp only [Option.isNone_some, Bool.false_eq_true, if_false]
          exact ⟨(tk _ _ (by omega) (by omega)).trans q1, x2, j, hj, tk1 _, hJ _ _ _ (fun b hb => tk _ b (by omega) (by omega)) rfl k4⟩)
  rw [hl1] at h4
  refine ⟨v, ?_⟩
  rcases h3 with ⟨g1, g2, g3⟩ | ⟨g1, e, j, g2, g3, g4⟩
  · refine ⟨r0, cr, h1, h2, g3, (by simp [r0]), .normal, rfl, ?_⟩
    refine fin tm _ ht ?_ ?_ (hI _ (cr.st σ1) _ ?_ rfl g1)
    · simp only [LH.len, List.length_set]; exact h4
    · rw [List.getElem?_set_ne (by omega)]; exact g2
    · intro b hb
      rw [List.getElem?_set_ne (by omega)]
  · refine ⟨_, cr, h1, h2, g3, (by simp), e, g2, ?_⟩
    refine brk e tm _ ht ?_ ?_ (hJ _ (cr.st σ1) _ ?_ rfl g4)
    · simp only [LH.len, List.length_set]; exact h4
    · rw [List.getElem?_set_ne (by omega)]; exact g1
    · intro b hb
      rw [List.getElem?_set_ne (by omega)]
theorem Iter.of {g : FuncId} {fn : FnL} {cs : List LV} {xs : List (List LV)} {σ0 : LH → Prop} (hfn : L.fnOf g = some fn) (hpr : ∀ l σ, pr g l σ = none) (hn : cs.length + 1 ≤ fn.ntmps ∧ fn.ntmps < 511)
    (hcs : cs.map LV.canonA = cs) (hres : fn.results = [])
    (h : ∀ (σ : LH) (y : LV) (M : Nat) (C : Nat → LH → Prop) (D : LH → Prop), σ0 σ → M ≤ σ.len → σ.ws = [] → (∀ i, Low M (C i)) → Low M D → (∀ i σ, C i σ → σ0 σ) → C 0 σ →
      (∀ i x σ', xs[i]? = some x → C i σ' → σ.len ≤ σ'.len → ∃ b σ2, EvF L pr y x σ' (.moved (.ret (.bool b)) σ2) ∧ Fr M σ'.len σ' σ2 ∧ σ2.len = σ'.len ∧ Wr M σ2 ∧ (if b then C (i + 1) σ2 else D σ2)) →
      WS L pr false fn.ntmps [] fn.body (argSlots 0 (y :: cs)) σ (fun e a σ' => (e = .normal ∨ e = .ret) ∧ a.defers = [] ∧ Fr M σ.len σ σ' ∧ ((C xs.length σ' ∧ (xs.length = 0 ∨ Wr M σ')) ∨ (D σ' ∧ Wr M σ')))) :
    Iter L pr (.func (.func g) [] cs) xs σ0 := by
  intro σ y M C D h0 hM hy hy2 hC hD hC0 hc0 hyield
  have hcl : (LV.refsOK 0 (([] ++ [y] ++ cs).map LV.argC) && LV.toksOK 0 (([] ++ [y] ++ cs).map LV.argC)) = false := by
    simp only [List.nil_append, List.cons_append, List.map_cons, LV.refsOK, hy2.1, hy, Bool.false_and]
  have hargs : ([] ++ [y] ++ cs).map LV.canonA = y :: cs := by
    simp only [List.nil_append, List.cons_append, List.map_cons, hcs, hy2.2]
  have hsl : SL (enterTmps fn (y :: cs)) fn.ntmps (argSlots 0 (y :: cs)) := ⟨fun k hk => enter_has hk hn.2, fun k u hu => by
    obtain ⟨i, h1, h2⟩ := argSlots_get (y :: cs) 0 k u hu
    rw [Nat.zero_add] at h1; subst h1; exact enter_get h2 (by simpa using hn.1) hn.2⟩
  have low : ∀ {J : LH → Prop}, Low M J → ∀ {τ : LH}, J τ → ∀ ws, J { τ with ws := ws } := fun {J} hJ {τ} hj ws => hJ τ _ (fun b _ => rfl) rfl hj
  have hw := h { σ with ws := [] } y M C D (hC0 0 _ (low (hC 0) hc0 _)) hM rfl hC hD hC0 (low (hC 0) hc0 _) hyield _ hsl
  obtain ⟨cr, h1, v, h2, h3, h4, h5⟩ := EvF_openM (L := L) (pr := pr) (fs := []) (args := [y]) (cs := cs) (σ := σ) (R := fun cr => ∃ v, cr.out = .ret v ∧ (C xs.length (cr.st σ) ∨ D (cr.st σ)) ∧ (cr.st σ).len = σ.len ∧ Fr M σ.len σ (cr.st σ)) hfn (hpr _ _) hcl (by
    rw [hargs]
    refine hw.mono fun e a σ' ⟨g1, g2, g3, g4⟩ => ?_
    have key : ∃ v, (finish σ (.ret (tupleL [])) σ').out = .ret v ∧ (C xs.length ((finish σ (.ret (tupleL [])) σ').st σ) ∨ D ((finish σ (.ret (tupleL [])) σ').st σ)) ∧ ((finish σ (.ret (tupleL [])) σ').st σ).len = σ.len ∧ Fr M σ.len σ ((finish σ (.ret (tupleL [])) σ').st σ) := by
      have hr : (LV.tuple ([] : List LV)).refOK σ.boxes.length = true := rfl
      have hlen : σ.boxes.length ≤ σ'.boxes.length := g3.len
      by_cases hs : σ'.ws.filter (· < σ.boxes.length) = [] ∧ σ'.toks.take σ.toks.length = σ.toks
      · have e1 : finish σ (.ret (tupleL [])) σ' = .still (.ret (.tuple [])) := by
          unfold finish
          simp only [tupleL, LOut.fin, LV.canonR, List.map_nil, LOut.val, hr, if_true, LOut.bare]
          rw [if_pos ⟨hs.1, hs.2, rfl⟩]
        rw [e1]
        refine ⟨_, rfl, ?_, rfl, Fr.refl (Nat.le_refl _)⟩
        have nw : ¬ Wr M σ' := fun ⟨w, hw1, hw2⟩ => by
          have : w ∈ σ'.ws.filter (· < σ.boxes.length) := List.mem_filter.2 ⟨hw1, by have : σ.len = σ.boxes.length := rfl; simp; omega⟩
          rw [hs.1] at this; cases this
        rcases g4 with ⟨_, h⟩ | ⟨_, h⟩
        · rcases h with h | h
          · rw [h]; exact .inl hc0
          · exact absurd h nw
        · exact absurd h nw
      · have e1 : finish σ (.ret (tupleL [])) σ' = .moved (.ret (.tuple [])) { boxes := σ'.boxes.take σ.boxes.length, toks := σ'.toks, ws := σ'.ws.filter (· < σ.boxes.length) ++ σ.ws } := by
          unfold finish
          simp only [tupleL, LOut.fin, LV.canonR, List.map_nil, LOut.val, hr, if_true, LOut.bare]
          rw [if_neg fun h => hs ⟨h.1, h.2.1⟩]; rfl
        rw [e1]
        have hb : ∀ b, b < σ.len → (σ'.boxes.take σ.boxes.length)[b]? = σ'.boxes[b]? := fun b hb => List.getElem?_take_of_lt hb
        refine ⟨_, rfl, ?_, ?_, ?_, ?_, ?_⟩
        · rcases g4 with ⟨h, _⟩ | ⟨h, _⟩
          · exact .inl (hC _ σ' _ (fun b hb' => hb b (by omega)) rfl h)
          · exact .inr (hD σ' _ (fun b hb' => hb b (by omega)) rfl h)
        · simp only [CR.st, LH.len, List.length_take]; omega
        · exact g3.toks
        · simp only [CR.st, LH.len, List.length_take]; omega
        · intro b hb1 hb2
          exact (hb b hb2).trans (g3.box b hb1 hb2)
    rcases g1 with rfl | rfl
    · exact ⟨σ', by rw [g2]; exact .nil, [], by rw [hres]; rfl, key⟩
    · exact ⟨σ', by rw [g2]; exact .nil, [], by rw [hres]; rfl, key⟩)
  exact ⟨v, cr, h1, h2, h3, h4, h5⟩
theorem WS_seqI {l1 : List (Nat × LV)} (hs : Sub l1 l) (J : LH → Prop) {x y : Code} (h2 : ∀ σ', J σ' → WS L pr rnd N df y l1 σ' Q)
    (h1 : WS L pr rnd N df x l σ (thenQ (fun a' σ' => a'.defers = df ∧ SL a'.tmps N l1 ∧ J σ') Q)) : WS L pr rnd N df (.seq x y) l σ Q :=
  WS_seq fun tm ht => (h1 tm ht).mono fun e a' σ' h => by
    cases e with
    | normal =>
      obtain ⟨h3, h4, h5⟩ := h
      obtain ⟨tm', df'⟩ := a'
      simp only at h3 h4; subst h3
      exact h2 σ' h5 tm' h4
    | _ => exact h
def ItI (σ : LH) (M : Nat) (C : Nat → LH → Prop) (j : Nat) (σ' : LH) : Prop := C j σ' ∧ (j = 0 ∨ Wr M σ') ∧ Fr M σ.len σ σ'
variable {M : Nat} {C : Nat → LH → Prop} {D : LH → Prop}
theorem Wr.put {σ : LH} {t : TypeId} {cs : List LV} (h : Wr M σ) : Wr M (σ.put t cs) := by
  obtain ⟨w, h1, h2⟩ := h
  exact ⟨w, List.mem_cons_of_mem _ h1, h2⟩
theorem ItI.put {j : Nat} {σ' : LH} {t : TypeId} {cs : List LV} (h : ItI σ M C j σ') (hM : M ≤ σ.len) (hC : ∀ i, Low M (C i)) : ItI σ M C j (σ'.put t cs) := by
  obtain ⟨h1, h2, h3⟩ := h
  refine ⟨hC j σ' _ (fun b hb => ?_) rfl h1, h2.imp id Wr.put, h3.put⟩
  have := h3.len
  simp only [LH.put]; rw [List.getElem?_append_left (by show b < σ'.len; omega)]
theorem ItI.yield {y : LV} {xs : List (List LV)} {j : Nat} {σ' : LH} {x : List LV} (hy : ∀ i x σ', xs[i]? = some x → C i σ' → σ.len ≤ σ'.len → ∃ b σ2, EvF L pr y x σ' (.moved (.ret (.bool b)) σ2) ∧ Fr M σ'.len σ' σ2 ∧ σ2.len = σ'.len ∧ Wr M σ2 ∧ (if b then C (i + 1) σ2 else D σ2))
    (hx : xs[j]? = some x) (h : ItI σ M C j σ') : ∃ b σ2, EvF L pr y x σ' (.moved (.ret (.bool b)) σ2) ∧ ((b = true ∧ ItI σ M C (j + 1) σ2) ∨ (b = false ∧ D σ2 ∧ Wr M σ2 ∧ Fr M σ.len σ σ2)) := by
  obtain ⟨h1, h2, h3⟩ := h
  obtain ⟨b, σ2, g1, g2, g3, g4, g5⟩ := hy j x σ' hx h1 h3.len
  have hf : Fr M σ.len σ σ2 := ⟨g2.toks.trans h3.toks, by have := h3.len; omega, fun b h1 h2 => (g2.box b h1 (by have := h3.len; omega)).trans (h3.box b h1 h2)⟩
  refine ⟨b, σ2, g1, ?_⟩
  cases b with
  | true => exact .inl ⟨rfl, g5, .inr g4, hf⟩
  | false => exact .inr ⟨rfl, g5, g4, hf⟩
theorem endQ_M {rs : List ResultVar} {R : LOut → LH → Prop} {e : LExit} {a : LAct} {σ' : LH} (h : endQ L rs R e a σ') : endM L rs R e a σ' := by
  cases e with
  | normal => obtain ⟨h1, h2⟩ := h; exact ⟨σ', by rw [h1]; exact .nil, h2⟩
  | ret => obtain ⟨h1, h2⟩ := h; exact ⟨σ', by rw [h1]; exact .nil, h2⟩
  | panic v => obtain ⟨h1, h2⟩ := h; exact ⟨σ', by rw [h1]; exact .nil, h2⟩
  | exit id => exact h.elim
theorem endQ_mono {rs : List ResultVar} {R R' : LOut → LH → Prop} {e : LExit} {a : LAct} {σ' : LH} (h : endQ L rs R e a σ') (hr : ∀ out σ', R out σ' → R' out σ') : endQ L rs R' e a σ' := by
  cases e with
  | normal => obtain ⟨h1, vs, h2, h3⟩ := h; exact ⟨h1, vs, h2, hr _ _ h3⟩
  | ret => obtain ⟨h1, vs, h2, h3⟩ := h; exact ⟨h1, vs, h2, hr _ _ h3⟩
  | panic v => obtain ⟨h1, h2⟩ := h; exact ⟨h1, hr _ _ h2⟩
  | exit id => exact h.elim
theorem EvF_clo {g h : FuncId} {fn : FnL} {args : List LV} {fcs : Nat → List LV} {os : List LObj} (hfn : L.fnOf g = some fn) (hpr : ∀ l σ, pr g l σ = none) (hn : args.length ≤ fn.ntmps ∧ fn.ntmps < 511)
    (hg : ∀ x ∈ args, x.Good ∧ x.argC = x ∧ x.canonA = x) (hfcs : ∀ n, LV.refsOK n (fcs n) = false)
    (hw : ∀ σ : LH, σ.ws = [] → WS L pr false fn.ntmps [] fn.body (argSlots 0 args) σ (endQ L fn.results fun out σ' => out = .ret (.func (.func h) [] (fcs σ.len)) ∧ σ' = { boxes := σ.boxes ++ os, toks := σ.toks, ws := [] })) (σ : LH) :
    EvF L pr (.func (.func g) [] []) args σ (.moved (.ret (.func (.func h) [] (fcs σ.len))) { boxes := σ.boxes ++ os, toks := σ.toks, ws := σ.ws }) := by
  have hm : ([] ++ args ++ []).map LV.argC = args := by
    rw [List.nil_append, List.append_nil]
    exact (List.map_congr_left fun x hx => (hg x hx).2.1).trans (List.map_id _)
  have hm2 : ([] ++ args ++ []).map LV.canonA = args := by
    rw [List.nil_append, List.append_nil]
    exact (List.map_congr_left fun x hx => (hg x hx).2.2).trans (List.map_id _)
  have hsl : SL (enterTmps fn args) fn.ntmps (argSlots 0 args) := ⟨fun k hk => enter_has hk hn.2, fun k u hu => by
    obtain ⟨i, h1, h2⟩ := argSlots_get args 0 k u hu
    rw [Nat.zero_add] at h1; subst h1; exact enter_get h2 hn.1 hn.2⟩
  have hno : ∀ n, (LV.func (.func h) [] (fcs n)).refOK n = false := fun n => by simp [LV.refOK, LV.refsOK, hfcs]
  obtain ⟨cr, h1, h2⟩ := EvF_both (L := L) (pr := pr) (g := g) (fs := []) (args := args) (cs := []) (σ := σ) (R := fun cr => cr = .moved (.ret (.func (.func h) [] (fcs σ.len))) { boxes := σ.boxes ++ os, toks := σ.toks, ws := σ.ws }) hfn (hpr _ _) (by
    rw [hm]
    refine (hw { boxes := [], toks := [], ws := [] } rfl _ hsl).mono fun e a σ' hq => endQ_M (endQ_mono hq fun out σ2 ⟨g1, g2⟩ => ?_)
    subst g1
    unfold closeF
    simp only [LOut.fin, LV.canonR, LOut.val]
    refine if_neg fun ⟨k, _⟩ => ?_
    have k : (LV.func (.func h) [] (fcs 0)).refOK 0 = true := k
    rw [hno 0] at k; cases k) (by
    rw [hm2]
    refine (hw { σ with ws := [] } rfl _ hsl).mono fun e a σ' hq => endQ_M (endQ_mono hq fun out σ2 ⟨g1, g2⟩ => ?_)
    subst g1; subst g2
    unfold finish
    simp only [LOut.fin, LV.canonR, LOut.val]
    refine if_neg fun k => ?_
    have k : (LV.func (.func h) [] (fcs σ.len)).refOK σ.len = true := k
    rw [hno] at k; cases k)
  rw [h2] at h1; exact h1
theorem box_same {σ σ' : LH} {b : Nat} {y : TypeId × List LV} (h : boxOf σ b = some y) (hs : σ'.boxes[b]? = σ.boxes[b]?) : boxOf σ' b = some y := by rw [boxOf_get hs]; exact h
theorem it_fr {n m : Nat} {σ' : LH} {t : TypeId} {cs : List LV} (h : m ≤ σ'.len) (ws : List Nat) : Fr n m σ' (({ σ' with ws := ws } : LH).put t cs) :=
  ⟨rfl, by rw [put_len]; exact Nat.le_succ_of_le h, fun b h1 h2 => by simp only [LH.put]; rw [List.getElem?_append_left (by show b < σ'.len; omega)]⟩
theorem fr_upd {n m b : Nat} {σ' : LH} {t : TypeId} {cs : List LV} (h : m ≤ σ'.len) (hb : b < n) : Fr n m σ' (σ'.upd b t cs) := (Fr.refl h).upd (.inl hb)
theorem WS_seqD {l1 : List (Nat × LV)} (hs : Sub l1 l) (df' : List LDef) (J : LH → Prop) {x y : Code} (h2 : ∀ σ', J σ' → WS L pr rnd N df' y l1 σ' Q)
    (h1 : WS L pr rnd N df x l σ (thenQ (fun a' σ' => a'.defers = df' ∧ SL a'.tmps N l1 ∧ J σ') Q)) : WS L pr rnd N df (.seq x y) l σ Q :=
  WS_seq fun tm ht => (h1 tm ht).mono fun e a' σ' h => by
    cases e with
    | normal =>
      obtain ⟨h3, h4, h5⟩ := h
      obtain ⟨tm', df''⟩ := a'
      simp only at h3 h4; subst h3
      exact h2 σ' h5 tm' h4
    | _ => exact h
theorem endM_tmp {t : Nat} {v : LV} {R : LOut → LH → Prop} {tm : Tm} {df : List LDef} {σ' : LH} (ht : SL tm N l) (hv : lk l t = some v) (hm : MarksOK df σ σ') (h : R (.ret v) σ') : endM L [.tmp t] R .ret ⟨tm, df⟩ σ :=
  ⟨σ', hm, [v], by simp only [resultsL, resultL, ht.2 _ _ hv], h⟩
theorem marks2 {a b : Nat} (ha : σ.boxes[a]? = some .dfr) (hb : σ.boxes[b]? = some .dfr) (hne : a ≠ b) : ∃ σ', MarksOK [.mark a, .mark b] σ σ' ∧ ∀ c, c ≠ a → c ≠ b → σ'.boxes[c]? = σ.boxes[c]? :=
  ⟨_, .cons ha (.cons (by rw [List.getElem?_set_ne hne]; exact hb) .nil), fun c h1 h2 => by simp only [List.getElem?_set_ne (Ne.symm h2), List.getElem?_set_ne (Ne.symm h1)]⟩
theorem marks1 {a : Nat} (ha : σ.boxes[a]? = some .dfr) : ∃ σ', MarksOK [.mark a] σ σ' ∧ ∀ c, c ≠ a → σ'.boxes[c]? = σ.boxes[c]? := ⟨_, .cons ha .nil, fun c h1 => by simp only [List.getElem?_set_ne (Ne.symm h1)]⟩
theorem endM_cell {t : TypeId} {a : Tmp} {b o : Nat} {v : LV} {R : LOut → LH → Prop} {tm : Tm} {df : List LDef} {σ' : LH} (ht : SL tm N l) (hp : lk l a = some (.ptr b o)) (hm : MarksOK df σ σ') (hv : loadL L σ' t (.ptr b o) = some v) (h : R (.ret v) σ') : endM L [.cell a t] R .ret ⟨tm, df⟩ σ :=
  ⟨σ', hm, [v], by simp only [resultsL, resultL, ht.2 _ _ hp, hv], h⟩
theorem imax {a b : Int} {ats : Array TypeId} {ty : TypeId} : minmaxL L .max ats ty [.int .i64 a, .int .i64 b] = some (.int .i64 (max a b)) := by
  show some (LV.int .i64 (if b > a then b else a)) = _
  congr 2; split <;> omega
theorem imin {a b : Int} {ats : Array TypeId} {ty : TypeId} : minmaxL L .min ats ty [.int .i64 a, .int .i64 b] = some (.int .i64 (min a b)) := by
  show some (LV.int .i64 (if b < a then b else a)) = _
  congr 2; split <;> omega
theorem nd {a b : Nat} (h : Nat.beq a b = false) : a ≠ b := Nat.ne_of_beq_eq_false h
theorem nl {a b : Nat} (h : Nat.ble (a + 1) b = true) : a < b := Nat.le_of_ble_eq_true h
theorem WS_seqB {l1 : List (Nat × LV)} (hs : Sub l1 l) (d0 : Nat) (b : Bool) {x y : Code} (h1 : WS L pr rnd N df x l σ (thenQ (fun a' σ' => a'.defers = df ∧ SL a'.tmps N ((d0, .bool b) :: l1) ∧ σ' = σ) Q))
    (h2 : WS L pr rnd N df y ((d0, .bool b) :: l1) σ Q) : WS L pr rnd N df (.seq x y) l σ Q :=
  WS_seq fun tm ht => (h1 tm ht).mono fun e a' σ' h => by
    cases e with
    | normal =>
      obtain ⟨h3, h4, h5⟩ := h
      obtain ⟨tm', df''⟩ := a'
      simp only at h3 h4; subst h3; subst h5
      exact h2 tm' h4
    | _ => exact h
theorem WS_regB1 {l1 : List (Nat × LV)} (hs : Sub l1 l) (d0 : Nat) (b : Bool) {id : Nat} {ops : Array Oper}
    (h : ∀ (K : List (Nat × LV) → LH → Prop) (gs : Nat → Option Tmp) (P : LV → LAct → LH → Prop), (∀ l', lk l' d0 = some (.bool b) → Sub l1 l' → K l' σ) → gs = slotOf ops → (∀ v a σ, Q (.panic v) a σ → P v a σ) → RS L pr rnd N df gs P ops.toList l σ K)
    (hfin : ∀ tm, SL tm N ((d0, .bool b) :: l1) → Q .normal ⟨tm, df⟩ σ) : WS L pr rnd N df (.region id ops false) l σ Q :=
  WS_reg1 fun K gs P hK hgs hP => h K gs P (fun l' h1 h2 => hK _ _ fun tm ht => hfin tm (ht.sub (sub_cons h1 h2))) hgs hP
theorem WS_seqV {l1 : List (Nat × LV)} (hs : Sub l1 l) (d0 : Nat) (v : LV) {x y : Code} (h1 : WS L pr rnd N df x l σ (thenQ (fun a' σ' => a'.defers = df ∧ SL a'.tmps N ((d0, v) :: l1) ∧ σ' = σ) Q))
    (h2 : WS L pr rnd N df y ((d0, v) :: l1) σ Q) : WS L pr rnd N df (.seq x y) l σ Q :=
  WS_seq fun tm ht => (h1 tm ht).mono fun e a' σ' h => by
    cases e with
    | normal =>
      obtain ⟨h3, h4, h5⟩ := h
      obtain ⟨tm', df''⟩ := a'
      simp only at h3 h4; subst h3; subst h5
      exact h2 tm' h4
    | _ => exact h
theorem Ret.ofE {g : FuncId} {fn : FnL} {args : List LV} {V : LV → Prop} (hfn : L.fnOf g = some fn) (hpr : ∀ l σ, pr g l σ = none) (hn : args.length ≤ fn.ntmps ∧ fn.ntmps < 511)
    (hg : ∀ x ∈ args, x.Good ∧ x.argC = x) (hv : ∀ v, V v → v.Good ∧ ∀ xs k nz, v ≠ .slice xs (.tok k) nz)
    (h : WS L pr false fn.ntmps [] fn.body (argSlots 0 args) LH.new (endM L fn.results fun out σ' => ∃ v, V v ∧ out.fin = .ret v)) : ∃ v, V v ∧ Ret L pr g args v := by
  have hm : ([] ++ args ++ []).map LV.argC = args := by
    rw [List.nil_append, List.append_nil]
    exact (List.map_congr_left fun x hx => (hg x hx).2).trans (List.map_id _)
  have hsl : SL (enterTmps fn args) fn.ntmps (argSlots 0 args) := ⟨fun k hk => enter_has hk hn.2, fun k u hu => by
    obtain ⟨i, h1, h2⟩ := argSlots_get args 0 k u hu
    rw [Nat.zero_add] at h1; subst h1; exact enter_get h2 hn.1 hn.2⟩
  obtain ⟨out, σ', ⟨n, hn'⟩, v, hV, hR⟩ := body_runM (h _ hsl)
  obtain ⟨hv, hs⟩ := hv v hV
  refine ⟨v, hV, fun σ => ?_⟩
  have hcl : (LV.refsOK 0 args && LV.toksOK 0 args) = true := by rw [goods_ref (fun x hx => (hg x hx).1), goods_tok (fun x hx => (hg x hx).1)]; rfl
  have key : closeF σ out σ' = some (.still (.ret v)) := by
    unfold closeF
    simp only [hR]
    have hb : (LOut.ret v).bare.tokOK 0 = true := by
      cases v with
      | slice xs own nz =>
        have := hv.tok 0
        simp only [LV.tokOK, Bool.and_eq_true] at this
        simp only [LOut.bare, LV.tokOK, Own.ok, Bool.true_and]; exact this.2
      | _ => exact hv.tok 0
    rw [if_pos ⟨hv.ref 0, hb⟩]
    split
    · rename_i xs k nz heq
      injection heq with heq
      exact absurd heq (hs _ _ _)
    · rfl
  refine EvF.mk n fun m hmm => ?_
  have e1 := hn' m hmm
  simp only [LH.new] at e1
  simp only [stepF, hm, List.nil_append, List.append_nil, hpr, hfn, closedF]
  rw [show args.map LV.argC = args from by simpa using hm, hcl]
  simp only [if_true, e1, key]
theorem WS_seqE {l1 : List (Nat × LV)} (hs : Sub l1 l) (d0 : Nat) {x y : Code} (h1 : WS L pr rnd N df x l σ (thenQ (fun a' σ' => a'.defers = df ∧ (∃ b, SL a'.tmps N ((d0, .bool b) :: l1)) ∧ σ' = σ) Q))
    (h2 : ∀ b, WS L pr rnd N df y ((d0, .bool b) :: l1) σ Q) : WS L pr rnd N df (.seq x y) l σ Q :=
  WS_seq fun tm ht => (h1 tm ht).mono fun e a' σ' h => by
    cases e with
    | normal =>
      obtain ⟨h3, ⟨b, h4⟩, h5⟩ := h
      obtain ⟨tm', df''⟩ := a'
      simp only at h3 h4; subst h3; subst h5
      exact h2 b tm' h4
    | _ => exact h
theorem WS_regE {l1 : List (Nat × LV)} (hs : Sub l1 l) (d0 : Nat) {id : Nat} {ops : Array Oper} {rest : Code}
    (h : ∀ (K : List (Nat × LV) → LH → Prop) (gs : Nat → Option Tmp) (P : LV → LAct → LH → Prop), (∀ l' b, lk l' d0 = some (.bool b) → Sub l1 l' → K l' σ) → gs = slotOf ops → (∀ v a σ, Q (.panic v) a σ → P v a σ) → RS L pr rnd N df gs P ops.toList l σ K)
    (hrest : ∀ b, WS L pr rnd N df rest ((d0, .bool b) :: l1) σ Q) : WS L pr rnd N df (.seq (.region id ops false) rest) l σ Q :=
  WS_reg fun K gs P hK hgs hP => h K gs P (fun l' b h1 h2 => hK _ _ ((hrest b).weaken (sub_cons h1 h2))) hgs hP
section
variable {gs : Nat → Option Tmp} {P : LV → LAct → LH → Prop} {K : List (Nat × LV) → LH → Prop} {d : Nat} {ty : TypeId} {p : String} {af : Array Edge} {os : List Oper}
theorem o_slc {t : TypeId} {x lo : Operand} {u w r : LV} (hN : Nat.blt d N = true) (hx : ov l x = some u) (hlo : ov l lo = some w) (hr : sliceL L t u (some w) none none = some r) (h : RS L pr rnd N df gs P os ((d, r) :: l) σ K) :
    RS L pr rnd N df gs P (⟨some d, .slice t x (some lo) none none, ty, p, af, none⟩ :: os) l σ K := fun tm ht =>
  RW_step ⟨.val r σ, by simp only [opStep, pureOp, optL, ov_sound ht hx, ov_sound ht hlo, hr, Option.map_some], h _ (ht.put hN)⟩
end
theorem len_str {t : TypeId} {s : ByteArray} (h : L.und t = some .string) : lenL L t (.str s) = some (.int .i64 s.size) := by simp only [lenL, h]
theorem ix_str {t : TypeId} {s : ByteArray} {k : IntKind} {i : Int} {n : Nat} {b : UInt8} (h : L.und t = some .string) (hi : i = n) (hb : s[n]? = some b) : indexL L t (.str s) (.int k i) = some (.int .u8 b.toNat) := by
  subst hi
  simp only [indexL, h, Int.toNat_natCast, hb]
  rw [if_pos (Int.natCast_nonneg n)]
theorem sl_str {t : TypeId} {s : ByteArray} {k : IntKind} {i : Int} {n : Nat} (h : L.und t = some .string) (hi : i = n) (hn : n ≤ s.size) : sliceL L t (.str s) (some (.int k i)) none none = some (.str (s.extract n s.size)) := by
  subst hi
  simp only [sliceL, h, boundL, Option.isSome_none, Bool.false_eq_true, if_false, Int.toNat_natCast]
  rw [if_pos ⟨Int.natCast_nonneg n, by omega⟩]
theorem gfun {f : FuncId} : (LV.func (.func f) [] []).Good ∧ (LV.func (.func f) [] []).argC = .func (.func f) [] [] := ⟨⟨fun n => by simp [LV.refOK, LV.refsOK], fun n => by simp [LV.tokOK, LV.toksOK]⟩, rfl⟩
def slcL (xs : List LV) : LV := .slice xs .none none
theorem gslc {α : Type} {f : α → LV} {l : List α} (h : ∀ x, (f x).Good) : (slcL (l.map f)).Good ∧ (slcL (l.map f)).argC = slcL (l.map f) := ⟨good_slice fun y hy => by obtain ⟨z, hz, rfl⟩ := List.mem_map.1 hy; exact h z, rfl⟩
end Go.Lg
end
section
namespace Go.Lg
variable {L : Look} {pr : Prim} {rnd : Bool} {N : Nat} {df : List LDef} {l : List (Nat × LV)} {σ : LH} {Q : LExit → LAct → LH → Prop}
structure Fo (σ σ' : LH) : Prop where
  ws : ∀ w ∈ σ'.ws, σ.len ≤ w
  toks : σ'.toks.take σ.toks.length = σ.toks
  len : σ.len ≤ σ'.len
  box : ∀ b, b < σ.len → σ'.boxes[b]? = σ.boxes[b]?
theorem Fo.refl (h : σ.ws = []) : Fo σ σ := ⟨(fun w hw => by rw [h] at hw; cases hw), List.take_length, Nat.le_refl _, fun b _ => rfl⟩
theorem Fo.push {σ' : LH} {o : LObj} (h : Fo σ σ') : Fo σ (σ'.push o) := ⟨h.ws, h.toks, by rw [push_len]; exact Nat.le_succ_of_le h.len, fun b hb => by
  rw [← h.box b hb]; simp only [LH.push]; rw [List.getElem?_append_left (by have := h.len; show b < σ'.len; omega)]⟩
theorem Fo.put {σ' : LH} {t : TypeId} {cs : List LV} (h : Fo σ σ') : Fo σ (σ'.put t cs) := ⟨(fun w hw => by
    rcases List.mem_cons.1 hw with hw | hw
    · rw [hw]; exact h.len
    · exact h.ws w hw), h.toks, by rw [put_len]; exact Nat.le_succ_of_le h.len, fun b hb => by
  rw [← h.box b hb]; simp only [LH.put]; rw [List.getElem?_append_left (by have := h.len; show b < σ'.len; omega)]⟩
theorem Fo.upd {σ' : LH} {b : Nat} {t : TypeId} {cs : List LV} (h : Fo σ σ') (hb : σ.len ≤ b) : Fo σ (σ'.upd b t cs) := ⟨(fun w hw => by
    rcases List.mem_cons.1 hw with hw | hw
    · rw [hw]; exact hb
    · exact h.ws w hw), h.toks, by rw [upd_len]; exact h.len, fun b' hb' => by
  rw [← h.box b' hb']; simp only [LH.upd]; rw [List.getElem?_set_ne (by omega)]⟩
def Own1 (T : Nat) : Own → Prop
  | .tok k => T ≤ k
  | _ => True
theorem Fo.own {σ' : LH} {w : Own} (h : Fo σ σ') (hw : Own1 σ.toks.length w) : Fo σ (σ'.own w) ∧ Own1 σ.toks.length (.tok σ'.toks.length) := by
  have hT : σ.toks.length ≤ σ'.toks.length := by
    have := congrArg List.length h.toks
    rw [List.length_take] at this; omega
  refine ⟨?_, hT⟩
  cases w with
  | tok k => exact ⟨h.ws, by simp only [LH.own]; rw [List.take_append_of_le_length (by rw [List.length_set]; exact hT), List.take_set, List.set_eq_of_length_le (by rw [List.length_take]; have : σ.toks.length ≤ k := hw; omega)]; exact h.toks, h.len, h.box⟩
  | none => exact ⟨h.ws, by simp only [LH.own]; rw [List.take_append_of_le_length hT]; exact h.toks, h.len, h.box⟩
  | exact => exact ⟨h.ws, by simp only [LH.own]; rw [List.take_append_of_le_length hT]; exact h.toks, h.len, h.box⟩
theorem Fo.low {σ' : LH} {J : LH → Prop} (h : Fo σ σ') (hJ : ∀ τ τ' : LH, (∀ b, b < τ.len → τ'.boxes[b]? = τ.boxes[b]?) → J τ → J τ') (hj : J σ) : J σ' := hJ σ σ' h.box hj
theorem endM_mono {rs : List ResultVar} {R R' : LOut → LH → Prop} {e : LExit} {a : LAct} {σ' : LH} (h : endM L rs R e a σ') (hr : ∀ out σ', R out σ' → R' out σ') : endM L rs R' e a σ' := by
  cases e with
  | normal => obtain ⟨τ, h1, vs, h2, h3⟩ := h; exact ⟨τ, h1, vs, h2, hr _ _ h3⟩
  | ret => obtain ⟨τ, h1, vs, h2, h3⟩ := h; exact ⟨τ, h1, vs, h2, hr _ _ h3⟩
  | panic v => obtain ⟨τ, h1, h2⟩ := h; exact ⟨τ, h1, hr _ _ h2⟩
  | exit id => exact h.elim
theorem EvO {g : FuncId} {fn : FnL} {fs args cs : List LV} {v : LV} {S : LH → Prop} (hfn : L.fnOf g = some fn) (hpr : ∀ l σ, pr g l σ = none) (hn : (fs ++ args ++ cs).length ≤ fn.ntmps ∧ fn.ntmps < 511)
    (hcl : LV.refsOK 0 ((fs ++ args ++ cs).map LV.argC) = false) (hA : (fs ++ args ++ cs).map LV.canonA = fs ++ args ++ cs) (hv : v.Good) (hs : ∀ xs k nz, v ≠ .slice xs (.tok k) nz) (hS : ∀ σ ws, S σ → S { σ with ws := ws })
    (h : ∀ σ : LH, S σ → σ.ws = [] → WS L pr false fn.ntmps [] fn.body (argSlots 0 (fs ++ args ++ cs)) σ (endM L fn.results fun out σ' => out.fin = .ret v ∧ Fo σ σ')) :
    ∀ σ, S σ → EvF L pr (.func (.func g) fs cs) args σ (.still (.ret v)) := by
  intro σ hσ
  have hsl : SL (enterTmps fn (fs ++ args ++ cs)) fn.ntmps (argSlots 0 (fs ++ args ++ cs)) := ⟨fun k hk => enter_has hk hn.2, fun k u hu => by
    obtain ⟨i, h1, h2⟩ := argSlots_get (fs ++ args ++ cs) 0 k u hu
    rw [Nat.zero_add] at h1; subst h1; exact enter_get h2 hn.1 hn.2⟩
  have hw := h { σ with ws := [] } (hS σ [] hσ) rfl _ hsl
  obtain ⟨cr, h1, h2⟩ := EvF_openM (L := L) (pr := pr) (fs := fs) (args := args) (cs := cs) (σ := σ) (R := fun cr => cr = .still (.ret v)) hfn (hpr _ _) (by rw [hcl]; rfl) (by
    rw [hA]
    refine hw.mono fun e a σ' hq => endM_mono hq fun out σ' ⟨g1, g2⟩ => ?_
    unfold finish
    simp only [g1, LOut.val]
    rw [if_pos (hv.ref _)]
    have e1 : σ'.ws.filter (· < σ.boxes.length) = [] := by
      rw [List.filter_eq_nil_iff]
      intro w hw
      have := g2.ws w hw
      have hl : ({ σ with ws := [] } : LH).len = σ.boxes.length := rfl
      simp only [decide_eq_true_eq]; omega
    have hb : (LOut.ret v).bare.tokOK σ.toks.length = true := by
      cases v with
      | slice xs own nz =>
        have := hv.tok σ.toks.length
        simp only [LV.tokOK, Bool.and_eq_true] at this
        simp only [LOut.bare, LV.tokOK, Own.ok, Bool.true_and]; exact this.2
      | _ => exact hv.tok _
    rw [if_pos ⟨e1, g2.toks, hb⟩]
    split
    · rename_i xs k nz heq
      injection heq with heq
      exact absurd heq (hs _ _ _)
    · rfl)
  rw [h2] at h1; exact h1
def Out (L : Look) (pr : Prim) (g : FuncId) (args : List LV) (out : LOut) : Prop := ∀ σ, EvF L pr (.func (.func g) [] []) args σ (.still out)
theorem Out.of {g : FuncId} {fn : FnL} {args : List LV} {out : LOut} (hfn : L.fnOf g = some fn) (hpr : ∀ l σ, pr g l σ = none) (hn : args.length ≤ fn.ntmps ∧ fn.ntmps < 511)
    (hg : ∀ x ∈ args, x.Good ∧ x.argC = x) (hv : out.val.Good) (hs : ∀ xs k nz, out.val ≠ .slice xs (.tok k) nz)
    (h : WS L pr false fn.ntmps [] fn.body (argSlots 0 args) LH.new (endM L fn.results fun o σ' => o.fin = out)) : Out L pr g args out := by
  have hm : ([] ++ args ++ []).map LV.argC = args := by
    rw [List.nil_append, List.append_nil]
    exact (List.map_congr_left fun x hx => (hg x hx).2).trans (List.map_id _)
  have hsl : SL (enterTmps fn args) fn.ntmps (argSlots 0 args) := ⟨fun k hk => enter_has hk hn.2, fun k u hu => by
    obtain ⟨i, h1, h2⟩ := argSlots_get args 0 k u hu
    rw [Nat.zero_add] at h1; subst h1; exact enter_get h2 hn.1 hn.2⟩
  obtain ⟨o, σ', ⟨n, hn'⟩, hR⟩ := body_runM (h _ hsl)
  intro σ
  have hcl : (LV.refsOK 0 args && LV.toksOK 0 args) = true := by rw [goods_ref (fun x hx => (hg x hx).1), goods_tok (fun x hx => (hg x hx).1)]; rfl
  have key : closeF σ o σ' = some (.still out) := by
    unfold closeF
    simp only [hR]
    have hb : out.bare.tokOK 0 = true := by
      cases out with
      | ret v => cases v with
        | slice xs own nz =>
          have := hv.tok 0
          simp only [LOut.val, LV.tokOK, Bool.and_eq_true] at this
          simp only [LOut.bare, LV.tokOK, Own.ok, Bool.true_and]; exact this.2
        | _ => exact hv.tok 0
      | pan v => exact hv.tok 0
    rw [if_pos ⟨hv.ref 0, hb⟩]
    cases out with
    | pan v => rfl
    | ret v => cases v with
      | slice xs own nz => cases own with
        | tok k => exact absurd rfl (hs xs k nz)
        | _ => rfl
      | _ => rfl
  refine EvF.mk n fun m hmm => ?_
  have e1 := hn' m hmm
  simp only [LH.new] at e1
  simp only [stepF, List.nil_append, List.append_nil, hpr, hfn, closedF]
  rw [show args.map LV.argC = args from by simpa using hm, hcl]
  simp only [if_true, e1, key]
theorem Out.ret {g : FuncId} {args : List LV} {v : LV} (h : Out L pr g args (.ret v)) : Ret L pr g args v := h
section
variable {gs : Nat → Option Tmp} {P : LV → LAct → LH → Prop} {K : List (Nat × LV) → LH → Prop} {d : Nat} {ty : TypeId} {p : String} {af : Array Edge} {os : List Oper}
theorem o_slc2 {t : TypeId} {x hi mx : Operand} {u w w' r : LV} (hN : Nat.blt d N = true) (hx : ov l x = some u) (hhi : ov l hi = some w) (hmx : ov l mx = some w') (hr : sliceL L t u none (some w) (some w') = some r) (h : RS L pr rnd N df gs P os ((d, r) :: l) σ K) :
    RS L pr rnd N df gs P (⟨some d, .slice t x none (some hi) (some mx), ty, p, af, none⟩ :: os) l σ K := fun tm ht =>
  RW_step ⟨.val r σ, by simp only [opStep, pureOp, optL, ov_sound ht hx, ov_sound ht hhi, ov_sound ht hmx, hr, Option.map_some], h _ (ht.put hN)⟩
theorem o_nc {x : Operand} {b o : Nat} (hN : Nat.blt d N = true) (hx : ov l x = some (.ptr b o)) (h : RS L pr rnd N df gs P os ((d, .ptr b o) :: l) σ K) : RS L pr rnd N df gs P (⟨some d, .nilCheck x, ty, p, af, none⟩ :: os) l σ K := fun tm ht =>
  RW_step ⟨.val (.ptr b o) σ, by simp only [opStep, pureOp, ov_sound ht hx], h _ (ht.put hN)⟩
end
theorem heads {xs : List LV} {w : Nat} (h : ∀ x ∈ xs, x.wd = w) : (xs.head?.all fun x => some x.wd == some w) = true := by
  cases xs with
  | nil => rfl
  | cons a l => simp [h a (by simp)]
theorem sl_all {t el : TypeId} {w : Nat} {xs : List LV} {own : Own} {nz : Option Bool} {k k' : IntKind} (hu : L.und t = some (.slice el)) (hs : sizeL L el = some w) (hw : 0 < w) (hx : ∀ x ∈ xs, x.wd = w) :
    sliceL L t (.slice xs own nz) none (some (.int k xs.length)) (some (.int k' xs.length)) = some (.slice xs .exact nz) := by
  simp only [sliceL, hu, hs, Option.getD_some, boundL]
  rw [if_pos ⟨hw, heads hx⟩]
  simp
theorem sl_from0 {t el : TypeId} {w : Nat} {xs : List LV} {nz : Option Bool} {k : IntKind} (hu : L.und t = some (.slice el)) (hs : sizeL L el = some w) (hw : 0 < w) (hx : ∀ x ∈ xs, x.wd = w) :
    sliceL L t (.slice xs .none nz) (some (.int k 0)) none none = some (.slice xs .none nz) := by
  simp only [sliceL, hu, hs, Option.getD_some, boundL]
  rw [if_pos ⟨hw, heads hx⟩]
  simp
theorem EvF_canon {g : FuncId} {fs cs args args' : List LV} {cr : CR} (hpr : ∀ l σ, pr g l σ = none) (h : args.map LV.canonA = args'.map LV.canonA) (he : EvF L pr (.func (.func g) fs cs) args' σ cr) : EvF L pr (.func (.func g) fs cs) args σ cr := by
  have h2 : args.map LV.argC = args'.map LV.argC := by
    have e : ∀ l : List LV, l.map LV.argC = (l.map LV.canonA).map LV.disown := fun l => by rw [List.map_map]; rfl
    rw [e, e, h]
  obtain ⟨n, hn⟩ := he
  refine EvF.mk n fun m hm => ?_
  have := hn (m + 1) (by omega)
  rw [ev_f] at this
  simp only [stepF, hpr, List.map_append] at this ⊢
  rw [h, h2]; exact this
section
variable {gs : Nat → Option Tmp} {P : LV → LAct → LH → Prop} {K : List (Nat × LV) → LH → Prop} {d : Nat} {ty : TypeId} {p : String} {af : Array Edge} {os : List Oper}
theorem o_boxR {t : TypeId} {x : Operand} {v : LV} (hN : Nat.blt d N = true) (hx : ov l x = some v) (hs : sizeL L t = some v.wd) (hf : v.flat = true) (hr : v.refOK (σ.len + 1) = true) (h : RS L pr rnd N df gs P os ((d, .ptr σ.len 0) :: l) (σ.push (.cells t v.cells)) K) : RS L pr rnd N df gs P (⟨some d, .box t x, ty, p, af, none⟩ :: os) l σ K :=
  fun tm ht => RW_step (OW_box.2 ⟨v, _, ov_sound ht hx, hs, ⟨rfl, hf, hr⟩, h _ (ht.put hN)⟩)
end
theorem box_ltt {σ : LH} {b : Nat} {y : TypeId × List LV} (h : boxOf σ b = some y) : b < σ.len := box_lt h
end Go.Lg
end
section
namespace Go.Lg
variable {L : Look} {pr : Prim} {rnd : Bool} {N : Nat} {df : List LDef} {l : List (Nat × LV)} {σ : LH} {Q : LExit → LAct → LH → Prop}
structure Fw (B : Nat) (σ σ' : LH) : Prop where
  ws : ∀ w ∈ σ'.ws, w = B ∨ σ.len ≤ w
  same : B ∈ σ'.ws ∨ σ'.boxes[B]? = σ.boxes[B]?
  toks : σ'.toks.take σ.toks.length = σ.toks
  len : σ.len ≤ σ'.len
  box : ∀ b, b < σ.len → b ≠ B → σ'.boxes[b]? = σ.boxes[b]?
variable {B : Nat}
theorem Fw.refl (h : σ.ws = []) : Fw B σ σ := ⟨(fun w hw => by rw [h] at hw; cases hw), .inr rfl, List.take_length, Nat.le_refl _, fun b _ _ => rfl⟩
theorem Fw.push {σ' : LH} {o : LObj} (hB : B < σ.len) (h : Fw B σ σ') : Fw B σ (σ'.push o) := ⟨h.ws, h.same.imp id fun e => by
  rw [← e]; simp only [LH.push]; rw [List.getElem?_append_left (by have := h.len; show B < σ'.len; omega)], h.toks, by rw [push_len]; exact Nat.le_succ_of_le h.len, fun b hb hne => by
  rw [← h.box b hb hne]; simp only [LH.push]; rw [List.getElem?_append_left (by have := h.len; show b < σ'.len; omega)]⟩
theorem Fw.put {σ' : LH} {t : TypeId} {cs : List LV} (hB : B < σ.len) (h : Fw B σ σ') : Fw B σ (σ'.put t cs) := ⟨(fun w hw => by
    rcases List.mem_cons.1 hw with hw | hw
    · rw [hw]; exact .inr h.len
    · exact h.ws w hw), h.same.imp (fun h => List.mem_cons_of_mem _ h) fun e => by
  rw [← e]; simp only [LH.put]; rw [List.getElem?_append_left (by have := h.len; show B < σ'.len; omega)], h.toks, by rw [put_len]; exact Nat.le_succ_of_le h.len, fun b hb hne => by
  rw [← h.box b hb hne]; simp only [LH.put]; rw [List.getElem?_append_left (by have := h.len; show b < σ'.len; omega)]⟩
theorem Fw.upd {σ' : LH} {b : Nat} {t : TypeId} {cs : List LV} (h : Fw B σ σ') (hb : σ.len ≤ b) (hB : B < σ.len) : Fw B σ (σ'.upd b t cs) := ⟨(fun w hw => by
    rcases List.mem_cons.1 hw with hw | hw
    · rw [hw]; exact .inr hb
    · exact h.ws w hw), h.same.imp (fun h => List.mem_cons_of_mem _ h) (fun e => by rw [← e]; simp only [LH.upd]; rw [List.getElem?_set_ne (by omega)]), h.toks, by rw [upd_len]; exact h.len, fun b' hb' hne => by
  rw [← h.box b' hb' hne]; simp only [LH.upd]; rw [List.getElem?_set_ne (by omega)]⟩
theorem Fw.updB {σ' : LH} {t : TypeId} {cs : List LV} (h : Fw B σ σ') : Fw B σ (σ'.upd B t cs) := ⟨(fun w hw => by
    rcases List.mem_cons.1 hw with hw | hw
    · exact .inl hw
    · exact h.ws w hw), .inl List.mem_cons_self, h.toks, by rw [upd_len]; exact h.len, fun b' hb' hne => by
  rw [← h.box b' hb' hne]; simp only [LH.upd]; rw [List.getElem?_set_ne (Ne.symm hne)]⟩
theorem Fw.own {σ' : LH} {w : Own} (h : Fw B σ σ') (hw : Own1 σ.toks.length w) : Fw B σ (σ'.own w) ∧ Own1 σ.toks.length (.tok σ'.toks.length) := by
  have hT : σ.toks.length ≤ σ'.toks.length := by
    have := congrArg List.length h.toks
    rw [List.length_take] at this; omega
  refine ⟨?_, hT⟩
  cases w with
  | tok k => exact ⟨h.ws, h.same, by simp only [LH.own]; rw [List.take_append_of_le_length (by rw [List.length_set]; exact hT), List.take_set, List.set_eq_of_length_le (by rw [List.length_take]; have : σ.toks.length ≤ k := hw; omega)]; exact h.toks, h.len, h.box⟩
  | none => exact ⟨h.ws, h.same, by simp only [LH.own]; rw [List.take_append_of_le_length hT]; exact h.toks, h.len, h.box⟩
  | exact => exact ⟨h.ws, h.same, by simp only [LH.own]; rw [List.take_append_of_le_length hT]; exact h.toks, h.len, h.box⟩
structure Fb (B : Nat) (σ σ' : LH) : Prop where
  ws : ∀ w ∈ σ'.ws, w = B ∨ w ∈ σ.ws
  same : B ∈ σ'.ws ∨ σ'.boxes[B]? = σ.boxes[B]?
  toks : σ'.toks.take σ.toks.length = σ.toks
  len : σ'.len = σ.len
  box : ∀ b, b ≠ B → σ'.boxes[b]? = σ.boxes[b]?
  mono : ∀ w ∈ σ.ws, w ∈ σ'.ws
  keep : ∀ w ∈ σ'.ws.take (σ'.ws.length - σ.ws.length), w = B
theorem Fw.then {σ' σ'' : LH} (h : Fw B σ σ') (hb : Fb B σ' σ'') : Fw B σ σ'' := ⟨fun w hw => (hb.ws w hw).elim .inl (h.ws w), hb.same.elim .inl (fun e => h.same.imp (hb.mono B) e.trans), by
    have hT : σ.toks.length ≤ σ'.toks.length := by
      have := congrArg List.length h.toks
      rw [List.length_take] at this; omega
    have := congrArg (List.take σ.toks.length) hb.toks
    rw [List.take_take, Nat.min_eq_left hT, h.toks] at this; exact this, by rw [hb.len]; exact h.len, fun b hb1 hb2 => (hb.box b hb2).trans (h.box b hb1 hb2)⟩
theorem EvW {g : FuncId} {fn : FnL} {fs args cs : List LV} {v : LV} {S : LH → Prop} {J : LH → LH → Prop} (hfn : L.fnOf g = some fn) (hpr : ∀ l σ, pr g l σ = none) (hn : (fs ++ args ++ cs).length ≤ fn.ntmps ∧ fn.ntmps < 511)
    (hcl : LV.refsOK 0 ((fs ++ args ++ cs).map LV.argC) = false) (hA : (fs ++ args ++ cs).map LV.canonA = fs ++ args ++ cs) (hv : v.Good) (hs : ∀ xs k nz, v ≠ .slice xs (.tok k) nz) (hS : ∀ σ ws, S σ → S { σ with ws := ws }) (hB : ∀ σ, S σ → B < σ.len)
    (hJ : ∀ σ ws τ τ', τ'.boxes[B]? = τ.boxes[B]? → J { σ with ws := ws } τ → J σ τ')
    (h : ∀ σ : LH, S σ → σ.ws = [] → WS L pr false fn.ntmps [] fn.body (argSlots 0 (fs ++ args ++ cs)) σ (endM L fn.results fun out σ' => out.fin = .ret v ∧ Fw B σ σ' ∧ J σ σ')) :
    ∀ σ, S σ → ∃ cr, EvF L pr (.func (.func g) fs cs) args σ cr ∧ cr.out = .ret v ∧ Fb B σ (cr.st σ) ∧ J σ (cr.st σ) := by
  intro σ hσ
  have hsl : SL (enterTmps fn (fs ++ args ++ cs)) fn.ntmps (argSlots 0 (fs ++ args ++ cs)) := ⟨fun k hk => enter_has hk hn.2, fun k u hu => by
    obtain ⟨i, h1, h2⟩ := argSlots_get (fs ++ args ++ cs) 0 k u hu
    rw [Nat.zero_add] at h1; subst h1; exact enter_get h2 hn.1 hn.2⟩
  have hw := h { σ with ws := [] } (hS σ [] hσ) rfl _ hsl
  have hBl : B < σ.boxes.length := hB σ hσ
  refine EvF_openM (L := L) (pr := pr) (fs := fs) (args := args) (cs := cs) (σ := σ) (R := fun cr => cr.out = .ret v ∧ Fb B σ (cr.st σ) ∧ J σ (cr.st σ)) hfn (hpr _ _) (by rw [hcl]; rfl) (by
    rw [hA]
    refine hw.mono fun e a σ' hq => endM_mono hq fun out σ' ⟨g1, g2, g3⟩ => ?_
    have hl : ({ σ with ws := [] } : LH).len = σ.boxes.length := rfl
    have hlen : σ.boxes.length ≤ σ'.boxes.length := g2.len
    have hb : (LOut.ret v).bare.tokOK σ.toks.length = true := by
      cases v with
      | slice xs own nz =>
        have := hv.tok σ.toks.length
        simp only [LV.tokOK, Bool.and_eq_true] at this
        simp only [LOut.bare, LV.tokOK, Own.ok, Bool.true_and]; exact this.2
      | _ => exact hv.tok _
    by_cases ho : σ'.ws.filter (· < σ.boxes.length) = []
    · have e1 : finish σ out σ' = .still (.ret v) := by
        unfold finish
        simp only [g1, LOut.val]
        rw [if_pos (hv.ref _), if_pos ⟨ho, g2.toks, hb⟩]
        split
        · rename_i xs k nz heq
          injection heq with heq
          exact absurd heq (hs _ _ _)
        · rfl
      rw [e1]
      have hnB : B ∉ σ'.ws := fun hm => by
        have : B ∈ σ'.ws.filter (· < σ.boxes.length) := List.mem_filter.2 ⟨hm, by simpa using hBl⟩
        rw [ho] at this; cases this
      refine ⟨rfl, ⟨fun w hw => .inr hw, .inr rfl, List.take_length, rfl, fun b _ => rfl, fun w hw => hw, fun w hw => by simp [CR.st] at hw⟩, ?_⟩
      exact hJ σ [] σ' σ ((g2.same.resolve_left hnB).symm) g3
    · have e1 : finish σ out σ' = .moved (.ret v) { boxes := σ'.boxes.take σ.boxes.length, toks := σ'.toks, ws := σ'.ws.filter (· < σ.boxes.length) ++ σ.ws } := by
        unfold finish
        simp only [g1, LOut.val]
        rw [if_pos (hv.ref _), if_neg fun h => ho h.1]; rfl
      rw [e1]
      have hold : ∀ w ∈ σ'.ws.filter (· < σ.boxes.length), w = B := fun w hw => by
        obtain ⟨h1, h2⟩ := List.mem_filter.1 hw
        rcases g2.ws w h1 with h3 | h3
        · exact h3
        · have h2 : w < σ.boxes.length := by simpa using h2
          omega
      have hbx : ∀ b, b < σ.boxes.length → (σ'.boxes.take σ.boxes.length)[b]? = σ'.boxes[b]? := fun b hb => List.getElem?_take_of_lt hb
      refine ⟨rfl, ⟨fun w hw => (List.mem_append.1 hw).elim (fun h => .inl (hold w h)) .inr, ?_, g2.toks, ?_, fun b hne => ?_, fun w hw => List.mem_append_right _ hw, fun w hw => ?_⟩, ?_⟩
      · left
        obtain ⟨w, hw2⟩ := List.exists_mem_of_ne_nil _ ho
        rw [hold w hw2] at hw2
        exact List.mem_append_left _ hw2
      · simp only [CR.st, LH.len, List.length_take]; omega
      · simp only [CR.st]
        by_cases hb : b < σ.boxes.length
        · rw [hbx b hb]; exact g2.box b hb hne
        · rw [List.getElem?_eq_none (by rw [List.length_take]; omega), List.getElem?_eq_none (by omega)]
      · simp only [CR.st, List.length_append, Nat.add_sub_cancel, List.take_left] at hw
        exact hold w hw
      · exact hJ σ [] σ' _ (hbx B hBl) g3)
theorem EvW2 {g : FuncId} {fn : FnL} {fs args cs : List LV} {v : LV} {S : LH → Prop} {J : LH → LH → Prop} (hfn : L.fnOf g = some fn) (hpr : ∀ l σ, pr g l σ = none) (hn : (fs ++ args ++ cs).length ≤ fn.ntmps ∧ fn.ntmps < 511)
    (hcl : LV.refsOK 0 ((fs ++ args ++ cs).map LV.argC) = false) (hA : (fs ++ args ++ cs).map LV.canonA = fs ++ args ++ cs) (hv : v.Good) (hs : ∀ xs k nz, v ≠ .slice xs (.tok k) nz) (hS : ∀ σ ws, S σ → S { σ with ws := ws }) (hB : ∀ σ, S σ → B < σ.len)
    (hJ : ∀ σ ws τ τ', (∀ b, b < σ.len → τ'.boxes[b]? = τ.boxes[b]?) → J { σ with ws := ws } τ → J σ τ')
    (h : ∀ σ : LH, S σ → σ.ws = [] → WS L pr false fn.ntmps [] fn.body (argSlots 0 (fs ++ args ++ cs)) σ (endM L fn.results fun out σ' => out.fin = .ret v ∧ Fw B σ σ' ∧ J σ σ')) :
    ∀ σ, S σ → ∃ cr, EvF L pr (.func (.func g) fs cs) args σ cr ∧ cr.out = .ret v ∧ Fb B σ (cr.st σ) ∧ J σ (cr.st σ) := by
  intro σ hσ
  have hsl : SL (enterTmps fn (fs ++ args ++ cs)) fn.ntmps (argSlots 0 (fs ++ args ++ cs)) := ⟨fun k hk => enter_has hk hn.2, fun k u hu => by
    obtain ⟨i, h1, h2⟩ := argSlots_get (fs ++ args ++ cs) 0 k u hu
    rw [Nat.zero_add] at h1; subst h1; exact enter_get h2 hn.1 hn.2⟩
  have hw := h { σ with ws := [] } (hS σ [] hσ) rfl _ hsl
  have hBl : B < σ.boxes.length := hB σ hσ
  refine EvF_openM (L := L) (pr := pr) (fs := fs) (args := args) (cs := cs) (σ := σ) (R := fun cr => cr.out = .ret v ∧ Fb B σ (cr.st σ) ∧ J σ (cr.st σ)) hfn (hpr _ _) (by rw [hcl]; rfl) (by
    rw [hA]
    refine hw.mono fun e a σ' hq => endM_mono hq fun out σ' ⟨g1, g2, g3⟩ => ?_
    have hl : ({ σ with ws := [] } : LH).len = σ.boxes.length := rfl
    have hlen : σ.boxes.length ≤ σ'.boxes.length := g2.len
    have hb : (LOut.ret v).bare.tokOK σ.toks.length = true := by
      cases v with
      | slice xs own nz =>
        have := hv.tok σ.toks.length
        simp only [LV.tokOK, Bool.and_eq_true] at this
        simp only [LOut.bare, LV.tokOK, Own.ok, Bool.true_and]; exact this.2
      | _ => exact hv.tok _
    by_cases ho : σ'.ws.filter (· < σ.boxes.length) = []
    · have e1 : finish σ out σ' = .still (.ret v) := by
        unfold finish
        simp only [g1, LOut.val]
        rw [if_pos (hv.ref _), if_pos ⟨ho, g2.toks, hb⟩]
        split
        · rename_i xs k nz heq
          injection heq with heq
          exact absurd heq (hs _ _ _)
        · rfl
      rw [e1]
      have hnB : B ∉ σ'.ws := fun hm => by
        have : B ∈ σ'.ws.filter (· < σ.boxes.length) := List.mem_filter.2 ⟨hm, by simpa using hBl⟩
        rw [ho] at this; cases this
      refine ⟨rfl, ⟨fun w hw => .inr hw, .inr rfl, List.take_length, rfl, fun b _ => rfl, fun w hw => hw, fun w hw => by simp [CR.st] at hw⟩, ?_⟩
      exact hJ σ [] σ' σ (fun b hb => by
        by_cases e : b = B
        · rw [e]; exact (g2.same.resolve_left hnB).symm
        · exact (g2.box b hb e).symm) g3
    · have e1 : finish σ out σ' = .moved (.ret v) { boxes := σ'.boxes.take σ.boxes.length, toks := σ'.toks, ws := σ'.ws.filter (· < σ.boxes.length) ++ σ.ws } := by
        unfold finish
        simp only [g1, LOut.val]
        rw [if_pos (hv.ref _), if_neg fun h => ho h.1]; rfl
      rw [e1]
      have hold : ∀ w ∈ σ'.ws.filter (· < σ.boxes.length), w = B := fun w hw => by
        obtain ⟨h1, h2⟩ := List.mem_filter.1 hw
        rcases g2.ws w h1 with h3 | h3
        · exact h3
        · have h2 : w < σ.boxes.length := by simpa using h2
          omega
      have hbx : ∀ b, b < σ.boxes.length → (σ'.boxes.take σ.boxes.length)[b]? = σ'.boxes[b]? := fun b hb => List.getElem?_take_of_lt hb
      refine ⟨rfl, ⟨fun w hw => (List.mem_append.1 hw).elim (fun h => .inl (hold w h)) .inr, ?_, g2.toks, ?_, fun b hne => ?_, fun w hw => List.mem_append_right _ hw, fun w hw => ?_⟩, ?_⟩
      · left
        obtain ⟨w, hw2⟩ := List.exists_mem_of_ne_nil _ ho
        rw [hold w hw2] at hw2
        exact List.mem_append_left _ hw2
      · simp only [CR.st, LH.len, List.length_take]; omega
      · simp only [CR.st]
        by_cases hb : b < σ.boxes.length
        · rw [hbx b hb]; exact g2.box b hb hne
        · rw [List.getElem?_eq_none (by rw [List.length_take]; omega), List.getElem?_eq_none (by omega)]
      · simp only [CR.st, List.length_append, Nat.add_sub_cancel, List.take_left] at hw
        exact hold w hw
      · exact hJ σ [] σ' _ (fun b hb => hbx b hb) g3)
def normR (B : Nat) (r : Rec) : Rec := match r.k with
  | .move ws => if (ws.all (· == B)) = true then ⟨r.i, .move []⟩ else r
  | _ => r
def noB (B : Nat) : RK → Bool
  | .load b => b != B
  | .alloc k => k != B
  | _ => true
theorem normR_i {r : Rec} : (normR B r).i = r.i := by
  unfold normR
  split
  · split <;> rfl
  · rfl
theorem no_mem {ws : List Nat} {b : Nat} (h : (ws.all (· == B)) = true) (hb : (b != B) = true) : ws.contains b = false := by
  rw [Bool.eq_false_iff]
  intro hc
  rw [List.contains_iff_mem] at hc
  have := List.all_eq_true.1 h b hc
  simp only [beq_iff_eq] at this
  subst this
  simp at hb
theorem pairOK_norm {anc : List Nat} {x y : Rec} (hx : noB B x.k = true) (hy : noB B y.k = true) (h : pairOK anc (normR B x) (normR B y) = true) : pairOK anc x y = true := by
  obtain ⟨i, kx⟩ := x
  obtain ⟨j, ky⟩ := y
  simp only at hx hy
  cases kx <;> cases ky <;> simp only [normR] at h ⊢ <;> (try (split at h)) <;> (try (split at h)) <;> simp_all [pairOK, noB]
  all_goals first
    | (rename_i hws; exact .inr fun hm => hx (hws _ hm))
    | (rename_i hws; exact .inr fun hm => hy (hws _ hm))
    | (rename_i hws; exact fun hm => hy (hws _ hm))
    | (rename_i hws; exact fun hm => hx (hws _ hm))
theorem drawOK_norm {ops : Array Oper} {rs : List Rec} (hB : ∀ r ∈ rs, noB B r.k = true) (h : drawOK ops (rs.map (normR B)) none = true) : drawOK ops rs none = true := by
  simp only [drawOK, Bool.and_true, Bool.and_eq_true] at h ⊢
  refine ⟨h.1, ?_⟩
  have h2 := h.2
  simp only [pairsOK, List.all_eq_true, Bool.or_eq_true, List.mem_map, forall_exists_index, and_imp, forall_apply_eq_imp_iff₂] at h2 ⊢
  intro x hx y hy
  have := h2 x hx y hy
  rw [normR_i, normR_i] at this
  exact this.imp id (pairOK_norm (hB x hx) (hB y hy))
def KD (B : Nat) (kd : RK) : Prop := kd = .call ∨ ∃ ws, kd = .move ws ∧ (ws.all (· == B)) = true
section
variable {gs : Nat → Option Tmp} {P : Nat → LV → LAct → LH → List Rec → Prop} {K : List (Nat × LV) → LH → List Rec → Prop} {d : Nat} {ty : TypeId} {p : String} {af : Array Edge} {os : List Oper} {i k : Nat} {rs : List Rec}
theorem d_callw {f : Operand} {xs : Array Operand} {ats : Array TypeId} {vs : List LV} {fv v : LV} {cr : CR} (hN : Nat.blt d N = true) (hf : ov l f = some fv) (hx : OVs l xs.toList vs) (hc : EvF L pr fv vs σ cr) (ho : cr.out = .ret v) (hb : Fb B σ (cr.st σ))
    (h : ∀ kd, KD B kd → DS L pr N df gs P os (i + 1) k (rs ++ [⟨i, kd⟩]) ((d, v) :: l) (cr.st σ) K) : DS L pr N df gs P (⟨some d, .call ⟨.value f, xs, ats⟩, ty, p, af, none⟩ :: os) i k rs l σ K := by
  cases cr with
  | still r =>
    simp only [CR.out] at ho; subst ho
    exact d_callv hN hf hx hc (h _ (.inl rfl))
  | moved r σ' =>
    simp only [CR.out] at ho; subst ho
    exact d_callm hN hf hx hc (h _ (.inr ⟨_, rfl, List.all_eq_true.2 fun w hw => by simpa using hb.keep w hw⟩))
theorem drawOK_w {ops : Array Oper} {rs1 rs2 : List Rec} {kd : RK} (hk : KD B kd) (h1 : drawOK ops (rs1 ++ ⟨i, .call⟩ :: rs2) none = true) (h2 : drawOK ops (rs1.map (normR B) ++ ⟨i, .move []⟩ :: rs2.map (normR B)) none = true)
    (hB : ∀ r ∈ rs1 ++ rs2, noB B r.k = true) : drawOK ops (rs1 ++ ⟨i, kd⟩ :: rs2) none = true := by
  rcases hk with rfl | ⟨ws, rfl, hws⟩
  · exact h1
  · refine drawOK_norm (B := B) (fun r hr => ?_) ?_
    · rcases List.mem_append.1 hr with hr | hr
      · exact hB r (List.mem_append_left _ hr)
      · rcases List.mem_cons.1 hr with rfl | hr
        · rfl
        · exact hB r (List.mem_append_right _ hr)
    · rw [List.map_append, List.map_cons]
      have : normR B ⟨i, .move ws⟩ = ⟨i, .move []⟩ := by simp only [normR, hws, if_true]
      rw [this]; exact h2
end
theorem Fb.refl : Fb B σ σ := ⟨fun w hw => .inr hw, .inr rfl, List.take_length, rfl, fun b _ => rfl, fun w hw => hw, fun w hw => by simp at hw⟩
theorem App.fb {σ' : LH} {w : Own} (h : App σ w) (hb : Fb B σ σ') : App σ' w := by
  cases w with
  | none => exact h
  | exact => exact h
  | tok k =>
    simp only [App] at h ⊢
    have hk : k < σ.toks.length := (List.getElem?_eq_some_iff.1 h).1
    have e := congrArg (·[k]?) hb.toks
    simp only [List.getElem?_take_of_lt hk] at e
    rw [e]; exact h
theorem box_fb {σ' : LH} {b : Nat} {y : TypeId × List LV} (h : boxOf σ b = some y) (hb : Fb B σ σ') (hne : b ≠ B) : boxOf σ' b = some y := box_same h (hb.box b hne)
end Go.Lg
end
