/- Part 4 of the proof: Kg32. By AI agents; no person has read it. -/
import Derived.Test.YtcdofbhflocimaaGreatT3
set_option linter.unusedVariables false
set_option linter.unusedSimpArgs false
set_option linter.unusedSectionVars false
section
set_option linter.unusedSimpArgs false
set_option linter.unusedSectionVars false
namespace Go.Lg
variable [Rel]
variable {L : Look}
theorem func_sound (hL : LookOK L) {pr : Prim} (hp : PrimOK L pr) {e : Ev} (hC : SoundC L e.c) {g : FuncId} {fs cs args : List LV} {σ : LH} {cr : CR} (h : stepF L pr e (.func (.func g) fs cs) args σ = some cr) :
    Mod σ (cr.st σ) ∧ ∀ w G (avs : Array Value), WR G σ w → VRs w G (fs ++ args ++ cs) avs.toList → CallsIn Fence.wide 0 L.P g avs w (Rcall w G σ cr) ∧ (callFunc g avs).run L.P w = .ok (.enter g avs) w := by
  simp only [stepF] at h
  cases hpr : pr g (fs ++ args ++ cs) σ with
  | some cr' => rw [hpr] at h; injection h with h; subst h; exact hp _ _ _ _ hpr
  | none =>
    rw [hpr] at h
    simp only at h
    cases hfn : L.fnOf g with
    | none => rw [hfn] at h; cases h
    | some fn =>
      rw [hfn] at h
      simp only at h
      have hcall := (hL.fn g fn hfn).call
      split at h
      · rename_i cr' hcl
        injection h with h; subst h
        obtain ⟨h1, h2⟩ := closed_sound hL hC hfn hcl
        exact ⟨h1, fun w G avs hw hvs => ⟨h2 w G avs hw hvs, hcall avs w⟩⟩
      · obtain ⟨h1, h2⟩ := open_sound hL hC hfn h
        exact ⟨h1, fun w G avs hw hvs => ⟨h2 w G avs hw hvs, hcall avs w⟩⟩
theorem zip_TR {w : World} {G : Gh} : ∀ (ps : List Tmp) (xs : List LV) (vs : List Value) {tm : Tm} {ts : Array Value}, VRs w G xs vs → TR w G tm ts →
    TR w G ((ps.zip xs).foldl (fun tm (t, v) => tm.put t v) tm) ((ps.zip vs).foldl (fun ts (t, v) => ts.setIfInBounds t v) ts)
  | [], xs, vs, tm, ts, h, ht => by simpa using ht
  | p :: ps, [], vs, tm, ts, h, ht => by
    have : vs = [] := List.length_eq_zero_iff.1 (by have := h.1; simpa using this.symm)
    subst this; simpa using ht
  | p :: ps, x :: xs, [], tm, ts, h, ht => by have := h.1; simp at this
  | p :: ps, x :: xs, v :: vs, tm, ts, h, ht => by
    simp only [List.zip_cons_cons, List.foldl_cons]
    refine zip_TR ps xs vs ⟨by have := h.1; simpa using this, fun j y u hy hu => h.2 (j + 1) y u (by simpa using hy) (by simpa using hu)⟩ (ht.put (h.2 0 x v rfl rfl))
theorem loop_row {w : World} {G : Gh} {σ : LH} (hw : WR G σ w) {l B : Nat} (hl : G.mu l = some B) {r : LLoop} (hr : σ.boxes[l]? = some (.loop r)) :
    ∃ M, w.heap[B]? = some (.loop M) ∧ M.state = r.state ∧ M.pending = r.pending ∧ TR w G r.tmps M.tmps ∧ M.params.toList = r.params ∧ M.assign = r.assign ∧ M.body = r.body := by
  obtain ⟨o, ho, h⟩ := hw.box l B hl
  rw [hr] at ho; injection ho with ho; subst ho; exact h
theorem loop_set {w : World} {G : Gh} {σ : LH} (hw : WR G σ w) {l B : Nat} (hl : G.mu l = some B) {r : LLoop} (hr : σ.boxes[l]? = some (.loop r)) {M : Loop} (hM : w.heap[B]? = some (.loop M)) (st : LoopState) (pd : Option Code) :
    WR G { σ with boxes := σ.boxes.set l (.loop { r with state := st, pending := pd }), ws := l :: σ.ws } (w.putObj B (.loop { M with state := st, pending := pd })) ∧ Ext w G (w.putObj B (.loop { M with state := st, pending := pd })) G := by
  obtain ⟨M', hM', h1, h2, h3, h4⟩ := loop_row hw hl hr
  rw [hM] at hM'; injection hM' with hM'; injection hM' with hM'; subst hM'
  have hrf : ∀ k x, r.tmps.get k = some x → x.refOK (refB l σ.boxes.length) = true := hw.ref l _ hr
  refine hw.upd (o' := .loop { r with state := st, pending := pd }) hl (by simp) (fun B' h => World.putObj_heap_other h) (fun s hs => by simp [World.shape?, hM] at hs) hrf (Nt.putObj hM (by simp) (by simp)) (fun e => ?_) (l :: σ.ws)
  exact ⟨_, World.putObj_heap_same (heap_lt hM), rfl, rfl, h3.ext e, h4⟩
def jumpOf : LExit → Option (Option Code)
  | .normal => some none
  | .ret => some (some .ret)
  | .exit id => some (some (.exit id))
  | .panic _ => none
theorem round_sound (hL : LookOK L) {pr : Prim} {e : Ev} (hC : SoundC L e.c) {l : Nat} {args : List LV} {σ : LH} {cr : CR} (h : stepF L pr e (.func (.yield l) [] []) args σ = some cr) :
    Mod σ (cr.st σ) ∧ ∀ w G (avs : Array Value) B, WR G σ w → G.mu l = some B → VRs w G args avs.toList → CallWp L.P (.func (.yield B) #[] #[]) avs w (Rcall w G σ cr) := by
  simp only [stepF] at h
  split at h
  · rename_i r hr
    split at h
    · cases h
    · rename_i hlen
      split at h
      · rename_i a1 σ1 has
        split at h
        · rename_i r1 hr1
          split at h
          · rename_i hst
            split at h
            · cases h
            · rename_i x a2 σ2 hbody
              have hj : ∃ j r2, jumpOf x = some j ∧ σ2.boxes[l]? = some (.loop r2) ∧ a2.defers.isEmpty = true ∧
                  cr = finish σ (.ret (.bool j.isNone)) { σ2 with boxes := σ2.boxes.set l (.loop { r2 with state := (if j.isNone then .ready else .done), pending := j }), ws := l :: σ2.ws } := by
                split at h
                · rename_i j r2 hj hr2
                  split at h
                  · rename_i hd
                    injection h with h
                    refine ⟨j, r2, ?_, hr2, hd, h.symm⟩
                    rw [← hj]; cases x <;> rfl
                  · cases h
                · cases h
              obtain ⟨j, r2, hj, hr2, hd, hcr⟩ := hj
              clear h
              obtain ⟨hm1, n1, p1⟩ := hC _ _ _ _ _ _ _ has
              obtain ⟨hm2, n2, p2⟩ := hC _ _ _ _ _ _ _ hbody
              have hmm := ((hm1.trans (Mod.set σ1 l (.loop { r1 with state := .busy }))).trans hm2).trans (Mod.set σ2 l (.loop { r2 with state := (if j.isNone then .ready else .done), pending := j }))
              refine ⟨by rw [hcr]; exact finish_mod hmm, fun w G avs B hw hl hvs => ?_⟩
              obtain ⟨M, hM, _, _, htr, hps, hasg, hbd⟩ := loop_row hw hl hr
              have hal : args.length = avs.size := by simpa using hvs.1
              have hpl : M.params.size = r.params.length := by rw [← hps]; simp
              have hsz : (#[] ++ avs : Array Value).size = M.params.size := by simp; omega
              refine ⟨.round B M.fn ((M.params.zip (#[] ++ avs)).foldl (fun tmps (t, a) => tmps.setIfInBounds t a) M.tmps) M.assign M.body, w, by
                simp only [callSem, Deferred.ofValue, Sem.run_bind, Sem.run_pure, Result.andThen_ok, invoke]
                exact run_yield hM hsz, ⟨B, rfl⟩, ?_⟩
              have hw' : WR G { σ with ws := [] } w := WR.of_ws (σ := σ) (σ' := { σ with ws := [] }) rfl rfl hw
              have htm : TR w G ((r.params.zip (args.map LV.canonA)).foldl (fun tm (t, v) => tm.put t v) r.tmps) ((M.params.zip (#[] ++ avs)).foldl (fun tmps (t, a) => tmps.setIfInBounds t a) M.tmps) := by
                rw [← Array.foldl_toList, Array.toList_zip, hps]
                simp only [Array.empty_append]
                exact zip_TR _ _ _ hvs.canonA htr
              rw [hasg, hbd]
              refine roundIn_of_wpIn trivial (CWp.wp (p1 (Fence.wide.inRound B) (.inr ⟨B, rfl⟩) (by intro h; cases h) w G { tmps := (M.params.zip (#[] ++ avs)).foldl (fun tmps (t, a) => tmps.setIfInBounds t a) M.tmps, defers := [] } ⟨htm, trivial⟩ hw' _ ?_))
              intro act1 w1 G1 e1 ha1 hw1
              have hl1 := e1.mu l B hl
              obtain ⟨M1, hM1, hs1, hp1, _⟩ := loop_row hw1 hl1 hr1
              obtain ⟨hw2, e2⟩ := loop_set hw1 hl1 hr1 hM1 .busy M1.pending
              have hr1p : ({ r1 with state := .busy, pending := M1.pending } : LLoop) = { r1 with state := .busy } := by rw [hp1]
              rw [hr1p] at hw2
              refine ⟨_, run_beginRound hM1 (hs1.trans hst), ?_⟩
              refine CWp.wp (p2 (Fence.wide.inRound B) (.inr ⟨B, rfl⟩) (by intro h; cases h) _ G1 act1 (ha1.ext e2) hw2 _ ?_)
              have fin : ∀ {w3 : World} {G3 : Gh}, Ext (w1.putObj B (.loop { M1 with state := .busy, pending := M1.pending })) G1 w3 G3 → WR G3 σ2 w3 → ∃ v w', (Instr.endRound B j).run L.P w3 = .ok v w' ∧ Rcall w G σ cr (.returned v) w' := fun {w3 G3} e3 hw3 => by
                have hl3 := e3.mu l B hl1
                obtain ⟨M3, hM3, _⟩ := loop_row hw3 hl3 hr2
                obtain ⟨hw4, e4⟩ := loop_set hw3 hl3 hr2 hM3 (if j.isNone then .ready else .done) j
                refine ⟨_, _, run_endRound j hM3, ?_⟩
                rw [hcr]
                exact RC.ret (finish_sound hw (((e1.trans e2).trans e3).trans e4) hw4 hmm (.bool _))
              cases x with
              | normal => injection hj with hj; subst hj; exact fun act' w3 G3 e3 _ hw3 => fin e3 hw3
              | ret => injection hj with hj; subst hj; exact fun act' w3 G3 e3 _ hw3 => fin e3 hw3
              | exit id => injection hj with hj; subst hj; exact fun act' w3 G3 e3 _ hw3 => fin e3 hw3
              | panic v => cases hj
          · cases h
        · cases h
      · cases h
  · cases h
theorem stepF_sound (hL : LookOK L) {pr : Prim} (hp : PrimOK L pr) {e : Ev} (hC : SoundC L e.c) : SoundF L (stepF L pr e) := by
  intro f args σ cr h
  cases f with
  | func fn fs cs =>
    cases fn with
    | func g =>
      obtain ⟨hm, hs⟩ := func_sound hL hp hC h
      refine ⟨hm, fun w G fv avs hw hf hvs => ?_⟩
      obtain ⟨fs', cs', rfl, h1, h2⟩ := hf.func_inv
      obtain ⟨hc, hrun⟩ := hs w G (fs' ++ avs ++ cs') hw (by simpa using (h1.append hvs).append h2)
      exact ⟨_, w, call_run hrun, hc⟩
    | yield l =>
      cases fs with
      | cons a b => simp [stepF] at h
      | nil =>
        cases cs with
        | cons a b => simp [stepF] at h
        | nil =>
          obtain ⟨hm, hs⟩ := round_sound hL hC h
          refine ⟨hm, fun w G fv avs hw hf hvs => ?_⟩
          obtain ⟨B, rfl, hB⟩ := hf.yield_inv
          exact hs w G avs B hw hB hvs
    | _ => simp [stepF] at h
  | _ => simp [stepF] at h
theorem range_sound (hL : LookOK L) {e : Ev} (hS : SoundF L e.f) {rnd : Bool} {g : Operand} {ps : Array Tmp} {as b : Code} {a a' : LAct} {σ σ' : LH} {x : LExit} (h : stepC L e rnd (.rangeFunc g ps as b) a σ = some (x, a', σ')) :
    Mod σ σ' ∧ ∃ m, ∀ F, FF F → (rnd = false → F.round = none) → ∀ w G act, AR w G a act → WR G σ w → ∀ Q, Post Q w G a' σ' x → CWp L m F Q act w (.rangeFunc g ps as b) := by
  simp only [stepC] at h
  split at h
  · rename_i f fs cs hg
    split at h
    · cases h
    · rename_i hrnd
      have hrf : rnd = false := by cases rnd with | true => exact absurd rfl hrnd | false => rfl
      let σ1 : LH := { σ with boxes := σ.boxes ++ [.dfr] }
      let σ2 : LH := { σ1 with boxes := σ1.boxes ++ [.loop { tmps := a.tmps, params := ps.toList, assign := as, body := b, state := .ready, pending := none }] }
      let a1 : LAct := { a with defers := .mark σ.boxes.length :: a.defers }
      change (match e.f (.func (.func f) fs cs) [.func (.yield σ1.boxes.length) [] []] σ2 with
        | some cr =>
          match cr.out, (cr.st σ2).boxes[σ1.boxes.length]? with
          | .ret _, some (.loop r) =>
            if r.state = .busy then none else
            match r.pending with
            | none => some (LExit.normal, a1, ({ cr.st σ2 with boxes := (cr.st σ2).boxes.set σ1.boxes.length (.loop { r with state := .exhausted }), ws := σ1.boxes.length :: (cr.st σ2).ws } : LH))
            | some .ret => some (.ret, a1, { cr.st σ2 with boxes := (cr.st σ2).boxes.set σ1.boxes.length (.loop { r with state := .exhausted }), ws := σ1.boxes.length :: (cr.st σ2).ws })
            | some (.exit id) => some (.exit id, a1, { cr.st σ2 with boxes := (cr.st σ2).boxes.set σ1.boxes.length (.loop { r with state := .exhausted }), ws := σ1.boxes.length :: (cr.st σ2).ws })
            | some _ => none
          | _, _ => none
        | none => none) = some (x, a', σ') at h
      cases hcr : e.f (.func (.func f) fs cs) [.func (.yield σ1.boxes.length) [] []] σ2 with
      | none => rw [hcr] at h; cases h
      | some cr =>
        rw [hcr] at h
        simp only at h
        split at h
        · rename_i v r hout hr
          split at h
          · cases h
          · rename_i hbusy
            have hx : a' = a1 ∧ σ' = { cr.st σ2 with boxes := (cr.st σ2).boxes.set σ1.boxes.length (.loop { r with state := .exhausted }), ws := σ1.boxes.length :: (cr.st σ2).ws } ∧ jumpOf x = some r.pending := by
              split at h
              · rename_i hp; injection h with h; injection h with h1 h2; injection h2 with h2 h3; subst h1; exact ⟨h2.symm, h3.symm, by rw [hp]; rfl⟩
              · rename_i hp; injection h with h; injection h with h1 h2; injection h2 with h2 h3; subst h1; exact ⟨h2.symm, h3.symm, by rw [hp]; rfl⟩
              · rename_i hp; injection h with h; injection h with h1 h2; injection h2 with h2 h3; subst h1; exact ⟨h2.symm, h3.symm, by rw [hp]; rfl⟩
              · cases h
            clear h
            obtain ⟨ha', hσ', hj⟩ := hx
            subst ha'; subst hσ'
            obtain ⟨hm, hcall⟩ := hS _ _ _ _ hcr
            refine ⟨((Mod.snoc σ .dfr).trans (Mod.snoc σ1 _)).trans (hm.trans (Mod.set _ _ _)), 0, fun F hF hro w G act ha hw Q hQ => ?_⟩
            refine wpIn_rangeFunc fun fnid _ => ?_
            rw [hro hrf]
            let obj : Obj := .loop { state := .ready, pending := none, fn := fnid, tmps := act.tmps, params := ps, assign := as, body := b, defers := w.heap.size }
            obtain ⟨hw1, e1⟩ := hw.newBox (o := .dfr) (obj := .deferred (some [])) trivial (fun w' G' _ hget => hget) (by intro _ _ _ h; cases h)
            have href : (LObj.loop { tmps := a.tmps, params := ps.toList, assign := as, body := b, state := .ready, pending := none }).refOK (σ1.boxes.length + 1) := fun k y hy =>
              ((ha.tmps.get k y hy).refOK (N := σ.boxes.length) fun b B hb => hw.mudom hb) |> refOK_mono (by simp [σ1]; omega) y
            obtain ⟨hw2, e2⟩ := hw1.newBox (o := .loop { tmps := a.tmps, params := ps.toList, assign := as, body := b, state := .ready, pending := none }) (obj := obj) href
              (fun w' G' e' hget => ⟨_, hget, rfl, rfl, (ha.tmps.ext e1).ext0 e', rfl, rfl, rfl⟩) (by intro _ _ _ h; simp [obj] at h)
            have e12 := e1.trans e2
            have hyv : VR (pushW (pushW w (.deferred (some []))) obj) ((G.setMu σ.boxes.length w.heap.size).setMu σ1.boxes.length (pushW w (.deferred (some []))).heap.size) (.func (.yield σ1.boxes.length) [] []) (.func (.yield (w.heap.size + 1)) #[] #[]) :=
              .yield _ _ (by simp [Gh.setMu, pushW])
            have hlv : VRs (pushW (pushW w (.deferred (some []))) obj) ((G.setMu σ.boxes.length w.heap.size).setMu σ1.boxes.length (pushW w (.deferred (some []))).heap.size) [.func (.yield σ1.boxes.length) [] []] (#[Value.func (.yield (w.heap.size + 1)) #[] #[]] : Array Value).toList := ⟨rfl, fun j y u hy hu => by
              cases j with
              | zero => simp at hy hu; subst hy; subst hu; exact hyv
              | succ j => simp at hy⟩
            have hgv := (opv_sound ha.tmps hg).ext e12
            obtain ⟨fs', cs', hfv, h1, h2⟩ := hgv.func_inv
            obtain ⟨nx, w3, hrun, hnx⟩ := hcall _ _ _ _ hw2 hgv hlv
            rw [hfv] at hrun hnx
            cases nx <;> first | exact hnx.elim | skip
            · rename_i f' args'
              refine ⟨w.heap.size + 1, _, _, { target := .fn (.func f) cs', args := fs' ++ #[Value.func (.yield (w.heap.size + 1)) #[] #[]] }, pushW (pushW w (.deferred (some []))) obj, f', args', w3, run_enterLoop_outer fnid act.tmps ps as b, ?_, fun f' _ => hF.fn f', ?_, (fun h => hF.depth h), ?_⟩
              · simp only [resolve, rangeCall]
                rw [show (act.eval g) = _ from hfv]
                simp [Deferred.ofValue, Act.eval]
                rfl
              · simp only [callSem, Deferred.ofValue, Sem.run_bind, Sem.run_pure, Result.andThen_ok] at hrun
                exact hrun
              · refine (hF.calls hnx).mono fun en w4 hR => ?_
                cases en with
                | outgrown => exact hR.elim
                | panicked chain =>
                  obtain ⟨v', u, ho, _⟩ := hR
                  rw [hout] at ho; cases ho
                | returned u =>
                  obtain ⟨v', ho, G4, hw4, e4, hv4⟩ := hR
                  have hl2 : ((G.setMu σ.boxes.length w.heap.size).setMu σ1.boxes.length (pushW w (.deferred (some []))).heap.size).mu σ1.boxes.length = some (w.heap.size + 1) := by simp [Gh.setMu, pushW]
                  have hl4 := e4.mu _ _ hl2
                  obtain ⟨M, hM, hs, hp, _⟩ := loop_row hw4 hl4 hr
                  obtain ⟨hw5, e5⟩ := loop_set hw4 hl4 hr hM .exhausted M.pending
                  have hrp : ({ r with state := .exhausted, pending := M.pending } : LLoop) = { r with state := .exhausted } := by rw [hp]
                  rw [hrp] at hw5
                  have hend := run_endLoop (P := L.P) hM (by rw [hs]; exact hbusy)
                  generalize w4.putObj (w.heap.size + 1) (.loop { M with state := .exhausted }) = w5 at hw5 e5 hend
                  refine ⟨_, _, hend, ?_⟩
                  have hmark : (G.setMu σ.boxes.length w.heap.size).mu σ.boxes.length = some w.heap.size := by simp [Gh.setMu]
                  have eall := (e12.trans e4).trans e5
                  have har : AR w5 G4 a1 { act with defers := [{ target := .collected w.heap.size, args := #[] }] ++ act.defers } :=
                    ⟨ha.tmps.ext eall, ⟨w.heap.size, e4.mu _ _ (e2.mu _ _ hmark), rfl⟩, ha.defers.ext eall⟩
                  rw [hp]
                  cases x with
                  | normal => injection hj with hj; rw [← hj]; exact hQ _ _ G4 eall har hw5
                  | ret => injection hj with hj; rw [← hj]; exact wpIn_ret (hQ _ _ G4 eall har hw5)
                  | exit id => injection hj with hj; rw [← hj]; exact wpIn_exit (hQ _ _ G4 eall har hw5)
                  | panic v => cases hj
            · obtain ⟨⟨B, hB⟩, _⟩ := hnx; cases hB
        · cases h
  · cases h
theorem ev_sound (hL : LookOK L) {pr : Prim} (hp : PrimOK L pr) : ∀ n, SoundC L (ev L pr n).c ∧ SoundF L (ev L pr n).f
  | 0 => ⟨(fun rnd c a σ x a' σ' h => by cases h), (fun f args σ cr h => by cases h)⟩
  | n + 1 => by
    obtain ⟨hC, hS⟩ := ev_sound hL hp n
    refine ⟨fun rnd c a σ x a' σ' h => ?_, stepF_sound hL hp hC⟩
    have h' : stepC L (ev L pr n) rnd c a σ = some (x, a', σ') := h
    by_cases hc : ∃ g ps as b, c = .rangeFunc g ps as b
    · obtain ⟨g, ps, as, b, rfl⟩ := hc
      exact range_sound hL hS h'
    · exact ctl_sound hL hC hS (fun g ps as b e => hc ⟨g, ps, as, b, e⟩) h'
end Go.Lg
end
