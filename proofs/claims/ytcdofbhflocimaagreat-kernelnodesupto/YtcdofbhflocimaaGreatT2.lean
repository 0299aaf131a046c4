/- Part 2 of the proof: Kg14 Kg15 Kg16 Kg17 Kg18 Kg19 Kg20 Kg21 Kg22 Kg23. By AI agents; no person has read it. -/
import Derived.Test.YtcdofbhflocimaaGreatT1
set_option linter.unusedVariables false
set_option linter.unusedSimpArgs false
set_option linter.unusedSectionVars false
section
set_option linter.unusedSimpArgs false
set_option linter.unusedSectionVars false
namespace Go.Lg
variable [Rel]
variable {L : Look} {w : World} {G : Gh}
theorem flatten_get {α : Type} {c : List α} {n i j : Nat} {x : α} (hj : j < c.length) (hi : i < n) (h : c[j]? = some x) : ((List.replicate n c).flatten)[i * c.length + j]? = some x := by
  induction n generalizing i with
  | zero => omega
  | succ n ih =>
    rw [List.replicate_succ, List.flatten_cons]
    cases i with
    | zero => rw [Nat.zero_mul, Nat.zero_add, List.getElem?_append_left hj]; exact h
    | succ i =>
      rw [List.getElem?_append_right (by rw [Nat.succ_mul]; omega)]
      rw [show (i + 1) * c.length + j - c.length = i * c.length + j by rw [Nat.succ_mul]; omega]
      exact ih (by omega)
theorem flatten_len {α : Type} (c : List α) (n : Nat) : ((List.replicate n c).flatten).length = n * c.length := by
  induction n with
  | zero => simp
  | succ n ih => rw [List.replicate_succ, List.flatten_cons, List.length_append, ih, Nat.succ_mul]; omega
theorem makeSliceL_sound (hL : LookOK L) {σ σ' : LH} (hw : WR G σ w) {t : TypeId} {l c v : LV} {lu cu : Value} (hl : VR w G l lu) (hc : VR w G c cu) (h : makeSliceL L σ t l c = some (v, σ')) :
    OpOK L G w (do pure (Next.value (← Instr.makeSlice t lu cu))) v σ' := by
  unfold makeSliceL at h
  split at h
  · rename_i elem l c hu
    split at h
    · rename_i y z hy hz
      split at h
      · rename_i hcd
        obtain ⟨rfl, h0, hle, hpos, hby, hwd, hf, hr⟩ := hcd
        injection h with h; injection h with h1 h2; subst h1; subst h2
        have := hl.int_inv; subst this
        have := hc.int_inv; subst this
        obtain ⟨i, hi, hsz, hib, hzz⟩ := ty_info hL hy
        obtain ⟨zv, hzr, hzo⟩ := rZero hL hz w
        have hcs : VRs w G z.cells zv.cells.toList := ofV_cells hzo
        have hzs : zv.cells.size = y.size := by have := hcs.1; rw [wd_cells, hwd] at this; simpa using this.symm
        let row : Array Value := (Array.range (l.toNat * y.size)).map (zv.cells[· % zv.cells.size]!)
        have hrow : VRs w G (List.replicate l.toNat z.cells).flatten row.toList := by
          refine ⟨by rw [flatten_len, wd_cells, hwd]; simp [row], fun k x u hx hu => ?_⟩
          have hk : k < l.toNat * y.size := by have := (List.getElem?_eq_some_iff.1 hu).1; simpa [row] using this
          have hi : k / y.size < l.toNat := Nat.div_lt_of_lt_mul (by rw [Nat.mul_comm]; exact hk)
          have hj : k % y.size < y.size := Nat.mod_lt _ hpos
          have hdm : k / y.size * y.size + k % y.size = k := by rw [Nat.mul_comm]; exact Nat.div_add_mod k _
          have hjc : k % y.size < z.cells.length := by rw [wd_cells, hwd]; exact hj
          have e1 := flatten_get (c := z.cells) (n := l.toNat) hjc hi (List.getElem?_eq_getElem hjc)
          rw [wd_cells, hwd, hdm] at e1
          rw [e1] at hx; injection hx with hx; subst hx
          obtain ⟨u', hu', hv⟩ := hcs.get (List.getElem?_eq_getElem hjc)
          have e2 := zrow_get (n := l.toNat) hzs hj hi (by simpa using hu')
          rw [hdm] at e2
          have : row.toList[k]? = some u' := by rw [Array.getElem?_toList]; exact e2
          rw [this] at hu; injection hu with hu; subst hu; exact hv
        have href : LV.refsOK (σ.boxes.length + 1) (List.replicate l.toNat z.cells).flatten = true := by
          rw [refsOK_iff]
          intro y hy
          rw [List.mem_flatten] at hy
          obtain ⟨q, hq, hyq⟩ := hy
          rw [List.eq_of_mem_replicate hq] at hyq
          rw [← refOK_cells, refsOK_iff] at hr
          exact hr y hyq
        obtain ⟨h3, h4, h5⟩ := newBox_ok (t := elem) hw href hrow
        refine ⟨_, .slice (some ⟨w.heap.size, 0, none⟩) l.toNat l.toNat, _, _, val_run ?_, .inl rfl, h3, h4, .mslice _ _ _ _ _ (by simp [Gh.setMu])⟩
        have hwrap : IntKind.i64.wrap l = l := by
          have e1 : l % (2 ^ 64 : Int) = l := Int.emod_eq_of_lt h0 (by omega)
          have e2 : ¬ ((2 ^ 63 : Int) ≤ l) := by omega
          simp [IntKind.wrap, IntKind.bits, IntKind.signed]
          omega
        have hbig : ¬ (i.bytes * l > 2 ^ 48) := by
          have : (i.bytes : Int) * l ≤ 16384 * 1073741824 := Int.mul_le_mul (by omega) hle h0 (by omega)
          omega
        have htl : (decide (l < 0) || decide (i.bytes * l > 2 ^ 48)) = false := by simp; omega
        simp only [Instr.makeSlice, Sem.run_bind, rUnd hL hu, Result.andThen_ok, asInt, asIntOf, Sem.run_pure, hi, hwrap]
        have hcond : ¬ ((decide (l < 0) || decide (i.bytes * l > 2 ^ 48) || decide (l < 0) || decide (l > l)) = true) := by simp; omega
        rw [if_neg (by simpa using hcond)]
        simp only [Sem.run_bind, Sem.run_pure, Result.andThen_ok, askRoom_run, hsz]
        by_cases hz0 : l.toNat * y.size = 0
        · rw [if_pos hz0]
          simp only [Sem.run_bind, Sem.run_pure, Result.andThen_ok]
          have r1 : (Array.range (l.toNat * y.size)).map ((#[] : Array Value)[· % (#[] : Array Value).size]!) = row := by simp only [row, hz0, range0]
          rw [r1]; rfl
        · rw [if_neg hz0]
          simp only [Sem.run_bind, Sem.run_pure, Result.andThen_ok, hzr]
          rfl
      · cases h
    · cases h
  · cases h
theorem fill_sz {place : Nat → Option (Nat × Nat)} : ∀ {ps : List (Nat × Value)} {c c' : Array Value}, Instr.fill place c ps = some c' → c'.size = c.size
  | [], c, c', h => by simp only [Instr.fill] at h; injection h with h; rw [h]
  | (i, v) :: ps, c, c', h => by
    simp only [Instr.fill] at h
    split at h
    · cases h
    · rename_i off size hp
      split at h
      · cases h
      · rw [fill_sz h]
        have key : ∀ (l : List (Value × Nat)) (cs : Array Value), (l.foldl (fun cs x => cs.setIfInBounds (off + x.2) x.1) cs).size = cs.size := fun l => by
          induction l with
          | nil => intro cs; rfl
          | cons x l ih => intro cs; rw [List.foldl_cons, ih]; simp
        rw [← Array.foldl_toList]
        exact key _ _
theorem flat_uni {s : Nat} (hs : 0 < s) : ∀ xs : List LV, (∀ x ∈ xs, x.wd = s) → (xs.map LV.cells).flatten.length = xs.length * s ∧ ∀ k y, (xs.map LV.cells).flatten[k]? = some y → ∃ x, xs[k / s]? = some x ∧ x.cells[k % s]? = some y
  | [], _ => ⟨by simp, fun k y h => by simp at h⟩
  | x :: xs, hx => by
    obtain ⟨h1, h2⟩ := flat_uni hs xs fun y hy => hx y (List.mem_cons_of_mem _ hy)
    have hl : x.cells.length = s := by rw [wd_cells]; exact hx x List.mem_cons_self
    refine ⟨by rw [List.map_cons, List.flatten_cons, List.length_append, h1, hl, List.length_cons, Nat.succ_mul]; omega, fun k y h => ?_⟩
    rw [List.map_cons, List.flatten_cons] at h
    rcases Nat.lt_or_ge k s with hk | hk
    · rw [List.getElem?_append_left (by omega)] at h
      exact ⟨x, by rw [Nat.div_eq_of_lt hk]; rfl, by rw [Nat.mod_eq_of_lt hk]; exact h⟩
    · rw [List.getElem?_append_right (by omega), hl] at h
      obtain ⟨z, hz1, hz2⟩ := h2 _ _ h
      have e1 : k / s = (k - s) / s + 1 := by rw [← Nat.add_div_right _ hs]; congr 1; omega
      have e2 : k % s = (k - s) % s := by rw [← Nat.add_mod_right (k - s) s]; congr 1; omega
      exact ⟨z, by rw [e1, List.getElem?_cons_succ]; exact hz1, by rw [e2]; exact hz2⟩
theorem buildMsL_sound (hL : LookOK L) {σ σ' : LH} (hw : WR G σ w) {t : TypeId} {n : Nat} {ps : List (Nat × LV)} {ps' : List (Nat × Value)} {v : LV} (hp : PartsR w G ps ps') (h : buildMsL L σ t n ps = some (v, σ')) :
    OpOK L G w (do pure (Next.value (← Instr.buildSlice t n ps'.toArray))) v σ' := by
  unfold buildMsL at h
  split at h
  · rename_i elem hu
    split at h
    · rename_i z s hz hs
      split at h
      · rename_i hc
        obtain ⟨hwd, hf, hpos, hle⟩ := hc
        split at h
        · rename_i xs he
          split at h
          · rename_i href
            injection h with h; injection h with e1 e2; subst e1; subst e2
            obtain ⟨zv, hzr, hzo⟩ := rZero hL hz w
            have hzv : VR w G z zv := ofV_sound hzo
            have hcf := canon_flat (x := z)
            obtain ⟨c', hc', hlen, hall, hseq⟩ := elemsL_sound hpos hp (fun x hx => by
              rw [List.eq_of_mem_replicate hx]; exact ⟨hcf.2.trans hwd, hcf.1.trans hf⟩) (c := (Array.range (n * s)).map (zv.cells[· % zv.cells.size]!)) (by simp) (zrow_seq hzv hf hwd) he
            rw [List.length_replicate] at hlen
            subst hlen
            obtain ⟨f1, f2⟩ := flat_uni hpos xs fun x hx => (hall x hx).1
            have hsz : c'.size = xs.length * s := by rw [fill_sz hc']; simp
            have hrow : VRs w G (xs.map LV.cells).flatten c'.toList := by
              refine ⟨by rw [f1]; simp [hsz], fun k x u hx hu => ?_⟩
              obtain ⟨y, hy1, hy2⟩ := f2 k x hx
              obtain ⟨u', hu', hv⟩ := hseq _ _ _ _ hy1 hy2
              have hdm : k / s * s + k % s = k := by rw [Nat.mul_comm]; exact Nat.div_add_mod k _
              rw [hdm] at hu'
              rw [Array.getElem?_toList] at hu
              rw [hu'] at hu; injection hu with hu; subst hu; exact hv
            obtain ⟨h3, h4, h5⟩ := newBox_ok (t := elem) hw href hrow
            refine ⟨_, .slice (some ⟨w.heap.size, 0, none⟩) xs.length xs.length, _, _, val_run ?_, .inl rfl, h3, h4, .mslice _ _ _ _ _ (by simp [Gh.setMu])⟩
            have h16 : ¬ xs.length * s > 2 ^ 24 := by omega
            simp only [Instr.buildSlice, Sem.run_bind, rUnd hL hu, Result.andThen_ok, rSize hL hs]
            rw [if_neg h16]
            by_cases h0 : xs.length * s = 0
            · rw [if_pos h0]
              have hf0 : Instr.fill (fun i => some (i * s, s)) (#[] : Array Value) ps' = some c' := by rw [h0, range0] at hc'; exact hc'
              have hr0 : (Array.range (xs.length * s)).map ((#[] : Array Value)[· % (#[] : Array Value).size]!) = #[] := by rw [h0]; exact range0 _
              simp only [Sem.run_bind, Sem.run_pure, Result.andThen_ok, List.toList_toArray, hr0, hf0]
              rfl
            · rw [if_neg h0]
              simp only [Sem.run_bind, hzr, Result.andThen_ok, Sem.run_pure, List.toList_toArray, hc']
              simp [newRow, newObj, Sem.run, pushW]
          · cases h
        · cases h
      · cases h
    · cases h
  · cases h
end Go.Lg
end
section
set_option linter.unusedSimpArgs false
set_option linter.unusedSectionVars false
namespace Go.Lg
variable [Rel]
variable {L : Look} {w : World} {G : Gh}
structure Mod (σ σ' : LH) : Prop where
  len : σ.boxes.length ≤ σ'.boxes.length
  tlen : σ.toks.length ≤ σ'.toks.length
  ws : ∃ l, σ'.ws = l ++ σ.ws ∧ ∀ b, b < σ.boxes.length → b ∉ l → σ'.boxes[b]? = σ.boxes[b]?
theorem Mod.refl (σ : LH) : Mod σ σ := ⟨Nat.le_refl _, Nat.le_refl _, [], rfl, fun _ _ _ => rfl⟩
theorem Mod.trans {σ σ' σ'' : LH} (h : Mod σ σ') (h' : Mod σ' σ'') : Mod σ σ'' := by
  obtain ⟨l, h1, h2⟩ := h.ws
  obtain ⟨l', h3, h4⟩ := h'.ws
  refine ⟨Nat.le_trans h.len h'.len, Nat.le_trans h.tlen h'.tlen, l' ++ l, by rw [h3, h1, List.append_assoc], fun b hb hn => ?_⟩
  rw [List.mem_append] at hn
  rw [h4 b (Nat.lt_of_lt_of_le hb h.len) (fun h => hn (.inl h)), h2 b hb (fun h => hn (.inr h))]
theorem Mod.snoc (σ : LH) (o : LObj) : Mod σ { σ with boxes := σ.boxes ++ [o] } :=
  ⟨by simp, Nat.le_refl _, [], rfl, fun b hb _ => by simp [List.getElem?_append_left hb]⟩
theorem Mod.set (σ : LH) (b : Nat) (o : LObj) : Mod σ { σ with boxes := σ.boxes.set b o, ws := b :: σ.ws } :=
  ⟨by simp, Nat.le_refl _, [b], rfl, fun b' _ hn => by simp at hn; simp [List.getElem?_set, Ne.symm hn]⟩
def DefR (w : World) (G : Gh) : LDef → Deferred → Prop
  | .mark d, D => ∃ B, G.mu d = some B ∧ D = { target := .collected B, args := #[] }
  | .fn g args, D => ∃ as cap, D = { target := .fn (.func g) cap, args := as } ∧ VRs w G args (as ++ cap).toList
def DefsR (w : World) (G : Gh) : List LDef → List Deferred → Prop
  | [], [] => True
  | d :: ds, D :: Ds => DefR w G d D ∧ DefsR w G ds Ds
  | _, _ => False
theorem DefR.ext0 {w' : World} {G' : Gh} (e : Ext0 w G w' G') {d : LDef} {D : Deferred} (h : DefR w G d D) : DefR w' G' d D := by
  cases d with
  | mark d => obtain ⟨B, h1, h2⟩ := h; exact ⟨B, e.mu _ _ h1, h2⟩
  | fn g args => obtain ⟨as, cap, h1, h2⟩ := h; exact ⟨as, cap, h1, h2.ext0 e⟩
theorem DefsR.ext0 {w' : World} {G' : Gh} (e : Ext0 w G w' G') : ∀ {ds : List LDef} {Ds : List Deferred}, DefsR w G ds Ds → DefsR w' G' ds Ds
  | [], [], _ => trivial
  | [], _ :: _, h => h
  | _ :: _, [], h => h
  | d :: ds, D :: Ds, h => ⟨h.1.ext0 e, DefsR.ext0 e h.2⟩
theorem DefR.ext {w' : World} {G' : Gh} (e : Ext w G w' G') {d : LDef} {D : Deferred} (h : DefR w G d D) : DefR w' G' d D := h.ext0 e.toExt0
theorem DefsR.ext {w' : World} {G' : Gh} (e : Ext w G w' G') {ds : List LDef} {Ds : List Deferred} (h : DefsR w G ds Ds) : DefsR w' G' ds Ds := h.ext0 e.toExt0
structure AR (w : World) (G : Gh) (a : LAct) (act : Act) : Prop where
  tmps : TR w G a.tmps act.tmps
  defers : DefsR w G a.defers act.defers
theorem AR.ext0 {w' : World} {G' : Gh} (e : Ext0 w G w' G') {a : LAct} {act : Act} (h : AR w G a act) : AR w' G' a act := ⟨h.tmps.ext0 e, h.defers.ext0 e⟩
theorem AR.ext {w' : World} {G' : Gh} (e : Ext w G w' G') {a : LAct} {act : Act} (h : AR w G a act) : AR w' G' a act := ⟨h.tmps.ext e, h.defers.ext e⟩
theorem tree_get_set : ∀ (t : Tree) (k j : Nat) (x y : LV), (t.set k x).get j = some y → (j = k ∧ y = x) ∨ (j ≠ k ∧ t.get j = some y) := by
  intro t
  induction t with
  | nil => intro k j x y h; exact (by cases h)
  | node l v r ihl ihr =>
    intro k j x y h
    have hget : ∀ (l : Tree) (v : LV) (r : Tree) (j : Nat), (Tree.node l v r).get j = if j = 0 then some v else if j % 2 = 1 then l.get (j / 2) else r.get (j / 2 - 1) := by
      intro l v r j
      show @Bool.rec (fun _ => Option LV) (@Bool.rec (fun _ => Option LV) (r.get (Nat.sub (Nat.div j 2) 1)) (l.get (Nat.div j 2)) (Nat.beq (Nat.mod j 2) 1)) (some v) (Nat.beq j 0) = _
      by_cases h0 : j = 0
      · subst h0; rfl
      · have e0 : Nat.beq j 0 = false := by cases j with | zero => exact absurd rfl h0 | succ n => rfl
        rw [e0, if_neg h0]
        by_cases h1 : j % 2 = 1
        · have e1 : Nat.beq (Nat.mod j 2) 1 = true := by show Nat.beq (j % 2) 1 = true; rw [h1]; rfl
          rw [e1, if_pos h1]; rfl
        · have h2 : j % 2 = 0 := by omega
          have e1 : Nat.beq (Nat.mod j 2) 1 = false := by show Nat.beq (j % 2) 1 = false; rw [h2]; rfl
          rw [e1, if_neg h1]; rfl
    have hset : (Tree.node l v r).set k x = if k = 0 then .node l x r else if k % 2 = 1 then .node (l.set (k / 2) x) v r else .node l v (r.set (k / 2 - 1) x) := by
      show @Bool.rec (fun _ => Tree) (@Bool.rec (fun _ => Tree) (Tree.node l v (r.set (Nat.sub (Nat.div k 2) 1) x)) (Tree.node (l.set (Nat.div k 2) x) v r) (Nat.beq (Nat.mod k 2) 1)) (Tree.node l x r) (Nat.beq k 0) = _
      by_cases h0 : k = 0
      · subst h0; rfl
      · have e0 : Nat.beq k 0 = false := by cases k with | zero => exact absurd rfl h0 | succ n => rfl
        rw [e0, if_neg h0]
        by_cases h1 : k % 2 = 1
        · have e1 : Nat.beq (Nat.mod k 2) 1 = true := by show Nat.beq (k % 2) 1 = true; rw [h1]; rfl
          rw [e1, if_pos h1]; rfl
        · have h2 : k % 2 = 0 := by omega
          have e1 : Nat.beq (Nat.mod k 2) 1 = false := by show Nat.beq (k % 2) 1 = false; rw [h2]; rfl
          rw [e1, if_neg h1]; rfl
    rw [hset] at h
    by_cases hk0 : k = 0
    · rw [if_pos hk0, hget] at h
      by_cases hj0 : j = 0
      · rw [if_pos hj0] at h; injection h with h; exact .inl ⟨by omega, h.symm⟩
      · rw [if_neg hj0] at h; exact .inr ⟨by omega, by rw [hget, if_neg hj0]; exact h⟩
    · rw [if_neg hk0] at h
      by_cases hk1 : k % 2 = 1
      · rw [if_pos hk1, hget] at h
        by_cases hj0 : j = 0
        · rw [if_pos hj0] at h; exact .inr ⟨by omega, by rw [hget, if_pos hj0]; exact h⟩
        · rw [if_neg hj0] at h
          by_cases hj1 : j % 2 = 1
          · rw [if_pos hj1] at h
            rcases ihl _ _ _ _ h with ⟨h1, h2⟩ | ⟨h1, h2⟩
            · exact .inl ⟨by omega, h2⟩
            · exact .inr ⟨fun e => h1 (by rw [e]), by rw [hget, if_neg hj0, if_pos hj1]; exact h2⟩
          · rw [if_neg hj1] at h
            exact .inr ⟨fun e => hj1 (e ▸ hk1), by rw [hget, if_neg hj0, if_neg hj1]; exact h⟩
      · rw [if_neg hk1, hget] at h
        by_cases hj0 : j = 0
        · rw [if_pos hj0] at h; exact .inr ⟨by omega, by rw [hget, if_pos hj0]; exact h⟩
        · rw [if_neg hj0] at h
          by_cases hj1 : j % 2 = 1
          · rw [if_pos hj1] at h
            exact .inr ⟨fun e => hk1 (e ▸ hj1), by rw [hget, if_neg hj0, if_pos hj1]; exact h⟩
          · rw [if_neg hj1] at h
            rcases ihr _ _ _ _ h with ⟨h1, h2⟩ | ⟨h1, h2⟩
            · exact .inl ⟨by omega, h2⟩
            · exact .inr ⟨fun e => h1 (by rw [e]), by rw [hget, if_neg hj0, if_neg hj1]; exact h2⟩
theorem TR.put {tm : Tm} {ts : Array Value} (h : TR w G tm ts) {k : Nat} {x : LV} {v : Value} (hv : VR w G x v) : TR w G (tm.put k x) (ts.setIfInBounds k v) := by
  unfold Tm.put
  by_cases hk : k + 1 ≤ tm.n
  · have e : Nat.ble (k + 1) tm.n = true := by rw [Nat.ble_eq]; exact hk
    rw [e]
    refine ⟨by simp [h.size], fun j y hj => ?_⟩
    have hlt : k < ts.size := by rw [← h.size]; omega
    rcases tree_get_set _ _ _ _ _ hj with ⟨rfl, rfl⟩ | ⟨hne, hj'⟩
    · simp [Array.getD_eq_getD_getElem?, hlt]; exact hv
    · have := h.get j y hj'
      simpa [Array.getD_eq_getD_getElem?, Array.getElem?_setIfInBounds, Ne.symm hne] using this
  · have e : Nat.ble (k + 1) tm.n = false := by
      cases hb : Nat.ble (k + 1) tm.n with
      | true => exact absurd (Nat.le_of_ble_eq_true hb) hk
      | false => rfl
    rw [e]
    have : ts.setIfInBounds k v = ts := by
      have hge : ts.size ≤ k := by rw [← h.size]; omega
      simp [Array.setIfInBounds, Nat.not_lt.2 hge]
    rw [this]; exact h
theorem AR.put {a : LAct} {act : Act} (h : AR w G a act) {dst : Option Tmp} {x : LV} {v : Value} (hv : VR w G x v) : AR w G (a.put dst x) (act.put dst v) := by
  cases dst with
  | none => exact ⟨h.tmps, h.defers⟩
  | some d => exact ⟨h.tmps.put hv, h.defers⟩
theorem AR.undef {a : LAct} {act : Act} (h : AR w G a act) {dst : Option Tmp} : AR w G (a.put dst (.tuple [])) (act.put dst undef) := h.put (.tuple [] #[] rfl (by simp))
end Go.Lg
end
section
set_option linter.unusedSimpArgs false
set_option linter.unusedSectionVars false
namespace Go.Lg
variable [Rel]
variable {L : Look} {w : World} {G : Gh}
def callSem (fv : Value) (avs : Array Value) : Sem Next := do let d ← Deferred.ofValue fv avs; invoke d.target d.args
def Rcall (w : World) (G : Gh) (σ : LH) (cr : CR) : Ending → World → Prop
  | .returned u, w' => ∃ v, cr.out = .ret v ∧ ∃ G', WR G' (cr.st σ) w' ∧ Ext w G w' G' ∧ VR w' G' v u
  | .panicked chain, w' => ∃ v u, cr.out = .pan v ∧ chain = [{ v := u, recovered := false }] ∧ ∃ G', WR G' (cr.st σ) w' ∧ Ext w G w' G' ∧ VR w' G' v u
  | .outgrown, _ => False
def CallWp (P : Program) (fv : Value) (avs : Array Value) (w : World) (R : Ending → World → Prop) : Prop :=
  ∃ nx w1, (callSem fv avs).run P w = .ok nx w1 ∧ match nx with
    | .enter g args => CallsIn Fence.wide 0 P g args w1 R
    | .round l f tmps as body => (∃ B, fv = .func (.yield B) #[] #[]) ∧ RoundIn Fence.wide 0 P l f tmps as body w1 R
    | _ => False
def SoundF (L : Look) (ef : LV → List LV → LH → Option CR) : Prop :=
  ∀ f args σ cr, ef f args σ = some cr → Mod σ (cr.st σ) ∧ ∀ w G fv (avs : Array Value), WR G σ w → VR w G f fv → VRs w G args avs.toList → CallWp L.P fv avs w (Rcall w G σ cr)
def FF (F : Fence) : Prop := F = Fence.wide ∨ ∃ l, F = Fence.wide.inRound l
theorem FF.fn {F : Fence} (h : FF F) (f : FuncId) : F.fn f := by rcases h with rfl | ⟨l, rfl⟩ <;> trivial
theorem FF.depth {F : Fence} (h : FF F) : F.depth.isSome = true → 1 ≤ 0 := by rcases h with rfl | ⟨l, rfl⟩ <;> intro h <;> cases h
theorem FF.calls {F : Fence} (h : FF F) {n : Nat} {P : Program} {f : FuncId} {args : Array Value} {w : World} {R : Ending → World → Prop} (hc : CallsIn Fence.wide n P f args w R) : CallsIn F n P f args w R := by
  rcases h with rfl | ⟨l, rfl⟩
  · exact hc
  · exact hc
theorem FF.rounds {F : Fence} (h : FF F) {n l : Nat} {P : Program} {f : FuncId} {tmps : Array Value} {as body : Code} {w : World} {R : Ending → World → Prop} (hc : RoundIn Fence.wide n P l f tmps as body w R) : RoundIn F n P l f tmps as body w R := by
  rcases h with rfl | ⟨l, rfl⟩
  · exact hc
  · exact hc
def After (σ : LH) (w : World) (G : Gh) (act : Act) (dst : Option Tmp) (next : Act → World → Prop) (Q : Exit → Act → World → Prop) : OpR → Prop
  | .val v σ' => ∀ u w' G', Ext w G w' G' → WR G' σ' w' → VR w' G' v u → next (act.put dst u) w'
  | .pan v σ' => ∀ u w' G', Ext w G w' G' → WR G' σ' w' → VR w' G' v u → Q (.panic [{ v := u, recovered := false }]) act w'
  | .dfr d σ' => ∀ D, DefR w G d D → next ({ act with defers := D :: act.defers }.put dst undef) w
def OpR.st : OpR → LH
  | .val _ σ => σ
  | .pan _ σ => σ
  | .dfr _ σ => σ
theorem wp_of_ok {F : Fence} (hF : FF F) {o : Oper} {act : Act} {σ σ' : LH} {v : LV} {next : Act → World → Prop} {Q : Exit → Act → World → Prop} (hsem : o.semAt F.round act.eval = execOp act.eval o)
    (h : OpOK L G w (execOp act.eval o) v σ') (ha : After σ w G act o.dst next Q (.val v σ')) : o.wpIn F 0 L.P act w next Q := by
  obtain ⟨x, u, w', G', h1, h2, h3, h4, h5⟩ := h
  refine ⟨fun f _ => hF.fn f, ?_⟩
  rw [hsem, h1]
  have := ha u w' G' h4 h3 h5
  rcases h2 with rfl | ⟨rfl, rfl⟩
  · exact this
  · exact this
theorem opStep_wp {ef : LV → List LV → LH → Option CR} (hL : LookOK L) (hS : SoundF L ef) {F : Fence} (hF : FF F) {rnd : Bool} (hr : rnd = false → F.round = none) {tm : Tm} {o : Oper} {σ : LH} {r : OpR} {act : Act}
    (ht : TR w G tm act.tmps) (hw : WR G σ w) (h : opStep L (callSt ef) rnd tm o σ = some r) :
    Mod σ r.st ∧ ∀ next Q, After σ w G act o.dst next Q r → o.wpIn F 0 L.P act w next Q := by
  obtain ⟨dst, op, type, pos, after, guard⟩ := o
  have plain : ∀ {op : Op}, (∀ c, op ≠ .defer c) → Oper.semAt F.round act.eval ⟨dst, op, type, pos, after, guard⟩ = execOp act.eval ⟨dst, op, type, pos, after, guard⟩ := fun hn => Oper.semAt_eq _ _ _ hn
  have pureCase : ∀ {op : Op} {r : OpR}, (∀ c, op ≠ .defer c) → (match pureOp L tm ⟨dst, op, type, pos, after, guard⟩ with | some v => some (OpR.val v σ) | none => none) = some r →
      Mod σ r.st ∧ ∀ next Q, After σ w G act dst next Q r → Oper.wpIn F 0 L.P ⟨dst, op, type, pos, after, guard⟩ act w next Q := fun {op r} hn h => by
    split at h
    · rename_i v hv
      injection h with h; subst h
      exact ⟨Mod.refl _, fun next Q ha => wp_of_ok hF (plain hn) (pureOp_sound hL hw ht hv) ha⟩
    · cases h
  cases op with
  | alloc t =>
    simp only [opStep] at h
    split at h
    · rename_i z hz
      split at h
      · rename_i hc
        injection h with h; subst h
        exact ⟨Mod.snoc _ _, fun next Q ha => wp_of_ok hF (plain (by simp)) (allocL_sound hL hw hz hc.2) ha⟩
      · cases h
    · cases h
  | box t x =>
    simp only [opStep] at h
    split at h
    · rename_i v s hv hs
      split at h
      · rename_i hc
        injection h with h; subst h
        exact ⟨Mod.snoc _ _, fun next Q ha => wp_of_ok hF (plain (by simp)) (boxL_sound hw (opv_sound ht hv) hc.2.1 hc.2.2) ha⟩
      · cases h
    · cases h
  | load t x =>
    simp only [opStep] at h
    split at h
    · rename_i v hv
      split at h
      · rename_i r' hr'
        injection h with h; subst h
        exact ⟨Mod.refl _, fun next Q ha => wp_of_ok hF (plain (by simp)) (OpOK.pure hw (loadL_sound hL hw (opv_sound ht hv) hr')) ha⟩
      · cases h
    · cases h
  | store t x y =>
    simp only [opStep] at h
    split at h
    · rename_i vx vy hx hy
      split at h
      · rename_i σ' hσ
        injection h with h; subst h
        refine ⟨?_, fun next Q ha => wp_of_ok hF (plain (by simp)) (storeL_sound hL hw (opv_sound ht hx) (opv_sound ht hy) hσ) ha⟩
        unfold storeL at hσ
        split at hσ
        · split at hσ
          · split at hσ
            · injection hσ with hσ; subst hσ; exact Mod.set _ _ _
            · cases hσ
          · cases hσ
        · cases hσ
      · cases h
    · cases h
  | makeSlice t x y =>
    simp only [opStep] at h
    split at h
    · rename_i vx vy hx hy
      split at h
      · rename_i v σ' hσ
        injection h with h; subst h
        refine ⟨?_, fun next Q ha => wp_of_ok hF (plain (by simp)) (makeSliceL_sound hL hw (opv_sound ht hx) (opv_sound ht hy) hσ) ha⟩
        unfold makeSliceL at hσ
        split at hσ
        · split at hσ
          · split at hσ
            · injection hσ with hσ; injection hσ with h1 h2; subst h2; exact Mod.snoc _ _
            · cases hσ
          · cases hσ
        · cases hσ
      · cases h
    · cases h
  | buildSlice t n ps =>
    simp only [opStep] at h
    split at h
    · split at h
      · rename_i vs hps
        split at h
        · rename_i v σ' hσ
          injection h with h; subst h
          have hsnd := buildMsL_sound hL hw (partsL_sound ht hps) hσ
          rw [← parts_array] at hsnd
          refine ⟨?_, fun next Q ha => wp_of_ok hF (plain (by simp)) hsnd ha⟩
          unfold buildMsL at hσ
          split at hσ
          · split at hσ
            · split at hσ
              · split at hσ
                · split at hσ
                  · injection hσ with hσ; injection hσ with h1 h2; subst h2; exact Mod.snoc _ _
                  · cases hσ
                · cases hσ
              · cases hσ
            · cases hσ
          · cases hσ
        · cases h
      · cases h
    · exact pureCase (by simp) h
  | panic x =>
    simp only [opStep] at h
    split at h
    · rename_i t v hv
      injection h with h; subst h
      refine ⟨Mod.refl _, fun next Q ha => ⟨fun f _ => hF.fn f, ?_⟩⟩
      rw [plain (by simp)]
      obtain ⟨u, hu, hvu⟩ := (opv_sound ht hv).iface_inv
      have hrun : (execOp act.eval { dst, op := .panic x, type, pos, after, guard }).run L.P w = .halt (.panic (.iface t u)) w := by
        simp [execOp, hu, Instr.panic, goPanic, Sem.run, Result.andThen]
      rw [hrun]
      exact ha _ w G (Ext.refl _ _) hw (hu ▸ opv_sound ht hv)
    · cases h
  | defer c =>
    obtain ⟨callee, args, ats⟩ := c
    cases callee with
    | value f =>
      simp only [opStep] at h
      split at h
      · rename_i g fs cs l hf hl
        split at h
        · cases h
        · rename_i hrn
          injection h with h; subst h
          refine ⟨Mod.refl _, fun next Q ha => ⟨fun f _ => hF.fn f, ?_⟩⟩
          have hro : F.round = none := hr (by cases rnd with | true => exact absurd rfl hrn | false => rfl)
          obtain ⟨fs', cs', hu, h1, h2⟩ := (opv_sound ht hf).func_inv
          have hrun : (execOp act.eval { dst, op := .defer { callee := .value f, args, argTypes := ats }, type, pos, after, guard }).run L.P w = .ok (.defer { target := .fn (.func g) cs', args := fs' ++ args.map act.eval }) w := by
            simp [execOp, resolve, hu, Deferred.ofValue]
          rw [hro, Oper.semAt_none, hrun]
          refine ha _ ⟨_, _, rfl, ?_⟩
          have h3 := opvs_sound ht hl
          have := (h1.append h3).append h2
          simpa using this
      · cases h
    | builtin b => simp [opStep, pureOp] at h
    | invoke r m => simp [opStep, pureOp] at h
  | call c =>
    obtain ⟨callee, args, ats⟩ := c
    cases callee with
    | value f =>
      simp only [opStep] at h
      split at h
      · rename_i vf l hf hl
        cases hcr : ef vf l σ with
        | none => simp [callSt, hcr] at h
        | some cr =>
          simp only [callSt, hcr] at h
          obtain ⟨hmod, hcall⟩ := hS _ _ _ _ hcr
          have h3 := opvs_sound ht hl
          rw [← Array.toList_map] at h3
          have hst : r.st = cr.st σ := by
            split at h
            · rename_i v σ' heq; injection heq with heq; injection heq with h1 h2; injection h with h; subst h; exact h2.symm
            · rename_i v σ' heq; injection heq with heq; injection heq with h1 h2; injection h with h; subst h; exact h2.symm
            · cases h
          refine ⟨hst ▸ hmod, fun next Q ha => ⟨fun f _ => hF.fn f, ?_⟩⟩
          rw [plain (by simp)]
          obtain ⟨nx, w1, hrun, hnx⟩ := hcall w G (act.eval f) (args.map act.eval) hw (opv_sound ht hf) h3
          have hrun' : (execOp act.eval { dst, op := .call { callee := .value f, args, argTypes := ats }, type, pos, after, guard }).run L.P w = .ok nx w1 := by
            rw [← hrun]; rfl
          rw [hrun']
          have hpost : ∀ e w', Rcall w G σ cr e w' → (match e with
              | .returned v => next (act.put dst v) w'
              | .panicked chain => Q (.panic chain) act w'
              | .outgrown => LetsOut Q) := fun e w' hR => by
            cases e with
            | returned u =>
              obtain ⟨v, hv, G', h1, h2, h3⟩ := hR
              rw [hv] at h; simp only at h; injection h with h; subst h
              exact ha u w' G' h2 h1 h3
            | panicked chain =>
              obtain ⟨v, u, hv, rfl, G', h1, h2, h3⟩ := hR
              rw [hv] at h; simp only at h; injection h with h; subst h
              exact ha u w' G' h2 h1 h3
            | outgrown => exact hR.elim
          cases nx <;> first | exact hnx.elim | skip
          · rename_i g as
            exact ⟨hF.depth, (hF.calls hnx).mono fun e w' hR => by have := hpost e w' hR; cases e <;> exact this⟩
          · rename_i l' f' tmps' as' body'
            exact ⟨hF.depth, (hF.rounds hnx.2).mono fun e w' hR => by have := hpost e w' hR; cases e <;> exact this⟩
      · cases h
    | builtin b =>
      by_cases hb : b = .append
      · subst hb
        simp only [opStep] at h
        split at h
        · rename_i s x st hl hst
          split at h
          · rename_i v σ' hσ
            injection h with h; subst h
            have h3 := opvs_sound ht hl
            obtain ⟨su, hsu, hs⟩ := h3.get (j := 0) rfl
            obtain ⟨xu, hxu, hx⟩ := h3.get (j := 1) rfl
            have hl3 := h3.1
            have hargs : args.map act.eval = #[su, xu] := by
              rw [args_array]
              match hh : args.toList.map act.eval, hl3, hsu, hxu with
              | [a', b'], _, hsu, hxu => simp at hsu hxu; subst hsu; subst hxu; rfl
            obtain ⟨w', G', u, g1, g2, g3, g4⟩ := appendL_sound hL (ty := type) hw hs hx hst hσ
            refine ⟨?_, fun next Q ha => wp_of_ok hF (plain (by simp)) ⟨.value u, u, w', G', ?_, .inl rfl, g2, g3, g4⟩ ha⟩
            · unfold appendL at hσ
              split at hσ
              · split at hσ
                · split at hσ
                  · split at hσ
                    · injection hσ with hσ; injection hσ with h1 h2; subst h2; exact Mod.refl _
                    · split at hσ
                      · cases hσ
                      · injection hσ with hσ; injection hσ with h1 h2; subst h2; exact ⟨Nat.le_refl _, by show σ.toks.length ≤ (σ.toks ++ [true]).length; simp, [], rfl, fun _ _ _ => rfl⟩
                      · split at hσ
                        · injection hσ with hσ; injection hσ with h1 h2; subst h2; exact ⟨Nat.le_refl _, by show σ.toks.length ≤ (σ.toks.set _ false ++ [true]).length; simp, [], rfl, fun _ _ _ => rfl⟩
                        · cases hσ
                  · cases hσ
                · cases hσ
              · cases hσ
            · simp [execOp, resolve, invoke, builtin, hargs, g1]
          · cases h
        · cases h
      · refine pureCase (by simp) ?_
        cases b <;> first | exact absurd rfl hb | exact h
    | invoke r m => exact pureCase (by simp) h
  | _ => exact pureCase (by simp) h
end Go.Lg
end
section
set_option linter.unusedSimpArgs false
set_option linter.unusedSectionVars false
namespace Go.Lg
variable [Rel]
variable {L : Look} {w : World} {G : Gh}
theorem getD_bool {ts : Array Value} {d : Nat} {b : Bool} (h : ts.getD d undef = .bool b) : ts[d]? = some (.bool b) := by
  rw [Array.getD_eq_getD_getElem?] at h
  cases ht : ts[d]? with
  | none => simp [ht, undef] at h
  | some u => simp [ht] at h; rw [h]
theorem getD_tuple {ts : Array Value} {d : Nat} {vs : Array Value} (h : ts.getD d undef = .tuple vs) : ∀ b, ts[d]? ≠ some (.bool b) := by
  intro b hb
  rw [Array.getD_eq_getD_getElem?, hb] at h
  simp at h
theorem wantedL_sound {ops : Array Oper} {tm : Tm} {act : Act} (ht : TR w G tm act.tmps) {o : Oper} {b : Bool} (h : wantedL ops tm o = some b) : Region.wanted o (yielded ops act.tmps) = b := by
  unfold wantedL at h
  unfold Region.wanted
  cases hg : o.guard with
  | none => simp [hg] at h; simp [h]
  | some jw =>
    obtain ⟨j, want⟩ := jw
    simp only [hg, Array.getElem?_toList] at h
    simp only
    unfold yielded
    split at h
    · rename_i hd
      injection h with h; subst h
      simp [hd]
    · rename_i d hd
      simp only [hd, Option.bind_some]
      split at h
      · rename_i c hc
        injection h with h; subst h
        have := ht.get d _ hc
        have := getD_bool this.bool_inv
        simp [this]
      · rename_i vs hc
        injection h with h; subst h
        obtain ⟨us, hu, _⟩ := (ht.get d _ hc).tuple_inv
        have hn := getD_tuple hu
        cases hts : act.tmps[d]? with
        | none => simp
        | some v => cases v <;> simp; exact (hn _ hts).elim
      · cases h
theorem opStep_mod {ef : LV → List LV → LH → Option CR} (hM : ∀ f args σ cr, ef f args σ = some cr → Mod σ (cr.st σ)) {rnd : Bool} {tm : Tm} {o : Oper} {σ : LH} {r : OpR}
    (h : opStep L (callSt ef) rnd tm o σ = some r) : Mod σ r.st ∧ ∀ d σ', r = .dfr d σ' → σ' = σ ∧ rnd = false := by
  obtain ⟨dst, op, type, pos, after, guard⟩ := o
  have pureCase : ∀ {op : Op} {r : OpR}, (match pureOp L tm ⟨dst, op, type, pos, after, guard⟩ with | some v => some (OpR.val v σ) | none => none) = some r → Mod σ r.st ∧ ∀ d σ', r = .dfr d σ' → σ' = σ ∧ rnd = false := fun {op r} h => by
    split at h
    · injection h with h; subst h; exact ⟨Mod.refl _, fun d σ' h => by cases h⟩
    · cases h
  cases op with
  | alloc t =>
    simp only [opStep] at h
    split at h
    · split at h
      · injection h with h; subst h; exact ⟨Mod.snoc _ _, fun d σ' h => by cases h⟩
      · cases h
    · cases h
  | box t x =>
    simp only [opStep] at h
    split at h
    · split at h
      · injection h with h; subst h; exact ⟨Mod.snoc _ _, fun d σ' h => by cases h⟩
      · cases h
    · cases h
  | load t x =>
    simp only [opStep] at h
    split at h
    · split at h
      · injection h with h; subst h; exact ⟨Mod.refl _, fun d σ' h => by cases h⟩
      · cases h
    · cases h
  | store t x y =>
    simp only [opStep] at h
    split at h
    · split at h
      · rename_i σ' hσ
        injection h with h; subst h
        refine ⟨?_, fun d σ' h => by cases h⟩
        unfold storeL at hσ
        split at hσ
        · split at hσ
          · split at hσ
            · injection hσ with hσ; subst hσ; exact Mod.set _ _ _
            · cases hσ
          · cases hσ
        · cases hσ
      · cases h
    · cases h
  | makeSlice t x y =>
    simp only [opStep] at h
    split at h
    · split at h
      · rename_i v σ' hσ
        injection h with h; subst h
        refine ⟨?_, fun d σ' h => by cases h⟩
        unfold makeSliceL at hσ
        split at hσ
        · split at hσ
          · split at hσ
            · injection hσ with hσ; injection hσ with h1 h2; subst h2; exact Mod.snoc _ _
            · cases hσ
          · cases hσ
        · cases hσ
      · cases h
    · cases h
  | buildSlice t n ps =>
    simp only [opStep] at h
    split at h
    · split at h
      · split at h
        · rename_i v σ' hσ
          injection h with h; subst h
          refine ⟨?_, fun d σ' h => by cases h⟩
          unfold buildMsL at hσ
          split at hσ
          · split at hσ
            · split at hσ
              · split at hσ
                · split at hσ
                  · injection hσ with hσ; injection hσ with h1 h2; subst h2; exact Mod.snoc _ _
                  · cases hσ
                · cases hσ
              · cases hσ
            · cases hσ
          · cases hσ
        · cases h
      · cases h
    · exact pureCase h
  | panic x =>
    simp only [opStep] at h
    split at h
    · injection h with h; subst h; exact ⟨Mod.refl _, fun d σ' h => by cases h⟩
    · cases h
  | defer c =>
    obtain ⟨callee, args, ats⟩ := c
    cases callee with
    | value f =>
      simp only [opStep] at h
      split at h
      · split at h
        · cases h
        · rename_i hrn
          injection h with h; subst h
          exact ⟨Mod.refl _, fun d σ' h => by injection h with h1 h2; exact ⟨h2.symm, by cases rnd with | true => exact absurd rfl hrn | false => rfl⟩⟩
      · cases h
    | builtin b => simp [opStep, pureOp] at h
    | invoke r m => simp [opStep, pureOp] at h
  | call c =>
    obtain ⟨callee, args, ats⟩ := c
    cases callee with
    | value f =>
      simp only [opStep] at h
      split at h
      · rename_i vf l hf hl
        cases hcr : ef vf l σ with
        | none => simp [callSt, hcr] at h
        | some cr =>
          simp only [callSt, hcr] at h
          have hmod := hM _ _ _ _ hcr
          split at h
          · rename_i v σ' heq; injection heq with heq; injection heq with h1 h2; injection h with h; subst h; exact ⟨h2 ▸ hmod, fun d σ' h => by cases h⟩
          · rename_i v σ' heq; injection heq with heq; injection heq with h1 h2; injection h with h; subst h; exact ⟨h2 ▸ hmod, fun d σ' h => by cases h⟩
          · cases h
      · cases h
    | builtin b =>
      by_cases hb : b = .append
      · subst hb
        simp only [opStep] at h
        split at h
        · split at h
          · rename_i v σ' hσ
            injection h with h; subst h
            refine ⟨?_, fun d σ' h => by cases h⟩
            unfold appendL at hσ
            split at hσ
            · split at hσ
              · split at hσ
                · split at hσ
                  · injection hσ with hσ; injection hσ with h1 h2; subst h2; exact Mod.refl _
                  · split at hσ
                    · cases hσ
                    · injection hσ with hσ; injection hσ with h1 h2; subst h2; exact ⟨Nat.le_refl _, by show σ.toks.length ≤ (σ.toks ++ [true]).length; simp, [], rfl, fun _ _ _ => rfl⟩
                    · split at hσ
                      · injection hσ with hσ; injection hσ with h1 h2; subst h2; exact ⟨Nat.le_refl _, by show σ.toks.length ≤ (σ.toks.set _ false ++ [true]).length; simp, [], rfl, fun _ _ _ => rfl⟩
                      · cases hσ
                · cases hσ
              · cases hσ
            · cases hσ
          · cases h
        · cases h
      · refine pureCase (op := .call { callee := .builtin b, args, argTypes := ats }) ?_
        cases b <;> first | exact absurd rfl hb | exact h
    | invoke r m => exact pureCase (op := .call { callee := .invoke r m, args, argTypes := ats }) h
  | _ =>
    simp only [opStep] at h
    split at h
    · injection h with h; subst h; exact ⟨Mod.refl _, fun d σ' h => by cases h⟩
    · cases h
theorem runOps_mod {ef : LV → List LV → LH → Option CR} (hM : ∀ f args σ cr, ef f args σ = some cr → Mod σ (cr.st σ)) {rnd : Bool} {ops : Array Oper} :
    ∀ (os : List Oper) {a a' : LAct} {σ σ' : LH} {p : Option LV}, runOps L ef rnd ops os a σ = some (p, a', σ') → Mod σ σ' := by
  intro os
  induction os with
  | nil => intro a a' σ σ' p h; simp only [runOps] at h; injection h with h; injection h with h1 h2; injection h2 with h2 h3; subst h3; exact Mod.refl _
  | cons o os ih =>
    intro a a' σ σ' p h
    simp only [runOps] at h
    split at h
    · cases h
    · exact ih h
    · split at h
      · cases h
      · rename_i v σ1 hst; exact (opStep_mod hM hst).1.trans (ih h)
      · rename_i v σ1 hst; injection h with h; injection h with h1 h2; injection h2 with h2 h3; subst h3; exact (opStep_mod hM hst).1
      · rename_i d σ1 hst; exact (opStep_mod hM hst).1.trans (ih h)
theorem runOps_wp {ef : LV → List LV → LH → Option CR} (hL : LookOK L) (hS : SoundF L ef) {F : Fence} (hF : FF F) {rnd : Bool} (hr : rnd = false → F.round = none) {ops : Array Oper} :
    ∀ (os : List Oper) (k : Nat), os = ops.toList.drop k → ∀ {w : World} {G : Gh} {a a' : LAct} {σ σ' : LH} {p : Option LV} {act : Act}, AR w G a act → WR G σ w → runOps L ef rnd ops os a σ = some (p, a', σ') →
      ∀ Q, (∀ act' w' G', Ext w G w' G' → AR w' G' a' act' → WR G' σ' w' → match p with
          | none => Q .normal act' w'
          | some v => ∀ u, VR w' G' v u → Q (.panic [{ v := u, recovered := false }]) act' w') →
        wpOpsIn F 0 L.P ops Q (List.range' k (ops.size - k)) act w := by
  intro os
  induction os with
  | nil =>
    intro k hk w G a a' σ σ' p act ha hw h
    simp only [runOps] at h
    injection h with h; injection h with h1 h2; injection h2 with h2 h3
    subst h1; subst h2; subst h3
    intro Q hQ
    have hlen : ops.size - k = 0 := by
      have := congrArg List.length hk
      simp at this; omega
    rw [hlen]
    exact hQ act w G (Ext.refl _ _) ha hw
  | cons o os ih =>
    intro k hk w G a a' σ σ' p act ha hw h
    have hlt : k < ops.size := by
      have := congrArg List.length hk
      simp at this; omega
    have ho : ops[k]? = some o := by
      have : (ops.toList.drop k)[0]? = some o := by rw [← hk]; rfl
      simpa using this
    have hos : os = ops.toList.drop (k + 1) := by
      have := congrArg (List.drop 1) hk
      simpa [List.drop_drop, Nat.add_comm] using this
    have hrange : List.range' k (ops.size - k) = k :: List.range' (k + 1) (ops.size - (k + 1)) := by
      rw [show ops.size - k = (ops.size - (k + 1)) + 1 by omega, List.range'_succ]
    rw [hrange]
    simp only [runOps] at h
    split at h
    · cases h
    · rename_i hwn
      have hw' := wantedL_sound ha.tmps hwn
      have hq := ih (k + 1) hos (ha.undef (dst := o.dst)) hw h
      intro Q hQ
      rw [wpOpsIn_cons]
      unfold wpOpIn
      simp only [ho, hw', Bool.false_eq_true, if_false]
      exact ⟨fun f _ => hF.fn f, hq Q hQ⟩
    · rename_i hwn
      have hw' := wantedL_sound ha.tmps hwn
      split at h
      · cases h
      · rename_i v σ1 hst
        obtain ⟨hm1, hop⟩ := opStep_wp hL hS hF hr ha.tmps hw hst
        intro Q hQ
        rw [wpOpsIn_cons]
        unfold wpOpIn
        simp only [ho, hw', if_true]
        refine hop _ Q fun u w1 G1 e1 hw1 hv => ?_
        have hq := ih (k + 1) hos ((ha.ext e1).put (dst := o.dst) hv) hw1 h
        refine hq Q fun act' w' G' e2 ha' hw2 => ?_
        exact hQ act' w' G' (e1.trans e2) ha' hw2
      · rename_i v σ1 hst
        obtain ⟨hm1, hop⟩ := opStep_wp hL hS hF hr ha.tmps hw hst
        injection h with h; injection h with h1 h2; injection h2 with h2 h3
        subst h1; subst h2; subst h3
        intro Q hQ
        rw [wpOpsIn_cons]
        unfold wpOpIn
        simp only [ho, hw', if_true]
        refine hop _ Q fun u w1 G1 e1 hw1 hv => ?_
        exact hQ act w1 G1 e1 (ha.ext e1) hw1 u hv
      · rename_i d σ1 hst
        obtain ⟨hm1, hop⟩ := opStep_wp hL hS hF hr ha.tmps hw hst
        obtain ⟨rfl, _⟩ := (opStep_mod (fun f args σ cr h => (hS f args σ cr h).1) hst).2 d σ1 rfl
        intro Q hQ
        rw [wpOpsIn_cons]
        unfold wpOpIn
        simp only [ho, hw', if_true]
        refine hop _ Q fun D hD => ?_
        have ha2 : AR w G { a with defers := d :: a.defers } { act with defers := D :: act.defers } := ⟨ha.tmps, hD, ha.defers⟩
        exact ih (k + 1) hos (ha2.undef (dst := o.dst)) hw h Q hQ
end Go.Lg
end
section
set_option linter.unusedSimpArgs false
set_option linter.unusedSectionVars false
namespace Go.Lg
variable [Rel]
variable {L : Look}
theorem tree_get_node (l : Tree) (v : LV) (r : Tree) (j : Nat) : (Tree.node l v r).get j = if j = 0 then some v else if j % 2 = 1 then l.get (j / 2) else r.get (j / 2 - 1) := by
  show @Bool.rec (fun _ => Option LV) (@Bool.rec (fun _ => Option LV) (r.get (Nat.sub (Nat.div j 2) 1)) (l.get (Nat.div j 2)) (Nat.beq (Nat.mod j 2) 1)) (some v) (Nat.beq j 0) = _
  by_cases h0 : j = 0
  · subst h0; rfl
  · have e0 : Nat.beq j 0 = false := by cases j with | zero => exact absurd rfl h0 | succ n => rfl
    rw [e0, if_neg h0]
    by_cases h1 : j % 2 = 1
    · have e1 : Nat.beq (Nat.mod j 2) 1 = true := by show Nat.beq (j % 2) 1 = true; rw [h1]; rfl
      rw [e1, if_pos h1]; rfl
    · have h2 : j % 2 = 0 := by omega
      have e1 : Nat.beq (Nat.mod j 2) 1 = false := by show Nat.beq (j % 2) 1 = false; rw [h2]; rfl
      rw [e1, if_neg h1]; rfl
theorem tree_set_node (l : Tree) (v : LV) (r : Tree) (k : Nat) (x : LV) : (Tree.node l v r).set k x = if k = 0 then .node l x r else if k % 2 = 1 then .node (l.set (k / 2) x) v r else .node l v (r.set (k / 2 - 1) x) := by
  show @Bool.rec (fun _ => Tree) (@Bool.rec (fun _ => Tree) (Tree.node l v (r.set (Nat.sub (Nat.div k 2) 1) x)) (Tree.node (l.set (Nat.div k 2) x) v r) (Nat.beq (Nat.mod k 2) 1)) (Tree.node l x r) (Nat.beq k 0) = _
  by_cases h0 : k = 0
  · subst h0; rfl
  · have e0 : Nat.beq k 0 = false := by cases k with | zero => exact absurd rfl h0 | succ n => rfl
    rw [e0, if_neg h0]
    by_cases h1 : k % 2 = 1
    · have e1 : Nat.beq (Nat.mod k 2) 1 = true := by show Nat.beq (k % 2) 1 = true; rw [h1]; rfl
      rw [e1, if_pos h1]; rfl
    · have h2 : k % 2 = 0 := by omega
      have e1 : Nat.beq (Nat.mod k 2) 1 = false := by show Nat.beq (k % 2) 1 = false; rw [h2]; rfl
      rw [e1, if_neg h1]; rfl
theorem tree_set_get : ∀ (t : Tree) (k j : Nat) (x : LV), (t.set k x).get j = if j = k then (t.get j).map (fun _ => x) else t.get j := by
  intro t
  induction t with
  | nil => intro k j x; show (Tree.nil.set k x).get j = _; split <;> rfl
  | node l v r ihl ihr =>
    intro k j x
    rw [tree_set_node]
    by_cases hk0 : k = 0
    · rw [if_pos hk0, tree_get_node, tree_get_node]
      by_cases hj0 : j = 0
      · simp [hj0, hk0]
      · simp [hj0, hk0]
    · rw [if_neg hk0]
      by_cases hk1 : k % 2 = 1
      · rw [if_pos hk1, tree_get_node, tree_get_node]
        by_cases hj0 : j = 0
        · rw [if_pos hj0, if_neg (by omega), if_pos hj0]
        · rw [if_neg hj0, if_neg hj0]
          by_cases hj1 : j % 2 = 1
          · rw [if_pos hj1, if_pos hj1, ihl]
            by_cases he : j = k
            · rw [if_pos (by omega), if_pos he]
            · rw [if_neg (by omega), if_neg he]
          · rw [if_neg hj1, if_neg hj1, if_neg (by omega)]
      · rw [if_neg hk1, tree_get_node, tree_get_node]
        by_cases hj0 : j = 0
        · rw [if_pos hj0, if_neg (by omega), if_pos hj0]
        · rw [if_neg hj0, if_neg hj0]
          by_cases hj1 : j % 2 = 1
          · rw [if_pos hj1, if_pos hj1, if_neg (by omega)]
          · rw [if_neg hj1, if_neg hj1, ihr]
            by_cases he : j = k
            · rw [if_pos (by omega), if_pos he]
            · rw [if_neg (by omega), if_neg he]
theorem put_get (tm : Tm) (k j : Nat) (x : LV) : (tm.put k x).get j = if j = k ∧ k + 1 ≤ tm.n then (tm.get j).map (fun _ => x) else tm.get j := by
  unfold Tm.put
  by_cases hk : k + 1 ≤ tm.n
  · have e : Nat.ble (k + 1) tm.n = true := by rw [Nat.ble_eq]; exact hk
    rw [e]
    show (tm.t.set k x).get j = _
    rw [tree_set_get]
    by_cases hj : j = k
    · rw [if_pos hj, if_pos ⟨hj, hk⟩]; rfl
    · rw [if_neg hj, if_neg (fun h => hj h.1)]; rfl
  · have e : Nat.ble (k + 1) tm.n = false := by
      cases hb : Nat.ble (k + 1) tm.n with
      | true => exact absurd (Nat.le_of_ble_eq_true hb) hk
      | false => rfl
    rw [e, if_neg (fun h => hk h.2)]
theorem put_n (tm : Tm) (k : Nat) (x : LV) : (tm.put k x).n = tm.n := by
  unfold Tm.put; split <;> rfl
theorem putL_get (tm : Tm) (dst : Option Tmp) (j : Nat) (x : LV) : (putL tm dst x).get j = if dst = some j ∧ j + 1 ≤ tm.n then (tm.get j).map (fun _ => x) else tm.get j := by
  cases dst with
  | none => simp [putL]
  | some d =>
    show (tm.put d x).get j = _
    rw [put_get]
    by_cases h : j = d
    · subst h; simp
    · rw [if_neg (fun e => h e.1), if_neg (fun e => h (by injection e.1 with e; exact e.symm))]
theorem putL_n (tm : Tm) (dst : Option Tmp) (x : LV) : (putL tm dst x).n = tm.n := by
  cases dst with
  | none => rfl
  | some d => exact put_n tm d x
theorem opv_congr {tm tm' : Tm} {x : Operand} (h : ∀ t, x = .tmp t → tm.get t = tm'.get t) : opv tm x = opv tm' x := by
  cases x with
  | tmp t => exact h t rfl
  | const v => rfl
  | global g => rfl
  | func f => rfl
theorem opvs_congr {tm tm' : Tm} : ∀ {xs : List Operand}, (∀ x ∈ xs, opv tm x = opv tm' x) → opvs tm xs = opvs tm' xs
  | [], _ => rfl
  | x :: xs, h => by
    have h2 : opvs tm xs = opvs tm' xs := opvs_congr fun y hy => h y (List.mem_cons_of_mem _ hy)
    simp only [opvs, h x (by simp), h2]
theorem partsL_congr {tm tm' : Tm} : ∀ {xs : List (Nat × Operand)}, (∀ x ∈ xs, opv tm x.2 = opv tm' x.2) → partsL tm xs = partsL tm' xs
  | [], _ => rfl
  | (i, x) :: xs, h => by
    have h2 : partsL tm xs = partsL tm' xs := partsL_congr fun y hy => h y (List.mem_cons_of_mem _ hy)
    simp only [partsL, h (i, x) (by simp), h2]
theorem optL_congr {tm tm' : Tm} {x : Option Operand} (h : ∀ y, x = some y → opv tm y = opv tm' y) : optL tm x = optL tm' x := by
  cases x with
  | none => rfl
  | some y => simp only [optL, h y rfl]
theorem slots_op {ops : Array Oper} {tm tm' : Tm} {o : Oper} (h : ∀ d ∈ slotsOf ops o, tm.get d = tm'.get d) : ∀ x ∈ o.op.operands.toList, opv tm x = opv tm' x :=
  fun x hx => opv_congr fun t ht => h t (by
    subst ht
    exact List.mem_append_left _ (List.mem_filterMap.2 ⟨.tmp t, hx, rfl⟩))
theorem pureOp_congr {tm tm' : Tm} {o : Oper} (h : ∀ x ∈ o.op.operands.toList, opv tm x = opv tm' x) : pureOp L tm o = pureOp L tm' o := by
  obtain ⟨dst, op, type, pos, after, guard⟩ := o
  cases op with
  | call c =>
    obtain ⟨callee, args, ats⟩ := c
    have ha : opvs tm args.toList = opvs tm' args.toList := opvs_congr fun x hx => h x (by simp only [Op.operands, Call.operands]; simp; exact .inr (by simpa using hx))
    cases callee with
    | builtin b => cases b <;> simp only [pureOp, ha]
    | _ => rfl
  | build t ps =>
    have : partsL tm ps.toList = partsL tm' ps.toList := partsL_congr fun x hx => h x.2 (by simp only [Op.operands]; simp; exact ⟨x.1, by simpa using hx⟩)
    simp only [pureOp, this]
  | buildSlice t n ps =>
    have : partsL tm ps.toList = partsL tm' ps.toList := partsL_congr fun x hx => h x.2 (by simp only [Op.operands]; simp; exact ⟨x.1, by simpa using hx⟩)
    simp only [pureOp, this]
  | makeFunc fn fs cs =>
    have h1 : opvs tm fs.toList = opvs tm' fs.toList := opvs_congr fun x hx => h x (by simp only [Op.operands]; simp; exact .inl (by simpa using hx))
    have h2 : opvs tm cs.toList = opvs tm' cs.toList := opvs_congr fun x hx => h x (by simp only [Op.operands]; simp; exact .inr (by simpa using hx))
    cases fn <;> simp only [pureOp, h1, h2]
  | slice t x lo hi mx =>
    have h0 : opv tm x = opv tm' x := h x (by simp [Op.operands])
    have h1 : optL tm lo = optL tm' lo := optL_congr fun y hy => h y (by subst hy; simp [Op.operands])
    have h2 : optL tm hi = optL tm' hi := optL_congr fun y hy => h y (by subst hy; simp [Op.operands])
    have h3 : optL tm mx = optL tm' mx := optL_congr fun y hy => h y (by subst hy; simp [Op.operands])
    simp only [pureOp, h0, h1, h2, h3]
  | _ => first
    | rfl
    | (simp only [Op.operands, List.mem_cons, List.not_mem_nil, or_false, forall_eq_or_imp, forall_eq] at h; simp only [pureOp, h])
theorem opStep_congr {tm tm' : Tm} {o : Oper} {cf : LV → List LV → LH → Option (LOut × LH)} {rnd : Bool} {σ : LH} (h : ∀ x ∈ o.op.operands.toList, opv tm x = opv tm' x) : opStep L cf rnd tm o σ = opStep L cf rnd tm' o σ := by
  have hp := pureOp_congr (L := L) h
  obtain ⟨dst, op, type, pos, after, guard⟩ := o
  cases op with
  | call c =>
    obtain ⟨callee, args, ats⟩ := c
    have ha : opvs tm args.toList = opvs tm' args.toList := opvs_congr fun x hx => h x (by simp only [Op.operands, Call.operands]; simp; exact .inr (by simpa using hx))
    cases callee with
    | builtin b => cases b <;> simp only [opStep, ha, hp]
    | value f =>
      have hf : opv tm f = opv tm' f := h f (by simp [Op.operands, Call.operands])
      simp only [opStep, ha, hf]
    | invoke r m => simp only [opStep, hp]
  | defer c =>
    obtain ⟨callee, args, ats⟩ := c
    have ha : opvs tm args.toList = opvs tm' args.toList := opvs_congr fun x hx => h x (by simp only [Op.operands, Call.operands]; simp; exact .inr (by simpa using hx))
    cases callee with
    | value f =>
      have hf : opv tm f = opv tm' f := h f (by simp [Op.operands, Call.operands])
      simp only [opStep, ha, hf]
    | builtin b => simp only [opStep, hp]
    | invoke r m => simp only [opStep, hp]
  | buildSlice t n ps =>
    have hps : partsL tm ps.toList = partsL tm' ps.toList := partsL_congr fun x hx => h x.2 (by simp only [Op.operands]; simp; exact ⟨x.1, by simpa using hx⟩)
    simp only [opStep, hps, hp]
  | _ => first
    | rfl
    | (simp only [opStep, hp]; done)
    | (simp only [Op.operands, List.mem_cons, List.not_mem_nil, or_false, forall_eq_or_imp, forall_eq] at h; simp only [opStep, h])
theorem wantedL_congr {ops : Array Oper} {tm tm' : Tm} {o : Oper} (h : ∀ d ∈ slotsOf ops o, tm.get d = tm'.get d) : wantedL ops tm o = wantedL ops tm' o := by
  unfold wantedL
  cases hg : o.guard with
  | none => rfl
  | some jw =>
    obtain ⟨j, want⟩ := jw
    simp only
    cases hd : (ops.toList[j]?).bind (·.dst) with
    | none => rfl
    | some d =>
      have : tm.get d = tm'.get d := h d (by
        unfold slotsOf
        refine List.mem_append_right _ ?_
        simp only [hg, hd]; simp)
      simp only [this]
def ancStep (acc : Array Nat) (o : Oper) : Nat := o.after.foldl (fun s e => if Region.binds .any e then s ||| 2 ^ e.on ||| acc.getD e.on 0 else s) 0
theorem ancStep_bit (acc : Array Nat) (i : Nat) : ∀ (es : List Edge) (s : Nat), (es.foldl (fun s e => if Region.binds .any e then s ||| 2 ^ e.on ||| acc.getD e.on 0 else s) s).testBit i = true →
    s.testBit i = true ∨ ∃ e ∈ es, Region.binds .any e = true ∧ (i = e.on ∨ (acc.getD e.on 0).testBit i = true)
  | [], s, h => .inl h
  | e :: es, s, h => by
    simp only [List.foldl_cons] at h
    rcases ancStep_bit acc i es _ h with h | ⟨e', he', hb, hi⟩
    · split at h
      · rename_i hb
        rw [Nat.testBit_or, Nat.testBit_or, Bool.or_eq_true, Bool.or_eq_true, Nat.testBit_two_pow] at h
        rcases h with (h | h) | h
        · exact .inl h
        · exact .inr ⟨e, by simp, hb, .inl (by have := of_decide_eq_true h; exact this.symm)⟩
        · exact .inr ⟨e, by simp, hb, .inr h⟩
      · exact .inl h
    · exact .inr ⟨e', by simp [he'], hb, hi⟩
def AncOK (ops : List Oper) (acc : Array Nat) : Prop :=
  acc.size ≤ ops.length ∧ ∀ j i, j < acc.size → (acc.getD j 0).testBit i = true → ∃ o e, ops[j]? = some o ∧ e ∈ o.after.toList ∧ Region.binds .any e = true ∧ (i = e.on ∨ (e.on < j ∧ (acc.getD e.on 0).testBit i = true))
theorem ancOK_fold (ops : List Oper) : ∀ (os : List Oper) (acc : Array Nat), AncOK ops acc → os = ops.drop acc.size → AncOK ops (os.foldl (fun acc o => acc.push (ancStep acc o)) acc)
  | [], acc, h, hos => h
  | o :: os, acc, h, hos => by
    have hlt : acc.size < ops.length := by
      have := congrArg List.length hos
      simp at this; omega
    have ho : ops[acc.size]? = some o := by
      have : (ops.drop acc.size)[0]? = some o := by rw [← hos]; rfl
      simpa using this
    refine ancOK_fold ops os (acc.push (ancStep acc o)) ⟨by simp; omega, fun j i hj hb => ?_⟩ (by
      have := congrArg (List.drop 1) hos
      simpa [List.drop_drop, Nat.add_comm] using this)
    have hget : ∀ x, x < acc.size → (acc.push (ancStep acc o)).getD x 0 = acc.getD x 0 := fun x hx => by
      simp [Array.getD_eq_getD_getElem?, Array.getElem?_push_lt, hx]
    rcases Nat.lt_or_ge j acc.size with hj' | hj'
    · rw [hget j hj'] at hb
      obtain ⟨o', e, h1, h2, h3, h4⟩ := h.2 j i hj' hb
      exact ⟨o', e, h1, h2, h3, h4.imp id fun h5 => ⟨h5.1, by rw [hget _ (by omega)]; exact h5.2⟩⟩
    · have hje : j = acc.size := by simp at hj; omega
      subst hje
      have : (acc.push (ancStep acc o)).getD acc.size 0 = ancStep acc o := by simp [Array.getD_eq_getD_getElem?]
      rw [this] at hb
      unfold ancStep at hb
      rw [← Array.foldl_toList] at hb
      rcases ancStep_bit acc i _ _ hb with h0 | ⟨e, h2, h3, h4⟩
      · simp at h0
      · refine ⟨o, e, ho, h2, h3, h4.imp id fun h5 => ?_⟩
        have hlt' : e.on < acc.size := by
          rcases Nat.lt_or_ge e.on acc.size with h | h
          · exact h
          · rw [Array.getD_eq_getD_getElem?, Array.getElem?_eq_none h] at h5; simp at h5
        exact ⟨hlt', by rw [hget _ hlt']; exact h5⟩
theorem before_ok (ops : Array Oper) : AncOK ops.toList (Region.before ops) := by
  have h := ancOK_fold ops.toList ops.toList #[] ⟨by simp, fun j i hj => by simp at hj⟩ (by simp)
  unfold Region.before
  rw [← Array.foldl_toList]
  exact h
theorem anc_closed {ops : Array Oper} {lst : Nat → Prop} (hst : ∀ (j : Nat) (o : Oper), ops[j]? = some o → ∀ e ∈ o.after.toList, Region.binds .any e = true → e.on < j)
    (hcl : ∀ (j : Nat) (o : Oper), ops[j]? = some o → lst j → ∀ e ∈ o.after.toList, Region.binds .any e = true → lst e.on) :
    ∀ (j i : Nat), bitOf (Region.before ops).toList j i = true → i < j ∧ (lst j → lst i) := by
  have hb := before_ok ops
  intro j
  induction j using Nat.strongRecOn with
  | ind j ih =>
    intro i hbit
    unfold bitOf at hbit
    have hbit' : ((Region.before ops).getD j 0).testBit i = true := by
      rw [Array.getD_eq_getD_getElem?]; rw [List.getD_eq_getElem?_getD, Array.getElem?_toList] at hbit; exact hbit
    have hj : j < (Region.before ops).size := by
      rcases Nat.lt_or_ge j (Region.before ops).size with h | h
      · exact h
      · rw [Array.getD_eq_getD_getElem?, Array.getElem?_eq_none h] at hbit'; simp at hbit'
    obtain ⟨o, e, h1, h2, h3, h4⟩ := hb.2 j i hj hbit'
    have ho : ops[j]? = some o := by simpa using h1
    have hlt := hst j o ho e h2 h3
    rcases h4 with rfl | ⟨h5, h6⟩
    · exact ⟨hlt, fun hl => hcl j o ho hl e h2 h3⟩
    · have h7 : bitOf (Region.before ops).toList e.on i = true := by
        unfold bitOf; rw [List.getD_eq_getElem?_getD, Array.getElem?_toList]; rw [Array.getD_eq_getD_getElem?] at h6; exact h6
      obtain ⟨h8, h9⟩ := ih e.on hlt i h7
      exact ⟨by omega, fun hl => h9 (hcl j o ho hl e h2 h3)⟩
end Go.Lg
end
section
set_option linter.unusedSimpArgs false
set_option linter.unusedSectionVars false
namespace Go.Lg
variable [Rel]
variable {L : Look}
theorem cnt_succ {ops : Array Oper} {j : Nat} {o : Oper} (h : ops[j]? = some o) : cnt ops (j + 1) = cnt ops j + (if isAlloc o then 1 else 0) := by
  unfold cnt
  have hl : ops.toList[j]? = some o := by simpa using h
  rw [List.take_add_one, hl]
  simp only [Option.toList_some, List.filter_append, List.length_append]
  congr 1
  by_cases ha : isAlloc o = true
  · simp [ha]
  · simp [ha]
def StepAt (L : Look) (ef : LV → List LV → LH → Option CR) (ops : Array Oper) (k0 : Nat) (rs : List Rec) (T : Nat → Tm) (S : Nat → LH) (j : Nat) (o : Oper) : Prop :=
  (wantedL ops (T j) o = some false ∧ T (j + 1) = putL (T j) o.dst (.tuple []) ∧ S (j + 1) = S j) ∨
  (wantedL ops (T j) o = some true ∧ isAlloc o = true ∧ T (j + 1) = putL (T j) o.dst (.ptr (k0 + cnt ops j) 0) ∧ S (j + 1) = S j ∧ (⟨j, .alloc (k0 + cnt ops j)⟩ : Rec) ∈ rs) ∨
  (wantedL ops (T j) o = some true ∧ isAlloc o = false ∧ ∃ v, opStep L (callSt ef) true (T j) o (S j) = some (.val v (S (j + 1))) ∧ T (j + 1) = putL (T j) o.dst v ∧ (⟨j, kindOf L ef (T j) o (S j)⟩ : Rec) ∈ rs)
theorem StepAt.mono {ef : LV → List LV → LH → Option CR} {ops : Array Oper} {k0 : Nat} {rs rs' : List Rec} {T : Nat → Tm} {S : Nat → LH} {j : Nat} {o : Oper} (h : StepAt L ef ops k0 rs T S j o) (hr : ∀ x ∈ rs, x ∈ rs') : StepAt L ef ops k0 rs' T S j o := by
  rcases h with h | ⟨h1, h2, h3, h4, h5⟩ | ⟨h1, h2, v, h3, h4, h5⟩
  · exact .inl h
  · exact .inr (.inl ⟨h1, h2, h3, h4, hr _ h5⟩)
  · exact .inr (.inr ⟨h1, h2, v, h3, h4, hr _ h5⟩)
theorem StepAt.congr {ef : LV → List LV → LH → Option CR} {ops : Array Oper} {k0 : Nat} {rs : List Rec} {T T' : Nat → Tm} {S S' : Nat → LH} {j : Nat} {o : Oper} (h : StepAt L ef ops k0 rs T S j o)
    (h1 : T' j = T j) (h2 : T' (j + 1) = T (j + 1)) (h3 : S' j = S j) (h4 : S' (j + 1) = S (j + 1)) : StepAt L ef ops k0 rs T' S' j o := by
  unfold StepAt at *
  rw [h1, h2, h3, h4]; exact h
structure Trace (L : Look) (ef : LV → List LV → LH → Option CR) (ops : Array Oper) (k0 i : Nat) (tm : Tm) (σ : LH) (x : Option (Nat × LV)) (tm' : Tm) (σ' : LH) (rs : List Rec) (T : Nat → Tm) (S : Nat → LH) : Prop where
  t0 : T i = tm
  s0 : S i = σ
  none : x = none → T ops.size = tm' ∧ S ops.size = σ' ∧ ∀ j, i ≤ j → j < ops.size → ∃ o, ops[j]? = some o ∧ StepAt L ef ops k0 rs T S j o
  some : ∀ p v, x = some (p, v) → i ≤ p ∧ p < ops.size ∧ (∀ j, i ≤ j → j < p → ∃ o, ops[j]? = some o ∧ StepAt L ef ops k0 rs T S j o) ∧
    ∃ o, ops[p]? = some o ∧ wantedL ops (T p) o = some true ∧ isAlloc o = false ∧ opStep L (callSt ef) true (T p) o (S p) = some (.pan v σ') ∧ (⟨p, .move []⟩ : Rec) ∈ rs
theorem runRec_trace {ef : LV → List LV → LH → Option CR} {ops : Array Oper} {k0 : Nat} (hg : ∀ (j : Nat) (o : Oper), ops[j]? = some o → isAlloc o = true → o.guard = none) :
    ∀ (os : List Oper) (i : Nat) {a a' : LAct} {σ σ' : LH} {x : Option (Nat × LV)} {rs : List Rec}, os = ops.toList.drop i → i ≤ ops.size → runRec L ef ops os i (k0 + cnt ops i) a σ = some (x, a', σ', rs) →
      ∃ T S, Trace L ef ops k0 i a.tmps σ x a'.tmps σ' rs T S ∧ a'.defers = a.defers := by
  intro os
  induction os with
  | nil =>
    intro i a a' σ σ' x rs hos hi h
    simp only [runRec] at h
    injection h with h; injection h with h1 h; injection h with h2 h; injection h with h3 h4
    subst h1; subst h2; subst h3; subst h4
    have hie : i = ops.size := by
      have := congrArg List.length hos
      simp at this; omega
    subst hie
    exact ⟨fun _ => a.tmps, fun _ => σ, ⟨rfl, rfl, fun _ => ⟨rfl, rfl, fun j h1 h2 => by omega⟩, (fun p v h => by cases h)⟩, rfl⟩
  | cons o os ih =>
    intro i a a' σ σ' x rs hos hi h
    have hlt : i < ops.size := by
      have := congrArg List.length hos
      simp at this; omega
    have ho : ops[i]? = some o := by
      have : (ops.toList.drop i)[0]? = some o := by rw [← hos]; rfl
      simpa using this
    have hos' : os = ops.toList.drop (i + 1) := by
      have := congrArg (List.drop 1) hos
      simpa [List.drop_drop, Nat.add_comm] using this
    have hc := cnt_succ ho
    have glue : ∀ {tm1 : Tm} {σ1 : LH} {rs' : List Rec} {T' : Nat → Tm} {S' : Nat → LH}, Trace L ef ops k0 (i + 1) tm1 σ1 x a'.tmps σ' rs' T' S' → (∀ y ∈ rs', y ∈ rs) →
        (∀ T S, T i = a.tmps → S i = σ → T (i + 1) = tm1 → S (i + 1) = σ1 → StepAt L ef ops k0 rs T S i o) →
        ∃ T S, Trace L ef ops k0 i a.tmps σ x a'.tmps σ' rs T S := fun {tm1 σ1 rs' T' S'} ht hsub hstep => by
      let T : Nat → Tm := fun j => if j = i then a.tmps else T' j
      let S : Nat → LH := fun j => if j = i then σ else S' j
      have hT : ∀ j, i < j → T j = T' j := fun j hj => by simp only [T]; rw [if_neg (by omega)]
      have hS : ∀ j, i < j → S j = S' j := fun j hj => by simp only [S]; rw [if_neg (by omega)]
      have hTi : T i = a.tmps := by simp only [T, if_true]
      have hSi : S i = σ := by simp only [S, if_true]
      have hat : ∀ j, i ≤ j → (∀ j', i + 1 ≤ j' → j' = j → ∃ o, ops[j']? = some o ∧ StepAt L ef ops k0 rs' T' S' j' o) → ∃ o, ops[j]? = some o ∧ StepAt L ef ops k0 rs T S j o := fun j hj hrest => by
        rcases Nat.eq_or_lt_of_le hj with e | e
        · subst e
          exact ⟨o, ho, hstep T S hTi hSi ((hT _ (by omega)).trans ht.t0) ((hS _ (by omega)).trans ht.s0)⟩
        · obtain ⟨o', h1, h2⟩ := hrest j e rfl
          exact ⟨o', h1, (h2.mono hsub).congr (hT _ e) (hT _ (by omega)) (hS _ e) (hS _ (by omega))⟩
      refine ⟨T, S, hTi, hSi, fun hx => ?_, fun p v hx => ?_⟩
      · obtain ⟨h1, h2, h3⟩ := ht.none hx
        exact ⟨(hT _ hlt).trans h1, (hS _ hlt).trans h2, fun j hj hjn => hat j hj fun j' h4 h5 => h3 j' h4 (by omega)⟩
      · obtain ⟨h1, h2, h3, o', h4, h5, h6, h7, h8⟩ := ht.some p v hx
        refine ⟨by omega, h2, fun j hj hjn => hat j hj fun j' h4 h5 => h3 j' h4 (by omega), o', h4, ?_, h6, ?_, hsub _ h8⟩
        · rw [hT _ (by omega)]; exact h5
        · rw [hT _ (by omega), hS _ (by omega)]; exact h7
    simp only [runRec] at h
    split at h
    · cases h
    · rename_i hwn
      have hna : isAlloc o = false := by
        cases ha : isAlloc o with
        | false => rfl
        | true => unfold wantedL at hwn; rw [hg i o ho ha] at hwn; simp at hwn
      have hk : k0 + cnt ops i = k0 + cnt ops (i + 1) := by rw [hc, hna]; simp
      rw [hk] at h
      obtain ⟨T', S', ht, hd⟩ := ih (i + 1) hos' (by omega) h
      obtain ⟨T, S, ht2⟩ := glue ht (fun y hy => hy) (fun T S h1 h2 h3 h4 => .inl ⟨by rw [h1]; exact hwn, by rw [h1, h3]; rfl, by rw [h2, h4]⟩)
      exact ⟨T, S, ht2, hd⟩
    · rename_i hwn
      split at h
      · rename_i hal
        split at h
        · rename_i x1 a1 σ1 rs1 hrun
          injection h with h; injection h with h1 h; injection h with h2 h; injection h with h3 h4
          subst h1; subst h2; subst h3; subst h4
          have hk : k0 + cnt ops i + 1 = k0 + cnt ops (i + 1) := by rw [hc, hal]; simp [Nat.add_assoc]
          rw [hk] at hrun
          obtain ⟨T', S', ht, hd⟩ := ih (i + 1) hos' (by omega) hrun
          obtain ⟨T, S, ht2⟩ := glue ht (fun y hy => List.mem_cons_of_mem _ hy) (fun T S h1 h2 h3 h4 => .inr (.inl ⟨by rw [h1]; exact hwn, hal, by rw [h1, h3]; rfl, by rw [h2, h4], by simp⟩))
          exact ⟨T, S, ht2, hd⟩
        · cases h
      · rename_i hal
        have hna : isAlloc o = false := by simpa using hal
        split at h
        · cases h
        · rename_i v σ1 hst
          split at h
          · rename_i x1 a1 σ2 rs1 hrun
            injection h with h; injection h with h1 h; injection h with h2 h; injection h with h3 h4
            subst h1; subst h2; subst h3; subst h4
            have hk : k0 + cnt ops i = k0 + cnt ops (i + 1) := by rw [hc, hna]; simp
            rw [hk] at hrun
            obtain ⟨T', S', ht, hd⟩ := ih (i + 1) hos' (by omega) hrun
            obtain ⟨T, S, ht2⟩ := glue ht (fun y hy => List.mem_cons_of_mem _ hy) (fun T S h1 h2 h3 h4 => .inr (.inr ⟨by rw [h1]; exact hwn, hna, v, by rw [h1, h2, h4]; exact hst, by rw [h1, h3]; rfl, by rw [h1, h2]; simp⟩))
            exact ⟨T, S, ht2, hd⟩
          · cases h
        · rename_i v σ1 hst
          injection h with h; injection h with h1 h; injection h with h2 h; injection h with h3 h4
          subst h1; subst h2; subst h3; subst h4
          exact ⟨fun _ => a.tmps, fun _ => σ, ⟨rfl, rfl, (fun h => by cases h), (fun p w h => by
            injection h with h; injection h with h1 h2; subst h1; subst h2
            exact ⟨Nat.le_refl _, hlt, fun j h1 h2 => by omega, o, ho, hwn, hna, hst, by simp⟩)⟩, rfl⟩
        · cases h
end Go.Lg
end
section
set_option linter.unusedSimpArgs false
set_option linter.unusedSectionVars false
namespace Go.Lg
variable [Rel]
variable {L : Look}
theorem hoist_spec (L : Look) : ∀ (os : List Oper) {σ σh : LH}, hoist L os σ = some σh →
    σh.toks = σ.toks ∧ σh.ws = σ.ws ∧ (∃ bs, σh.boxes = σ.boxes ++ bs ∧ bs.length = (os.filter isAlloc).length) ∧
    (∀ (j : Nat) (o : Oper), os[j]? = some o → isAlloc o = true → o.guard = none ∧ ∃ t z, o.op = .alloc t ∧ zeroLV L t = some z ∧ z.flat = true ∧ z.refOK (σ.boxes.length + ((os.take j).filter isAlloc).length + 1) = true ∧
      σh.boxes[σ.boxes.length + ((os.take j).filter isAlloc).length]? = some (.cells t z.cells)) ∧
    (∀ b o, σh.boxes[b]? = some o → σ.boxes.length ≤ b → o.refOK (b + 1)) := by
  intro os
  induction os with
  | nil =>
    intro σ σh h
    simp only [hoist] at h
    injection h with h; subst h
    exact ⟨rfl, rfl, ⟨[], by simp, rfl⟩, fun j o h => by simp at h, fun b o h hb => by rw [List.getElem?_eq_none hb] at h; cases h⟩
  | cons o os ih =>
    intro σ σh h
    by_cases ha : isAlloc o = true
    · have : ∃ t, o.op = .alloc t := by
        unfold isAlloc at ha
        split at ha
        · rename_i t ht; exact ⟨t, ht⟩
        · cases ha
      obtain ⟨t, ht⟩ := this
      simp only [hoist, ht] at h
      split at h
      · rename_i z hz
        split at h
        · rename_i hc
          obtain ⟨hfl, hrf, hgd⟩ := hc
          obtain ⟨h1, h2, ⟨bs, h3, h4⟩, h5, h6⟩ := ih h
          have hlen : ({ σ with boxes := σ.boxes ++ [LObj.cells t z.cells] } : LH).boxes.length = σ.boxes.length + 1 := by simp
          refine ⟨h1, h2, ⟨.cells t z.cells :: bs, by rw [h3]; simp, by simp [ha, h4]⟩, fun j o' hj ha' => ?_, fun b o' hb hle => ?_⟩
          · cases j with
            | zero =>
              simp at hj; subst hj
              refine ⟨hgd, t, z, ht, hz, hfl, by simpa using hrf, ?_⟩
              rw [h3]; simp
            | succ j =>
              have := h5 j o' (by simpa using hj) ha'
              simp only [hlen] at this
              simp only [List.take_succ_cons, List.filter_cons, ha, if_true, List.length_cons]
              rw [show σ.boxes.length + ((os.take j).filter isAlloc).length.succ = σ.boxes.length + 1 + ((os.take j).filter isAlloc).length by omega]
              exact this
          · rcases Nat.eq_or_lt_of_le hle with e | e
            · subst e
              rw [h3] at hb
              simp at hb
              subst hb
              show LV.refsOK _ _ = true
              rw [refOK_cells]; exact hrf
            · exact h6 b o' hb (by simp; omega)
        · cases h
      · cases h
    · have hh : hoist L (o :: os) σ = hoist L os σ := by
        unfold isAlloc at ha
        split at ha
        · exact absurd rfl ha
        · rename_i hn
          simp only [hoist]
      rw [hh] at h
      obtain ⟨h1, h2, ⟨bs, h3, h4⟩, h5, h6⟩ := ih h
      refine ⟨h1, h2, ⟨bs, h3, by simp [ha, h4]⟩, fun j o' hj ha' => ?_, h6⟩
      cases j with
      | zero => simp at hj; subst hj; exact absurd ha' ha
      | succ j =>
        have := h5 j o' (by simpa using hj) ha'
        simpa [List.filter_cons, ha] using this
theorem WR.hoist {w : World} {G : Gh} {σ σh : LH} {os : List Oper} (hw : WR G σ w) (h : Lg.hoist L os σ = some σh) :
    WR { G with top := σh.boxes.length } σh w ∧ Ext w G w { G with top := σh.boxes.length } := by
  obtain ⟨h1, h2, ⟨bs, h3, _⟩, _, h6⟩ := hoist_spec L os h
  have hle : σ.boxes.length ≤ σh.boxes.length := by rw [h3]; simp
  have e : Ext w G w { G with top := σh.boxes.length } := ⟨⟨fun _ _ x => x, fun _ _ x => x, fun _ => Nat.le_refl _, fun _ _ _ => rfl, fun _ _ x => x, Nat.le_refl _, fun _ _ => rfl, fun _ _ => rfl, Nt.refl w⟩, Nat.le_trans hw.top hle, fun _ _ h => .inl h⟩
  refine ⟨⟨⟨fun b B hb => ?_, hw.inj, hw.low, fun b o hb => ?_, hw.fresh, ?_, ?_, ?_, Nat.le_refl _, hw.fixm, ?_, hw.fixh⟩, fun b hl _ => hl⟩, e⟩
  · obtain ⟨o, ho, hr⟩ := hw.box b B hb
    exact ⟨o, by rw [h3, List.getElem?_append_left (hw.mudom hb)]; exact ho, hr.ext e rfl⟩
  · rcases Nat.lt_or_ge b σ.boxes.length with hlt | hge
    · rw [h3, List.getElem?_append_left hlt] at hb; exact objRef_mono (refB_mono hle) (hw.ref b o hb)
    · exact objRef_mono (le_refB (List.getElem?_eq_some_iff.1 hb).1) (h6 b o hb hge)
  · rw [h1]; exact hw.tok
  · rw [h1]; exact hw.tokinj
  · rw [h1]; exact hw.tokdom
  · rw [h1]; exact hw.fixt
end Go.Lg
end
section
set_option linter.unusedSimpArgs false
set_option linter.unusedSectionVars false
namespace Go.Lg
variable [Rel]
variable {L : Look}
def KindSpec (L : Look) (ef : LV → List LV → LH → Option CR) (tm : Tm) (o : Oper) (σ σ' : LH) (v : LV) : RK → Prop
  | .pure => σ' = σ ∧ ∀ σ2, opStep L (callSt ef) true tm o σ2 = some (.val v σ2)
  | .load b => σ' = σ ∧ (∃ t x oo, o.op = .load t x ∧ opv tm x = some (.ptr b oo)) ∧ (boxOf σ b).isSome = true ∧ ∀ σ2, boxOf σ2 b = boxOf σ b → opStep L (callSt ef) true tm o σ2 = some (.val v σ2)
  | .call => σ' = σ
  | .move ws => ∀ b, b < σ.boxes.length → b ∉ ws → σ'.boxes[b]? = σ.boxes[b]?
  | .alloc _ => False
def FlOK (L : Look) (ef : LV → List LV → LH → Option CR) : Prop := ∀ f l σ cr, isCf L f = true → ef f l σ = some cr → ∃ v, cr = .still (.ret v) ∧ ∀ σ2, ef f l σ2 = some cr
theorem flF_ok (ef : LV → List LV → LH → Option CR) : FlOK L (flF L ef) := fun f l σ cr hf h => by
  have e : ∀ σ2, flF L ef f l σ2 = flF L ef f l σ := fun σ2 => by simp only [flF, hf]
  refine ⟨cr.out.val, ?_, fun σ2 => (e σ2).trans h⟩
  · simp only [flF, hf] at h
    split at h
    · split at h
      · split at h
        · injection h with h; subst h; rfl
        · cases h
      · cases h
    · cases h
theorem kind_free {ef : LV → List LV → LH → Option CR} (hFl : FlOK L ef) (hM : ∀ f args σ cr, ef f args σ = some cr → Mod σ (cr.st σ)) {tm : Tm} {o : Oper} {σ σ' : LH} {v : LV} (hna : isAlloc o = false) (h : opStep L (callSt ef) true tm o σ = some (.val v σ')) :
    KindSpec L ef tm o σ σ' v (kindOf L ef tm o σ) := by
  obtain ⟨dst, op, type, pos, after, guard⟩ := o
  have snoc : ∀ (o : LObj) (b : Nat), b < σ.boxes.length → (σ.boxes ++ [o])[b]? = σ.boxes[b]? := fun o b hb => List.getElem?_append_left hb
  cases op with
  | alloc t => simp [isAlloc] at hna
  | box t x =>
    simp only [opStep] at h
    split at h
    · split at h
      · injection h with h; injection h with h1 h2; subst h2; exact fun b hb _ => snoc _ b hb
      · cases h
    · cases h
  | load t x =>
    simp only [opStep] at h
    cases hv : opv tm x with
    | none => simp [hv] at h
    | some a =>
      simp only [hv] at h
      cases hl : loadL L σ t a with
      | none => simp [hl] at h
      | some r =>
        simp only [hl] at h
        injection h with h; injection h with h1 h2; subst h1; subst h2
        have hk : kindOf L ef tm ⟨dst, .load t x, type, pos, after, guard⟩ σ = (match some a with | some (.ptr b _) => RK.load b | _ => RK.pure) := by simp only [kindOf, hv]; cases a <;> rfl
        rw [hk]
        cases a with
        | ptr b oo =>
          refine ⟨rfl, ⟨t, x, oo, rfl, hv⟩, ?_, fun σ2 h2 => ?_⟩
          · unfold loadL at hl
            cases hb : boxOf σ b with
            | none => simp [hb] at hl
            | some y => rfl
          · have : loadL L σ2 t (.ptr b oo) = loadL L σ t (.ptr b oo) := by simp only [loadL, h2]
            simp only [opStep, hv, this, hl]
        | ro cs =>
          refine ⟨rfl, fun σ2 => ?_⟩
          have : loadL L σ2 t (.ro cs) = loadL L σ t (.ro cs) := by simp only [loadL]
          simp only [opStep, hv, this, hl]
        | _ => simp [loadL] at hl
  | store t x y =>
    simp only [opStep] at h
    cases hv : opv tm x with
    | none => simp [hv] at h
    | some a =>
      simp only [hv] at h
      split at h
      · rename_i va vy hva hvy
        split at h
        · rename_i σ1 hst
          injection h with h; injection h with h1 h2; subst h2
          injection hva with hva; subst hva
          have hk : kindOf L ef tm ⟨dst, .store t x y, type, pos, after, guard⟩ σ = (match some a with | some (.ptr b _) => RK.move [b] | _ => RK.move []) := by simp only [kindOf, hv]; cases a <;> rfl
          rw [hk]
          unfold storeL at hst
          split at hst
          · rename_i b oo
            split at hst
            · split at hst
              · injection hst with hst; subst hst
                intro b' hb' hn
                simp at hn
                simp [List.getElem?_set, Ne.symm hn]
              · cases hst
            · cases hst
          · cases hst
        · cases h
      · cases h
  | makeSlice t x y =>
    simp only [opStep] at h
    split at h
    · split at h
      · rename_i v' σ1 hst
        injection h with h; injection h with h1 h2; subst h2
        unfold makeSliceL at hst
        split at hst
        · split at hst
          · split at hst
            · injection hst with hst; injection hst with h1 h2; subst h2; exact fun b hb _ => snoc _ b hb
            · cases hst
          · cases hst
        · cases hst
      · cases h
    · cases h
  | buildSlice t n ps =>
    simp only [opStep] at h
    cases hm : L.msl t dst with
    | true =>
      simp only [hm] at h
      split at h
      · rename_i vs hps
        split at h
        · rename_i v' σ1 hst
          injection h with h; injection h with h1 h2; subst h2
          simp only [kindOf, hm]
          unfold buildMsL at hst
          split at hst
          · split at hst
            · split at hst
              · split at hst
                · split at hst
                  · injection hst with hst; injection hst with h1 h2; subst h2; exact fun b hb _ => snoc _ b hb
                  · cases hst
                · cases hst
              · cases hst
            · cases hst
          · cases hst
        · cases h
      · cases h
    | false =>
      simp only [hm] at h
      split at h
      · rename_i v' hp
        injection h with h; injection h with h1 h2; subst h1; subst h2
        simp only [kindOf, hm]
        exact ⟨rfl, fun σ2 => by simp only [opStep, hm, hp]⟩
      · cases h
  | panic x =>
    simp only [opStep] at h
    split at h
    · injection h with h; cases h
    · cases h
  | defer c =>
    obtain ⟨callee, args, ats⟩ := c
    cases callee with
    | value f =>
      simp only [opStep] at h
      split at h
      · cases h
      · cases h
    | builtin b => simp [opStep, pureOp] at h
    | invoke r m => simp [opStep, pureOp] at h
  | call c =>
    obtain ⟨callee, args, ats⟩ := c
    cases callee with
    | value f =>
      simp only [opStep] at h
      cases hf : opv tm f with
      | none => simp [hf] at h
      | some vf =>
        cases hl : opvs tm args.toList with
        | none => simp [hf, hl] at h
        | some l =>
          simp only [hf, hl] at h
          cases hcr : ef vf l σ with
          | none => simp [callSt, hcr] at h
          | some cr =>
            simp only [callSt, hcr] at h
            have hmod := hM _ _ _ _ hcr
            cases hcf : isCf L vf with
            | true =>
              obtain ⟨u, rfl, hall⟩ := hFl _ _ _ _ hcf hcr
              simp only [CR.out, CR.st] at h
              injection h with h; injection h with h1 h2; subst h1; subst h2
              simp only [kindOf, hf, hl, hcf]
              exact ⟨rfl, fun σ2 => by simp only [opStep, hf, hl, callSt, hall σ2, CR.out, CR.st]⟩
            | false =>
            cases cr with
            | still r =>
              cases r with
              | ret u =>
                simp only [CR.out, CR.st] at h
                injection h with h; injection h with h1 h2
                simp only [kindOf, hf, hl, hcf, hcr]
                exact h2.symm
              | pan u => simp only [CR.out, CR.st] at h; injection h with h; cases h
            | moved r σ1 =>
              cases r with
              | ret u =>
                simp only [CR.out, CR.st] at h
                injection h with h; injection h with h1 h2; subst h2
                simp only [kindOf, hf, hl, hcf, hcr]
                obtain ⟨l', h3, h4⟩ := hmod.ws
                simp only [CR.st] at h3 h4
                intro b hb hn
                rw [h3] at hn
                simp at hn
                exact h4 b hb hn
              | pan u => simp only [CR.out, CR.st] at h; injection h with h; cases h
    | builtin b =>
      by_cases hb : b = .append
      · subst hb
        simp only [opStep] at h
        split at h
        · split at h
          · rename_i v' σ1 hst
            injection h with h; injection h with h1 h2; subst h2
            have : σ1.boxes = σ.boxes := by
              unfold appendL at hst
              split at hst
              · split at hst
                · split at hst
                  · split at hst
                    · injection hst with hst; injection hst with h1 h2; subst h2; rfl
                    · split at hst
                      · cases hst
                      · injection hst with hst; injection hst with h1 h2; subst h2; rfl
                      · split at hst
                        · injection hst with hst; injection hst with h1 h2; subst h2; rfl
                        · cases hst
                  · cases hst
                · cases hst
              · cases hst
            exact fun b _ _ => by rw [this]
          · cases h
        · cases h
      · have hk : kindOf L ef tm ⟨dst, .call ⟨.builtin b, args, ats⟩, type, pos, after, guard⟩ σ = .pure := by cases b <;> first | rfl | exact absurd rfl hb
        have hs : ∀ σ2, opStep L (callSt ef) true tm ⟨dst, .call ⟨.builtin b, args, ats⟩, type, pos, after, guard⟩ σ2 = (match pureOp L tm ⟨dst, .call ⟨.builtin b, args, ats⟩, type, pos, after, guard⟩ with | some v => some (OpR.val v σ2) | none => none) := fun σ2 => by
          cases b <;> first | rfl | exact absurd rfl hb
        rw [hk]
        rw [hs] at h
        split at h
        · rename_i v' hp
          injection h with h; injection h with h1 h2; subst h1; subst h2
          exact ⟨rfl, fun σ2 => by rw [hs, hp]⟩
        · cases h
    | invoke r m => simp [opStep, pureOp] at h
  | _ =>
    simp only [opStep] at h
    split at h
    · rename_i v' hp
      injection h with h; injection h with h1 h2; subst h1; subst h2
      exact ⟨rfl, fun σ2 => by simp only [opStep, hp]⟩
    · cases h
end Go.Lg
end
section
set_option linter.unusedSimpArgs false
set_option linter.unusedSectionVars false
namespace Go.Lg
variable [Rel]
variable {L : Look}
theorem StepAt.put {ef : LV → List LV → LH → Option CR} {ops : Array Oper} {k0 : Nat} {rs : List Rec} {T : Nat → Tm} {S : Nat → LH} {j : Nat} {o : Oper} (h : StepAt L ef ops k0 rs T S j o) : ∃ v, T (j + 1) = putL (T j) o.dst v := by
  rcases h with ⟨_, h, _⟩ | ⟨_, _, h, _⟩ | ⟨_, _, v, _, h, _⟩
  · exact ⟨_, h⟩
  · exact ⟨_, h⟩
  · exact ⟨_, h⟩
structure Ctx (L : Look) (ef : LV → List LV → LH → Option CR) (ops : Array Oper) (tm0 : Tm) (σh : LH) (k0 M : Nat) (T : Nat → Tm) (S : Nat → LH) (rs : List Rec) : Prop where
  hM : ∀ f args σ cr, ef f args σ = some cr → Mod σ (cr.st σ)
  hFl : FlOK L ef
  Mle : M ≤ ops.size
  t0 : T 0 = tm0
  s0 : S 0 = σh
  step : ∀ j, j < M → ∃ o, ops[j]? = some o ∧ StepAt L ef ops k0 rs T S j o
  st1 : ∀ (j : Nat) (o : Oper), ops[j]? = some o → ∀ e ∈ o.after.toList, Region.binds .any e = true → e.on < j
  st2 : ∀ (i j : Nat) (o o' : Oper) (d : Nat), ops[i]? = some o → ops[j]? = some o' → o'.dst = some d → i ≠ j → o.dst ≠ some d ∧ (d ∈ slotsOf ops o → bitOf (Region.before ops).toList i j = true ∨ bitOf (Region.before ops).toList j i = true)
  prs : ∀ x ∈ rs, ∀ y ∈ rs, x.i < y.i → pairOK (Region.before ops).toList x y = true
  al : ∀ (j : Nat) (o : Oper), ops[j]? = some o → isAlloc o = true → o.guard = none ∧ ∃ t z, o.op = .alloc t ∧ zeroLV L t = some z ∧ σh.boxes[k0 + cnt ops j]? = some (.cells t z.cells)
  pan : M < ops.size → (∀ i, M < i → i < ops.size → bitOf (Region.before ops).toList i M = true ∨ ∃ o, ops[i]? = some o ∧ isAlloc o = true) ∧ (⟨M, .move []⟩ : Rec) ∈ rs ∧ (∀ x ∈ rs, x.i ≤ M) ∧ ∀ (x : Nat) (ws : List Nat), (⟨x, .move ws⟩ : Rec) ∈ rs → ∀ b ∈ ws, b < k0 + cnt ops M ∨ k0 + cnt ops ops.size ≤ b
section
variable {ef : LV → List LV → LH → Option CR} {ops : Array Oper} {tm0 : Tm} {σh : LH} {k0 M : Nat} {T : Nat → Tm} {S : Nat → LH} {rs : List Rec}
theorem map_isSome' {α : Type} (x : Option α) (v : α) : (x.map fun _ => v).isSome = x.isSome := by cases x <;> rfl
theorem putL_some (tm : Tm) (dst : Option Tmp) (v : LV) (d : Nat) : ((putL tm dst v).get d).isSome = (tm.get d).isSome := by
  rw [putL_get]; split
  · exact map_isSome' _ _
  · rfl
theorem Ctx.tn (c : Ctx L ef ops tm0 σh k0 M T S rs) : ∀ i, i ≤ M → (T i).n = tm0.n ∧ ∀ d, ((T i).get d).isSome = (tm0.get d).isSome := by
  intro i
  induction i with
  | zero => intro _; rw [c.t0]; exact ⟨rfl, fun _ => rfl⟩
  | succ i ih =>
    intro hi
    obtain ⟨h1, h2⟩ := ih (by omega)
    obtain ⟨o, _, hs⟩ := c.step i (by omega)
    obtain ⟨v, hv⟩ := hs.put
    rw [hv]
    exact ⟨(putL_n _ _ _).trans h1, fun d => (putL_some _ _ _ _).trans (h2 d)⟩
theorem putL_other {tm : Tm} {dst : Option Tmp} {v : LV} {d : Nat} (h : dst ≠ some d) : (putL tm dst v).get d = tm.get d := by
  rw [putL_get, if_neg (fun e => h e.1)]
theorem Ctx.tno (c : Ctx L ef ops tm0 σh k0 M T S rs) {d : Nat} : ∀ i, i ≤ M → (∀ (j : Nat) (o : Oper), j < i → ops[j]? = some o → o.dst ≠ some d) → (T i).get d = tm0.get d := by
  intro i
  induction i with
  | zero => intro _ _; rw [c.t0]
  | succ i ih =>
    intro hi h
    obtain ⟨o, ho, hs⟩ := c.step i (by omega)
    obtain ⟨v, hv⟩ := hs.put
    rw [hv, putL_other (h i o (by omega) ho)]
    exact ih (by omega) fun j o hj => h j o (by omega)
theorem Ctx.tyes (c : Ctx L ef ops tm0 σh k0 M T S rs) {d j : Nat} {o : Oper} (ho : ops[j]? = some o) (hd : o.dst = some d) : ∀ i, j < i → i ≤ M → (T i).get d = (T (j + 1)).get d := by
  intro i
  induction i with
  | zero => intro h; omega
  | succ i ih =>
    intro hj hi
    rcases Nat.eq_or_lt_of_le (Nat.le_of_lt_succ hj) with e | e
    · subst e; rfl
    · obtain ⟨o', ho', hs⟩ := c.step i (by omega)
      obtain ⟨v, hv⟩ := hs.put
      rw [hv, putL_other (c.st2 i j o' o d ho' ho hd (by omega)).1]
      exact ih e (by omega)
def mv (rs : List Rec) (j : Nat) : Prop := ∃ ws, (⟨j, .move ws⟩ : Rec) ∈ rs
theorem Ctx.still (c : Ctx L ef ops tm0 σh k0 M T S rs) {j : Nat} (hj : j < M) (hn : ¬ mv rs j) : S (j + 1) = S j := by
  obtain ⟨o, ho, hs⟩ := c.step j hj
  rcases hs with ⟨_, _, h⟩ | ⟨_, _, _, h, _⟩ | ⟨_, hna, v, hst, _, hr⟩
  · exact h
  · exact h
  · have hk := kind_free c.hFl c.hM hna hst
    generalize kindOf L ef (T j) o (S j) = k at hk hr
    cases k with
    | pure => exact hk.1
    | load b => exact hk.1
    | call => exact hk
    | move ws => exact absurd ⟨ws, hr⟩ hn
    | alloc k => exact hk.elim
theorem Ctx.seg (c : Ctx L ef ops tm0 σh k0 M T S rs) {q : Nat} : ∀ i, q ≤ i → i ≤ M → (∀ j, q ≤ j → j < i → ¬ mv rs j) → S i = S q := by
  intro i
  induction i with
  | zero => intro h _ _; rw [Nat.le_zero.1 h]
  | succ i ih =>
    intro hq hi hn
    rcases Nat.eq_or_lt_of_le hq with e | e
    · rw [e]
    · rw [c.still (by omega) (hn i (by omega) (by omega))]
      exact ih (by omega) (by omega) fun j h1 h2 => hn j h1 (by omega)
end
end Go.Lg
end
section
set_option linter.unusedSimpArgs false
set_option linter.unusedSectionVars false
namespace Go.Lg
variable [Rel]
variable {L : Look}
section
variable {ef : LV → List LV → LH → Option CR} {ops : Array Oper} {tm0 : Tm} {σh : LH} {k0 M : Nat} {T : Nat → Tm} {S : Nat → LH} {rs : List Rec}
theorem Ctx.len (c : Ctx L ef ops tm0 σh k0 M T S rs) {i : Nat} : ∀ i', i ≤ i' → i' ≤ M → (S i).boxes.length ≤ (S i').boxes.length := by
  intro i'
  induction i' with
  | zero => intro h _; rw [Nat.le_zero.1 h]; exact Nat.le_refl _
  | succ i' ih =>
    intro h hM
    rcases Nat.eq_or_lt_of_le h with e | e
    · rw [e]; exact Nat.le_refl _
    · refine Nat.le_trans (ih (by omega) (by omega)) ?_
      obtain ⟨o, ho, hs⟩ := c.step i' (by omega)
      rcases hs with ⟨_, _, h⟩ | ⟨_, _, _, h, _⟩ | ⟨_, hna, v, hst, _, hr⟩
      · rw [h]; exact Nat.le_refl _
      · rw [h]; exact Nat.le_refl _
      · exact (opStep_mod c.hM hst).1.len
theorem Ctx.boxstep (c : Ctx L ef ops tm0 σh k0 M T S rs) {j : Nat} (hj : j < M) {b : Nat} (hb : b < (S j).boxes.length) (hn : ∀ ws, (⟨j, .move ws⟩ : Rec) ∈ rs → b ∉ ws) : (S (j + 1)).boxes[b]? = (S j).boxes[b]? := by
  obtain ⟨o, ho, hs⟩ := c.step j hj
  rcases hs with ⟨_, _, h⟩ | ⟨_, _, _, h, _⟩ | ⟨_, hna, v, hst, _, hr⟩
  · rw [h]
  · rw [h]
  · have hk := kind_free c.hFl c.hM hna hst
    generalize kindOf L ef (T j) o (S j) = k at hk hr
    cases k with
    | pure => rw [hk.1]
    | load b => rw [hk.1]
    | call => rw [show S (j + 1) = S j from hk]
    | move ws => exact hk b hb (hn ws hr)
    | alloc k => exact hk.elim
theorem Ctx.boxseg (c : Ctx L ef ops tm0 σh k0 M T S rs) {q b : Nat} (hb : b < (S q).boxes.length) : ∀ i, q ≤ i → i ≤ M → (∀ j, q ≤ j → j < i → ∀ ws, (⟨j, .move ws⟩ : Rec) ∈ rs → b ∉ ws) → (S i).boxes[b]? = (S q).boxes[b]? := by
  intro i
  induction i with
  | zero => intro h _ _; rw [Nat.le_zero.1 h]
  | succ i ih =>
    intro h hM hn
    rcases Nat.eq_or_lt_of_le h with e | e
    · rw [e]
    · rw [c.boxstep (by omega) (Nat.lt_of_lt_of_le hb (c.len i (by omega) (by omega))) (hn i (by omega) (by omega))]
      exact ih (by omega) (by omega) fun j h1 h2 => hn j h1 (by omega)
theorem cnt_le (ops : Array Oper) {i j : Nat} (h : i ≤ j) : cnt ops i ≤ cnt ops j := by
  unfold cnt
  have : (ops.toList.take i).Sublist (ops.toList.take j) := by
    rw [show i = min i j by omega, ← List.take_take]
    exact List.take_sublist _ _
  exact (this.filter _).length_le
theorem cnt_lt {ops : Array Oper} {i j : Nat} {o : Oper} (ho : ops[i]? = some o) (ha : isAlloc o = true) (h : i < j) : cnt ops i < cnt ops j := by
  have h1 := cnt_succ ho
  rw [ha] at h1
  have h2 := cnt_le ops (show i + 1 ≤ j by omega)
  simp at h1
  omega
theorem Ctx.tout (c : Ctx L ef ops tm0 σh k0 M T S rs) {d : Nat} (hd : tm0.n ≤ d) : ∀ i, i ≤ M → (T i).get d = tm0.get d := by
  intro i
  induction i with
  | zero => intro _; rw [c.t0]
  | succ i ih =>
    intro hi
    obtain ⟨o, ho, hs⟩ := c.step i (by omega)
    obtain ⟨v, hv⟩ := hs.put
    rw [hv, putL_get, if_neg (fun h => by have := (c.tn i (by omega)).1; omega)]
    exact ih (by omega)
def lst (listed : Array Bool) (j : Nat) : Prop := listed.getD j false = true
structure Inv (c : Ctx L ef ops tm0 σh k0 M T S rs) (w0 : World) (G0 : Gh) (df : List LDef) (listed : Array Bool) (q : Nat) (tm : Tm) (w : World) (G : Gh) (act : Act) : Prop where
  sz : listed.size = ops.size
  cl : ∀ (j : Nat) (o : Oper), ops[j]? = some o → lst listed j → ∀ e ∈ o.after.toList, Region.binds .any e = true → lst listed e.on
  lt : ∀ j, lst listed j → j < M ∨ (M < j ∧ ∃ o, ops[j]? = some o ∧ isAlloc o = true)
  qle : q ≤ M
  m1 : ∀ j, lst listed j → mv rs j → j < q
  m2 : ∀ j, j < M → ¬ lst listed j → mv rs j → q ≤ j
  ar : AR w G ⟨tm, df⟩ act
  wr : WR G (S q) w
  nn : tm.n = tm0.n
  s1 : ∀ (j : Nat) (o : Oper) (d : Nat), j < M → lst listed j → ops[j]? = some o → o.dst = some d → tm.get d = (T M).get d
  s2 : ∀ d, (∀ (j : Nat) (o : Oper), lst listed j → ops[j]? = some o → o.dst ≠ some d) → tm.get d = tm0.get d
  s3 : ∀ d, tm0.n ≤ d → tm.get d = tm0.get d
  mu : ∀ (j : Nat) (o : Oper), ops[j]? = some o → isAlloc o = true → ¬ lst listed j → G.mu (k0 + cnt ops j) = none
  top : σh.boxes.length ≤ G.top
  ex : Ext0 w0 G0 w G
  nw : ∀ b B, G.mu b = some B → G0.mu b = some B ∨ k0 ≤ b
theorem ready_iff {listed : Array Bool} {j : Nat} (hsz : listed.size = ops.size) : j ∈ Region.ready .any ops listed ↔ ∃ o, ops[j]? = some o ∧ ¬ lst listed j ∧ ∀ e ∈ o.after.toList, Region.binds .any e = true → lst listed e.on := by
  unfold Region.ready lst
  simp only [List.mem_filter, List.mem_range, Bool.and_eq_true, Bool.not_eq_true']
  constructor
  · rintro ⟨h1, h2, h3⟩
    have ho : ops[j]? = some ops[j] := by simp [h1]
    refine ⟨ops[j], ho, ?_, fun e he hb => ?_⟩
    · simp only [Array.getD_eq_getD_getElem?] at h2 ⊢
      have : j < listed.size := by omega
      simp [this] at h2 ⊢; exact h2
    · rw [ho] at h3
      simp only [Option.map_some, Option.getD_some, Array.all_eq_true'] at h3
      have := h3 e (by simpa using he)
      simpa [hb] using this
  · rintro ⟨o, ho, h2, h3⟩
    have hlt : j < ops.size := (Array.getElem?_eq_some_iff.1 ho).1
    refine ⟨hlt, ?_, ?_⟩
    · simp only [Array.getD_eq_getD_getElem?] at h2 ⊢
      have : j < listed.size := by omega
      simp [this] at h2 ⊢; exact h2
    · rw [ho]
      simp only [Option.map_some, Option.getD_some, Array.all_eq_true']
      intro e he
      by_cases hb : Region.binds .any e = true
      · simp only [hb, Bool.not_true, Bool.false_or]; exact h3 e (by simpa using he) hb
      · simp [hb]
variable {w0 w : World} {G0 G : Gh} {df : List LDef} {listed : Array Bool} {q : Nat} {tm : Tm} {act : Act}
theorem Inv.before {c : Ctx L ef ops tm0 σh k0 M T S rs} (v : Inv c w0 G0 df listed q tm w G act) {j : Nat} (hj : j ∈ Region.ready .any ops listed) {i : Nat} (hb : bitOf (Region.before ops).toList j i = true) : i < j ∧ lst listed i := by
  obtain ⟨o, ho, h1, h2⟩ := (ready_iff v.sz).1 hj
  have := anc_closed (lst := fun x => lst listed x ∨ x = j) c.st1 (fun x o' ho' hx e he hbe => by
    rcases hx with hx | rfl
    · exact .inl (v.cl x o' ho' hx e he hbe)
    · rw [ho] at ho'; injection ho' with ho'; subst ho'
      exact .inl (h2 e he hbe)) j i hb
  refine ⟨this.1, ?_⟩
  rcases this.2 (.inr rfl) with h | h
  · exact h
  · omega
theorem Inv.behind {c : Ctx L ef ops tm0 σh k0 M T S rs} (v : Inv c w0 G0 df listed q tm w G act) {j i : Nat} (hj : ¬ lst listed j) (hb : bitOf (Region.before ops).toList i j = true) : ¬ lst listed i :=
  fun hi => hj ((anc_closed (lst := lst listed) c.st1 v.cl i j hb).2 hi)
theorem Inv.fresh {c : Ctx L ef ops tm0 σh k0 M T S rs} (v : Inv c w0 G0 df listed q tm w G act) {j : Nat} {o : Oper} (ho : ops[j]? = some o) (hn : ¬ lst listed j) (hjM : j ≤ M) {d : Nat} (hd : o.dst = some d) : tm.get d = tm0.get d ∧ (T j).get d = tm0.get d := by
  have hne : ∀ (i : Nat) (o' : Oper), i ≠ j → ops[i]? = some o' → o'.dst ≠ some d := fun i o' hij ho' => (c.st2 i j o' o d ho' ho hd hij).1
  exact ⟨v.s2 d fun i o' hi ho' => hne i o' (fun e => hn (e ▸ hi)) ho', c.tno j hjM fun i o' hi ho' => hne i o' (by omega) ho'⟩
theorem Inv.slots {c : Ctx L ef ops tm0 σh k0 M T S rs} (v : Inv c w0 G0 df listed q tm w G act) {j : Nat} {o : Oper} (hj : j ∈ Region.ready .any ops listed) (ho : ops[j]? = some o) (hjM : j ≤ M) : ∀ d ∈ slotsOf ops o, tm.get d = (T j).get d := by
  intro d hd
  have hn : ¬ lst listed j := by obtain ⟨_, _, h, _⟩ := (ready_iff v.sz).1 hj; exact h
  by_cases hex : ∃ (j' : Nat) (o' : Oper), ops[j']? = some o' ∧ o'.dst = some d
  · obtain ⟨j', o', ho', hd'⟩ := hex
    by_cases hjj : j' = j
    · subst hjj
      obtain ⟨h1, h2⟩ := v.fresh ho' hn hjM hd'
      rw [h1, h2]
    · have hne : ∀ (i : Nat) (o2 : Oper), i ≠ j' → ops[i]? = some o2 → o2.dst ≠ some d := fun i o2 hij ho2 => (c.st2 i j' o2 o' d ho2 ho' hd' hij).1
      rcases (c.st2 j j' o o' d ho ho' hd' (Ne.symm hjj)).2 hd with hb | hb
      · obtain ⟨h1, h2⟩ := v.before hj hb
        rw [v.s1 j' o' d (by omega) h2 ho' hd', c.tyes ho' hd' M (by omega) (Nat.le_refl _), c.tyes ho' hd' j h1 hjM]
      · have hnl := v.behind hn hb
        have hlt : j < j' := (anc_closed (lst := lst listed) c.st1 v.cl j' j hb).1
        rw [v.s2 d (fun i o2 hi ho2 => hne i o2 (fun e => hnl (e ▸ hi)) ho2), c.tno j hjM (fun i o2 hi ho2 => hne i o2 (by omega) ho2)]
  · have hne : ∀ (i : Nat) (o2 : Oper), ops[i]? = some o2 → o2.dst ≠ some d := fun i o2 ho2 e => hex ⟨i, o2, ho2, e⟩
    rw [v.s2 d (fun i o2 hi ho2 => hne i o2 ho2), c.tno j hjM (fun i o2 hi ho2 => hne i o2 ho2)]
theorem Inv.atMove {c : Ctx L ef ops tm0 σh k0 M T S rs} (v : Inv c w0 G0 df listed q tm w G act) {j : Nat} (hj : j ∈ Region.ready .any ops listed) (hjM : j ≤ M) (hm : mv rs j) : q ≤ j ∧ S j = S q := by
  have hn : ¬ lst listed j := by obtain ⟨_, _, h, _⟩ := (ready_iff v.sz).1 hj; exact h
  have hq : q ≤ j := by
    rcases Nat.lt_or_ge j M with h | h
    · exact v.m2 j h hn hm
    · exact Nat.le_trans v.qle h
  refine ⟨hq, c.seg j hq hjM fun x h1 h2 hx => ?_⟩
  obtain ⟨ws, hw⟩ := hm
  obtain ⟨ws', hw'⟩ := hx
  have hp := c.prs _ hw' _ hw h2
  simp only [pairOK, Bool.and_eq_true, Bool.or_eq_true, Bool.false_eq_true, or_false] at hp
  obtain ⟨_, hl⟩ := v.before hj hp.2
  have := v.m1 x hl ⟨ws', hw'⟩
  omega
theorem Inv.atCall {c : Ctx L ef ops tm0 σh k0 M T S rs} (v : Inv c w0 G0 df listed q tm w G act) {j : Nat} (hj : j ∈ Region.ready .any ops listed) (hjM : j < M) (hm : ¬ mv rs j) (hr : (⟨j, .call⟩ : Rec) ∈ rs) : S j = S q := by
  have hn : ¬ lst listed j := by obtain ⟨_, _, h, _⟩ := (ready_iff v.sz).1 hj; exact h
  rcases Nat.le_total q j with h | h
  · refine c.seg j h (by omega) fun x h1 h2 hx => ?_
    obtain ⟨ws', hw'⟩ := hx
    have hp := c.prs _ hw' _ hr h2
    simp only [pairOK, Bool.and_eq_true, Bool.or_eq_true, Bool.false_eq_true, or_false] at hp
    obtain ⟨_, hl⟩ := v.before hj hp.2
    have := v.m1 x hl ⟨ws', hw'⟩
    omega
  · refine (c.seg q h v.qle fun x h1 h2 hx => ?_).symm
    obtain ⟨ws', hw'⟩ := hx
    rcases Nat.eq_or_lt_of_le h1 with e | e
    · subst e; exact hm ⟨ws', hw'⟩
    · have hp := c.prs _ hr _ hw' e
      simp only [pairOK, Bool.and_eq_true, Bool.or_eq_true, Bool.false_eq_true, or_false] at hp
      have hnl := v.behind hn hp.2
      have := v.m2 x (by have := v.qle; omega) hnl ⟨ws', hw'⟩
      omega
theorem Inv.atLoad {c : Ctx L ef ops tm0 σh k0 M T S rs} (v : Inv c w0 G0 df listed q tm w G act) {j b : Nat} (hj : j ∈ Region.ready .any ops listed) (hjM : j < M) (hm : ¬ mv rs j) (hr : (⟨j, .load b⟩ : Rec) ∈ rs) (hb : b < (S q).boxes.length) (hb' : b < (S j).boxes.length) : (S q).boxes[b]? = (S j).boxes[b]? := by
  have hn : ¬ lst listed j := by obtain ⟨_, _, h, _⟩ := (ready_iff v.sz).1 hj; exact h
  rcases Nat.le_total q j with h | h
  · refine (c.boxseg hb j h (by omega) fun x h1 h2 ws hw => ?_).symm
    have hp := c.prs _ hw _ hr h2
    simp only [pairOK, Bool.and_eq_true, Bool.or_eq_true] at hp
    rcases hp.2 with hp | hp
    · obtain ⟨_, hl⟩ := v.before hj hp
      have := v.m1 x hl ⟨ws, hw⟩
      omega
    · simpa using hp
  · refine c.boxseg hb' q h v.qle fun x h1 h2 ws hw => ?_
    rcases Nat.eq_or_lt_of_le h1 with e | e
    · subst e; exact absurd ⟨ws, hw⟩ hm
    · have hp := c.prs _ hr _ hw e
      simp only [pairOK, Bool.and_eq_true, Bool.or_eq_true] at hp
      rcases hp.2 with hp | hp
      · have hnl := v.behind hn hp
        have := v.m2 x (by have := v.qle; omega) hnl ⟨ws, hw⟩
        omega
      · simpa using hp
theorem Inv.atAlloc {c : Ctx L ef ops tm0 σh k0 M T S rs} (v : Inv c w0 G0 df listed q tm w G act) {j k : Nat} (hj : j ∈ Region.ready .any ops listed) (hr : (⟨j, .alloc k⟩ : Rec) ∈ rs) (hk : k < σh.boxes.length) : (S q).boxes[k]? = σh.boxes[k]? := by
  have hn : ¬ lst listed j := by obtain ⟨_, _, h, _⟩ := (ready_iff v.sz).1 hj; exact h
  rw [← c.s0]
  refine c.boxseg (by rw [c.s0]; exact hk) q (Nat.zero_le _) v.qle fun x h1 h2 ws hw => ?_
  have hx : lst listed x := by
    rcases Classical.em (lst listed x) with h | h
    · exact h
    · have := v.m2 x (by have := v.qle; omega) h ⟨ws, hw⟩
      omega
  rcases Nat.lt_trichotomy x j with e | e | e
  · have hp := c.prs _ hw _ hr e
    simp only [pairOK, Bool.and_eq_true] at hp
    simpa using hp.1
  · subst e; exact absurd hx hn
  · have hp := c.prs _ hr _ hw e
    simp only [pairOK, Bool.and_eq_true, Bool.or_eq_true] at hp
    rcases hp.2 with hp | hp
    · exact absurd hx (v.behind hn hp)
    · simpa using hp
theorem Inv.lateBox {c : Ctx L ef ops tm0 σh k0 M T S rs} (v : Inv c w0 G0 df listed q tm w G act) {j : Nat} {o : Oper} (hjM : M < j) (ho : ops[j]? = some o) (hal : isAlloc o = true) (hk : k0 + cnt ops j < σh.boxes.length) : (S q).boxes[k0 + cnt ops j]? = σh.boxes[k0 + cnt ops j]? := by
  have hjs : j < ops.size := (Array.getElem?_eq_some_iff.1 ho).1
  obtain ⟨_, _, hM, hws⟩ := c.pan (by omega)
  rw [← c.s0]
  refine c.boxseg (by rw [c.s0]; exact hk) q (Nat.zero_le _) v.qle fun x h1 h2 ws hw hin => ?_
  have a1 : cnt ops M ≤ cnt ops j := cnt_le ops (by omega)
  have a2 : cnt ops j < cnt ops ops.size := cnt_lt ho hal hjs
  rcases hws x ws hw _ hin with h | h <;> omega
end
end Go.Lg
end
