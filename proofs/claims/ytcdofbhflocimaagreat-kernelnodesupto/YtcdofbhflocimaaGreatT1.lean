/- Part 1 of the proof: Kg6 Kg7 Kg8 Kg9 Kg10 Kg11 Kg12 Kg13. By AI agents; no person has read it. -/
import Derived.Laws.Tables
import Derived.ChangeKeysEq
import Derived.Test.YtcdofbhflocimaaGreatT0
set_option linter.unusedVariables false
set_option linter.unusedSimpArgs false
set_option linter.unusedSectionVars false
section
set_option linter.unusedSimpArgs false
set_option linter.unusedSectionVars false
namespace Go.Lg
variable [Rel]
variable {L : Look} {w : World} {G : Gh}
structure TyOK (P : Program) (t : TypeId) (y : TyL) : Prop where
  und : P.underlying t = some y.desc
  info : ∃ i, P.info? t = some i ∧ i.size = y.size ∧ i.bytes = y.bytes ∧ ∀ z, y.zero = some z → ∃ v, i.zero = some v ∧ ofV v = some z
structure FnOK (P : Program) (g : FuncId) (y : FnL) : Prop where
  ex : ∃ fn, P.funcs[g]? = some fn ∧ fn.body = some y.body ∧ fn.ntmps = y.ntmps ∧ fn.results.toList = y.results
  call : ∀ (args : Array Value) (w : World), (callFunc g args).run P w = .ok (.enter g args) w
structure LookOK (L : Look) : Prop where
  ty : ∀ t y, L.tyOf t = some y → TyOK L.P t y
  fn : ∀ g y, L.fnOf g = some y → FnOK L.P g y
  mixed : L.P.follows .mixedOrders = true
theorem und_sound (hL : LookOK L) {t : TypeId} {d : TypeDesc} (h : L.und t = some d) : L.P.underlying t = some d := by
  unfold Look.und at h
  split at h
  · rename_i y hy; injection h with h; subst h; exact (hL.ty t y hy).und
  · cases h
theorem size_info (hL : LookOK L) {t : TypeId} {s : Nat} (h : sizeL L t = some s) : ∃ i, L.P.info? t = some i ∧ i.size = s := by
  unfold sizeL at h
  split at h
  · rename_i y hy; injection h with h; subst h
    obtain ⟨i, h1, h2, _⟩ := (hL.ty t y hy).info; exact ⟨i, h1, h2⟩
  · cases h
theorem zero_info (hL : LookOK L) {t : TypeId} {z : LV} (h : zeroLV L t = some z) : ∃ i v, L.P.info? t = some i ∧ i.zero = some v ∧ ofV v = some z := by
  unfold zeroLV at h
  split at h
  · rename_i y hy
    obtain ⟨i, h1, _, _, h4⟩ := (hL.ty t y hy).info
    obtain ⟨v, h5, h6⟩ := h4 z h
    exact ⟨i, v, h1, h5, h6⟩
  · cases h
theorem rSize (hL : LookOK L) {t : TypeId} {s : Nat} (h : sizeL L t = some s) (w : World) : (sizeOf t).run L.P w = .ok s w := by
  obtain ⟨i, h1, rfl⟩ := size_info hL h
  simp [sizeOf, run_typeInfo w h1]
theorem rZero (hL : LookOK L) {t : TypeId} {z : LV} (h : zeroLV L t = some z) (w : World) : ∃ v, (zeroValue t).run L.P w = .ok v w ∧ ofV v = some z := by
  obtain ⟨i, v, h1, h2, h3⟩ := zero_info hL h
  exact ⟨v, by simp [zeroValue, run_typeInfo w h1, h2], h3⟩
theorem rUnd (hL : LookOK L) {t : TypeId} {d : TypeDesc} (h : L.und t = some d) (w : World) : (underlying t).run L.P w = .ok d w := run_underlying (und_sound hL h) w
theorem rAgg (hL : LookOK L) {t : TypeId} {b : Bool} (h : isAggL L t = some b) (w : World) : (isAgg t).run L.P w = .ok b w := by
  unfold isAggL at h
  split at h
  · rename_i fs hu; injection h with h; subst h; simp [isAgg, rUnd hL hu]
  · rename_i n e hu; injection h with h; subst h; simp [isAgg, rUnd hL hu]
  · rename_i d hn1 hn2 hu
    injection h with h; subst h
    simp only [isAgg, Sem.run_bind, rUnd hL hu, Result.andThen_ok]
    first | (split <;> simp_all) | rfl
  · cases h
theorem semPure?_sound {α : Type} {P : Program} {s : Sem α} {v : α} (h : semPure? P s = some v) (w : World) : s.run P w = .ok v w := by
  induction s generalizing w with
  | pure a => simp [semPure?] at h; subst h; rfl
  | program k ih => simp only [semPure?] at h; simp only [Sem.run]; exact ih _ h w
  | _ => simp [semPure?] at h
theorem VRs.nil : VRs w G [] [] := ⟨rfl, fun j x v h => by simp at h⟩
theorem VRs.cons {x : LV} {v : Value} {xs : List LV} {vs : List Value} (h : VR w G x v) (hs : VRs w G xs vs) : VRs w G (x :: xs) (v :: vs) := by
  refine ⟨by simp [hs.1], fun j y u hy hu => ?_⟩
  cases j with
  | zero => simp at hy hu; subst hy; subst hu; exact h
  | succ j => simp at hy hu; exact hs.2 j y u hy hu
theorem VRs.get {xs : List LV} {vs : List Value} (h : VRs w G xs vs) {j : Nat} {x : LV} (hx : xs[j]? = some x) : ∃ v, vs[j]? = some v ∧ VR w G x v := by
  have hlt : j < vs.length := h.1 ▸ (List.getElem?_eq_some_iff.1 hx).1
  exact ⟨vs[j], by simp [hlt], h.2 j x vs[j] hx (by simp [hlt])⟩
theorem VRs.append {xs ys : List LV} {us vs : List Value} (h : VRs w G xs us) (h' : VRs w G ys vs) : VRs w G (xs ++ ys) (us ++ vs) := by
  refine ⟨by simp [h.1, h'.1], fun j x v hx hv => ?_⟩
  simp only [List.getElem?_append] at hx hv
  rw [h.1] at hx
  split at hx
  · rename_i hlt; rw [if_pos hlt] at hv; exact h.2 j x v hx hv
  · rename_i hlt; rw [if_neg hlt] at hv; exact h'.2 _ x v hx hv
theorem VRs.take {xs : List LV} {vs : List Value} (h : VRs w G xs vs) (n : Nat) : VRs w G (xs.take n) (vs.take n) := by
  refine ⟨by simp [h.1], fun j x v hx hv => ?_⟩
  simp only [List.getElem?_take] at hx hv
  split at hx
  · rename_i hlt; rw [if_pos hlt] at hv; exact h.2 j x v hx hv
  · cases hx
theorem VRs.drop {xs : List LV} {vs : List Value} (h : VRs w G xs vs) (n : Nat) : VRs w G (xs.drop n) (vs.drop n) := by
  refine ⟨by simp [h.1], fun j x v hx hv => ?_⟩
  simp only [List.getElem?_drop] at hx hv
  exact h.2 _ x v hx hv
theorem VRs.agg {cs : List LV} {vs : List Value} (h : VRs w G cs vs) : VR w G (.agg cs) (.agg vs.toArray) :=
  .agg cs _ (by simpa using h.1) fun j x v hx hv => h.2 j x v hx (by simpa using hv)
theorem VR.agg_inv {cs : List LV} {v : Value} (h : VR w G (.agg cs) v) : ∃ vs, v = .agg vs ∧ VRs w G cs vs.toList := by
  cases h with
  | agg _ vs hl h => exact ⟨vs, rfl, by simpa using hl, fun j x u hx hu => h j x u hx (by simpa using hu)⟩
theorem VR.tuple_inv {cs : List LV} {v : Value} (h : VR w G (.tuple cs) v) : ∃ vs, v = .tuple vs ∧ VRs w G cs vs.toList := by
  cases h with
  | tuple _ vs hl h => exact ⟨vs, rfl, by simpa using hl, fun j x u hx hu => h j x u hx (by simpa using hu)⟩
theorem VRs.tuple {cs : List LV} {vs : List Value} (h : VRs w G cs vs) : VR w G (.tuple cs) (.tuple vs.toArray) :=
  .tuple cs _ (by simpa using h.1) fun j x v hx hv => h.2 j x v hx (by simpa using hv)
theorem VR.cells {x : LV} {v : Value} (h : VR w G x v) (hf : x.flat = true) : VRs w G x.cells v.cells.toList ∧ x.wd = v.cells.size := by
  cases h with
  | agg cs vs hl h => exact ⟨⟨by simpa [LV.cells, Value.cells] using hl, fun j y u hy hu => h j y u hy (by simpa [Value.cells] using hu)⟩, by simpa [LV.wd, Value.cells] using hl⟩
  | tuple cs vs hl h => simp [LV.flat, LV.cells, LV.scalar] at hf
  | junk v => simp [LV.flat, LV.cells, LV.scalar] at hf
  | bool b => exact ⟨VRs.cons (.bool b) VRs.nil, rfl⟩
  | int k n => exact ⟨VRs.cons (.int k n) VRs.nil, rfl⟩
  | str s => exact ⟨VRs.cons (.str s) VRs.nil, rfl⟩
  | nilp => exact ⟨VRs.cons .nilp VRs.nil, rfl⟩
  | ptr b o B h => exact ⟨VRs.cons (.ptr b o B h) VRs.nil, rfl⟩
  | ro cs B o f h hv => exact ⟨VRs.cons (.ro cs B o f h hv) VRs.nil, rfl⟩
  | slice xs own nz a cap s f h1 h2 h3 h4 h5 h6 h7 h8 => exact ⟨VRs.cons (.slice xs own nz a cap s f h1 h2 h3 h4 h5 h6 h7 h8) VRs.nil, rfl⟩
  | mslice b o len cap B h => exact ⟨VRs.cons (.mslice b o len cap B h) VRs.nil, rfl⟩
  | func g fs cs fs' cs' h1 h2 h3 h4 => exact ⟨VRs.cons (.func g fs cs fs' cs' h1 h2 h3 h4) VRs.nil, rfl⟩
  | yield l L h => exact ⟨VRs.cons (.yield l L h) VRs.nil, rfl⟩
  | nilFunc => exact ⟨VRs.cons .nilFunc VRs.nil, rfl⟩
  | iface t x v h => exact ⟨VRs.cons (.iface t x v h) VRs.nil, rfl⟩
  | nilIface => exact ⟨VRs.cons .nilIface VRs.nil, rfl⟩
theorem wd_cells {x : LV} : x.cells.length = x.wd := by cases x <;> rfl
theorem flat_scalar {x : LV} (h : x.flat = true) : ∀ c ∈ x.cells, c.scalar = true := by simpa [LV.flat] using h
theorem VR.cells_scalar {x : LV} {v : Value} (h : VR w G x v) (hf : x.flat = true) : ∀ u ∈ v.cells.toList, Value.scalar' u = true := by
  obtain ⟨hc, _⟩ := h.cells hf
  intro u hu
  obtain ⟨j, hj⟩ := List.getElem?_of_mem hu
  have hlt : j < x.cells.length := hc.1 ▸ (List.getElem?_eq_some_iff.1 hj).1
  exact scalar_of (hc.2 j x.cells[j] u (by simp [hlt]) hj) (flat_scalar hf _ (List.getElem_mem hlt))
theorem ofV1_sound {v : Value} {x : LV} (h : ofV1 v = some x) : VR w G x v ∧ x.flat = true ∧ x.refOK 0 = true := by
  unfold ofV1 at h
  split at h <;> try (injection h with h; subst h)
  · exact ⟨.bool _, rfl, rfl⟩
  · exact ⟨.int _ _, rfl, rfl⟩
  · exact ⟨.str _, rfl, rfl⟩
  · exact ⟨.nilp, rfl, rfl⟩
  · exact ⟨.slice [] .exact (some true) none 0 0 (fun _ _ => undef) (Nat.le_refl _) (by simp) (by simp) (by simp) (by simp) rfl (by simp) (by simp), rfl, rfl⟩
  · exact ⟨.nilFunc, rfl, rfl⟩
  · exact ⟨.nilIface, rfl, rfl⟩
  · rename_i f fs cs
    split at h
    · rename_i hs
      injection h with h; subst h
      exact ⟨.func f [] [] fs cs (by simp [hs.1]) (by simp [hs.2]) (by simp) (by simp), rfl, rfl⟩
    · cases h
  · cases h
theorem ofV_sound {v : Value} {x : LV} (h : ofV v = some x) : VR w G x v := by
  unfold ofV at h
  split at h
  · rename_i cs
    cases hm : cs.toList.mapM ofV1 with
    | none => simp [hm] at h
    | some xs =>
      simp [hm] at h; subst h
      refine .agg xs cs ?_ ?_
      · have := mapM_some_length hm; simpa using this
      · intro j x u hx hu
        have := mapM_some_get hm j u (by simpa using hu)
        rw [hx] at this
        exact (ofV1_sound this).1
  · exact (ofV1_sound h).1
theorem TR.eval {tm : Tm} {a : Act} (ht : TR w G tm a.tmps) {t : Tmp} {v : LV} (h : tm.get t = some v) : VR w G v (a.eval (.tmp t)) := ht.get t v h
theorem opv_sound {tm : Tm} {a : Act} (ht : TR w G tm a.tmps) {x : Operand} {v : LV} (h : opv tm x = some v) : VR w G v (a.eval x) := by
  cases x with
  | tmp t => exact ht.get t v h
  | const c => exact ofV_sound h
  | global g => simp [opv] at h
  | func f => simp only [opv] at h; injection h with h; subst h; exact .func f [] [] #[] #[] rfl rfl (by simp) (by simp)
theorem opvs_sound {tm : Tm} {a : Act} (ht : TR w G tm a.tmps) : ∀ {xs : List Operand} {vs : List LV}, opvs tm xs = some vs → VRs w G vs (xs.map a.eval)
  | [], vs, h => by simp [opvs] at h; subst h; exact VRs.nil
  | x :: xs, vs, h => by
    simp only [opvs] at h
    split at h
    · rename_i v vs' h1 h2
      injection h with h; subst h
      exact VRs.cons (opv_sound ht h1) (opvs_sound ht h2)
    · cases h
theorem foldl_put (off : Nat) : ∀ (l : List Value) (k : Nat) (cs : Array Value), (l.zipIdx k).foldl (fun cs (p : Value × Nat) => cs.setIfInBounds (off + p.2) p.1) cs = putCells cs (off + k) l
  | [], k, cs => rfl
  | v :: l, k, cs => by
    simp only [List.zipIdx_cons, List.foldl_cons, putCells]
    rw [foldl_put off l (k + 1)]
    rfl
theorem VRs.put {cs ys : List LV} {c : Array Value} {vs : List Value} (h : VRs w G cs c.toList) (h' : VRs w G ys vs) {o : Nat} (ho : o + ys.length ≤ cs.length) :
    VRs w G (setRange cs o ys) (putCells c o vs).toList := by
  have hl : cs.length = c.size := by simpa using h.1
  refine ⟨by simp [setRange, putCells_size]; omega, fun j x v hx hv => ?_⟩
  have hv' : (putCells c o vs)[j]? = some v := by simpa using hv
  rw [putCells_get vs c o j (by rw [← h'.1]; omega)] at hv'
  simp only [setRange, List.getElem?_append, List.length_append, List.length_take] at hx
  have hmin : min o cs.length = o := by omega
  rw [hmin] at hx
  by_cases h1 : j < o
  · rw [if_pos (by omega), if_pos h1, List.getElem?_take, if_pos h1] at hx
    rw [if_neg (by omega)] at hv'
    exact h.2 j x v hx (by simpa using hv')
  · by_cases h2 : j < o + ys.length
    · rw [if_pos h2, if_neg h1] at hx
      rw [if_pos ⟨by omega, by rw [← h'.1]; exact h2⟩] at hv'
      exact h'.2 _ x v hx hv'
    · rw [if_neg h2, List.getElem?_drop] at hx
      rw [if_neg (by rw [← h'.1]; omega)] at hv'
      rw [show o + ys.length + (j - (o + ys.length)) = j by omega] at hx
      exact h.2 j x v hx (by simpa using hv')
def PartsR (w : World) (G : Gh) (ps : List (Nat × LV)) (ps' : List (Nat × Value)) : Prop :=
  ps.length = ps'.length ∧ ∀ (j : Nat) (p : Nat × LV) (p' : Nat × Value), ps[j]? = some p → ps'[j]? = some p' → p.1 = p'.1 ∧ VR w G p.2 p'.2
theorem PartsR.tail {p : Nat × LV} {p' : Nat × Value} {ps : List (Nat × LV)} {ps' : List (Nat × Value)} (h : PartsR w G (p :: ps) (p' :: ps')) : p.1 = p'.1 ∧ VR w G p.2 p'.2 ∧ PartsR w G ps ps' :=
  ⟨(h.2 0 p p' rfl rfl).1, (h.2 0 p p' rfl rfl).2, by simpa using h.1, fun j q q' hq hq' => h.2 (j + 1) q q' (by simpa using hq) (by simpa using hq')⟩
theorem fillL_sound {place : Nat → Option (Nat × Nat)} : ∀ {ps : List (Nat × LV)} {ps' : List (Nat × Value)} {cs r : List LV} {c : Array Value}, PartsR w G ps ps' → VRs w G cs c.toList → fillL place cs ps = some r →
    ∃ c', Instr.fill place c ps' = some c' ∧ VRs w G r c'.toList
  | [], [], cs, r, c, hp, hc, h => by simp [fillL] at h; subst h; exact ⟨c, rfl, hc⟩
  | [], _ :: _, cs, r, c, hp, hc, h => by have := hp.1; simp at this
  | _ :: _, [], cs, r, c, hp, hc, h => by have := hp.1; simp at this
  | (i, v) :: ps, (i', v') :: ps', cs, r, c, hp, hc, h => by
    obtain ⟨h1, h2, h3⟩ := hp.tail
    simp only at h1 h2
    subst h1
    simp only [fillL] at h
    cases hpl : place i with
    | none => simp [hpl] at h
    | some os =>
      obtain ⟨off, size⟩ := os
      simp only [hpl] at h
      split at h
      · rename_i hif
        obtain ⟨hwd, hfl, hle⟩ := hif
        obtain ⟨hcs, hwd'⟩ := h2.cells hfl
        have hlen : cs.length = c.size := by simpa using hc.1
        have hput := VRs.put hc hcs (o := off) (by rw [wd_cells]; omega)
        obtain ⟨c', hc', hr⟩ := fillL_sound h3 hput h
        refine ⟨c', ?_, hr⟩
        simp only [Instr.fill, hpl]
        rw [if_neg (by simp; omega)]
        rw [← hc']
        congr 1
        rw [← Array.foldl_toList, Array.toList_zipIdx]
        exact foldl_put off v'.cells.toList 0 c
      · cases h
theorem partsL_sound {tm : Tm} {a : Act} (ht : TR w G tm a.tmps) : ∀ {ps : List (Nat × Operand)} {xs : List (Nat × LV)}, partsL tm ps = some xs → PartsR w G xs (ps.map fun (i, x) => (i, a.eval x))
  | [], xs, h => by simp [partsL] at h; subst h; exact ⟨rfl, by simp⟩
  | (i, x) :: ps, xs, h => by
    simp only [partsL] at h
    split at h
    · rename_i v vs' h1 h2
      injection h with h; subst h
      have h3 := partsL_sound ht h2
      have h4 := opv_sound ht h1
      refine ⟨by simpa using h3.1, fun j p p' hp hp' => ?_⟩
      cases j with
      | zero => simp at hp hp'; subst hp; subst hp'; exact ⟨rfl, h4⟩
      | succ j => exact h3.2 j p p' (by simpa using hp) (by simpa using hp')
    · cases h
theorem ofV_cells {v : Value} {x : LV} (h : ofV v = some x) : VRs w G x.cells v.cells.toList := by
  unfold ofV at h
  split at h
  · rename_i cs
    cases hm : cs.toList.mapM ofV1 with
    | none => simp [hm] at h
    | some xs =>
      simp [hm] at h; subst h
      refine ⟨by have := mapM_some_length hm; simpa [LV.cells, Value.cells] using this, ?_⟩
      intro j x u hx hu
      have := mapM_some_get hm j u (by simpa [Value.cells] using hu)
      simp only [LV.cells] at hx
      rw [hx] at this
      exact (ofV1_sound this).1
  · exact ((ofV1_sound (w := w) (G := G) h).1.cells (ofV1_sound (w := w) (G := G) h).2.1).1
theorem places_sound (hL : LookOK L) : ∀ {fs : List Field} {ps : List (Nat × Nat)}, placesL L fs = some ps → fs.mapM (fun f => (L.P.info? f.type).map fun i => (f.offset, i.size)) = some ps
  | [], ps, h => by simpa [placesL] using h
  | f :: fs, ps, h => by
    simp only [placesL, List.mapM_cons, Option.bind_eq_bind, Option.pure_def] at h
    cases hy : L.tyOf f.type with
    | none => simp [hy] at h
    | some y =>
      cases hr : placesL L fs with
      | none => unfold placesL at hr; simp [hy, hr] at h
      | some r =>
        have hr' := hr
        unfold placesL at hr'
        simp [hy, hr'] at h
        subst h
        obtain ⟨i, h1, h2, _⟩ := (hL.ty _ y hy).info
        simp [List.mapM_cons, h1, places_sound hL hr, h2]
theorem buildL_sound (hL : LookOK L) {t : TypeId} {ps : List (Nat × LV)} {ps' : List (Nat × Value)} {v : LV} (hp : PartsR w G ps ps') (h : buildL L t ps = some v) :
    ∃ u, (Instr.build t ps'.toArray).run L.P w = .ok u w ∧ VR w G v u := by
  unfold buildL at h
  split at h
  · rename_i z fields hz hu
    obtain ⟨i, zv, hi, hzv, hof⟩ := zero_info hL hz
    split at h
    · rename_i places hpl
      cases hf : fillL (places[·]?) z.cells ps with
      | none => simp [hf] at h
      | some r =>
        simp [hf] at h; subst h
        obtain ⟨c', hc', hr⟩ := fillL_sound hp (ofV_cells hof) hf
        have hb : L.P.built t ps'.toArray.toList = some c' := by
          simp only [Program.built, hi, und_sound hL hu, hzv, places_sound hL hpl]
          simpa using hc'
        exact ⟨_, run_build w t ps'.toArray c' hb, by simpa using hr.agg⟩
    · cases h
  · rename_i z n elem hz hu
    obtain ⟨i, zv, hi, hzv, hof⟩ := zero_info hL hz
    split at h
    · rename_i s hs
      obtain ⟨ie, hie, rfl⟩ := size_info hL hs
      cases hf : fillL (fun i => some (i * ie.size, ie.size)) z.cells ps with
      | none => simp [hf] at h
      | some r =>
        simp [hf] at h; subst h
        obtain ⟨c', hc', hr⟩ := fillL_sound hp (ofV_cells hof) hf
        have hb : L.P.built t ps'.toArray.toList = some c' := by
          simp only [Program.built, hi, und_sound hL hu, hzv, hie]
          simpa using hc'
        exact ⟨_, run_build w t ps'.toArray c' hb, by simpa using hr.agg⟩
    · cases h
  · cases h
theorem partL_sound (hL : LookOK L) {t : TypeId} {cs : List LV} {off : Nat} {v : LV} {c : Array Value} (hc : VRs w G cs c.toList) (h : partL L t cs off = some v) (w' : World) :
    ∃ u, (part t c off).run L.P w' = .ok u w' ∧ VR w G v u := by
  unfold partL at h
  split at h
  · rename_i s ha hs
    split at h
    · rename_i hle
      injection h with h; subst h
      refine ⟨.agg (c.extract off (off + s)), by simp [part, rAgg hL ha, rSize hL hs], ?_⟩
      have := ((hc.drop off).take s).agg
      rw [show (c.extract off (off + s)) = ((c.toList.drop off).take s).toArray by apply Array.ext'; simp [Array.toList_extract, List.extract_eq_take_drop]]
      exact this
    · cases h
  · rename_i s ha hs
    obtain ⟨u, hu, hv⟩ := hc.get h
    have hu' : c[off]? = some u := by simpa using hu
    exact ⟨u, by simp [part, rAgg hL ha, hu'], hv⟩
  · cases h
end Go.Lg
end
section
set_option linter.unusedSimpArgs false
set_option linter.unusedSectionVars false
namespace Go.Lg
variable [Rel]
variable {L : Look} {w : World} {G : Gh}
def RowR (w : World) (G : Gh) (B o : Nat) (cs : List LV) : Prop := ∀ (j : Nat) (c : LV), cs[j]? = some c → ∃ u, w.cell? ⟨B, o + j, none⟩ = some u ∧ VR w G c u
theorem load_sound (hL : LookOK L) {t : TypeId} {cs : List LV} {off B o : Nat} {v : LV} (hr : RowR w G B o cs) (h : partL L t cs off = some v) :
    ∃ u, (loadVar t ⟨B, o + off, none⟩).run L.P w = .ok u w ∧ VR w G v u := by
  unfold partL at h
  split at h
  · rename_i s ha hs
    split at h
    · rename_i hle
      injection h with h; subst h
      let vs : List Value := (List.range s).map fun j => (w.cell? ⟨B, o + off + j, none⟩).getD undef
      have hget : ∀ j, j < s → ∃ u c, cs[off + j]? = some c ∧ w.cell? ⟨B, o + off + j, none⟩ = some u ∧ vs[j]? = some u ∧ VR w G c u := by
        intro j hj
        have hlt : off + j < cs.length := by omega
        obtain ⟨u, hu, hv⟩ := hr (off + j) cs[off + j] (by simp [hlt])
        rw [← Nat.add_assoc] at hu
        exact ⟨u, cs[off + j], by simp [hlt], hu, by simp [vs, hj, hu], hv⟩
      have hrun := run_loadCells (P := L.P) (w := w) (a := ⟨B, o + off, none⟩) rfl (n := s) (vs := vs) (by simp [vs]) (fun j u hj => by
        have hlt : j < s := by
          have := (List.getElem?_eq_some_iff.1 hj).1
          simpa [vs] using this
        obtain ⟨u', c, _, h2, h3, _⟩ := hget j hlt
        rw [h3] at hj; injection hj with hj; subst hj; exact h2)
      refine ⟨.agg vs.toArray, by simp [loadVar, rAgg hL ha, rSize hL hs, hrun], VRs.agg ⟨by simp [vs]; omega, fun j x u hx hu => ?_⟩⟩
      have hlt : j < s := by
        have := (List.getElem?_eq_some_iff.1 hu).1
        simpa [vs] using this
      obtain ⟨u', c, h1, h2, h3, h4⟩ := hget j hlt
      rw [h3] at hu; injection hu with hu; subst hu
      rw [List.getElem?_take, if_pos hlt, List.getElem?_drop, h1] at hx
      injection hx with hx; subst hx
      exact h4
    · cases h
  · rename_i s ha hs
    obtain ⟨u, hu, hv⟩ := hr off v h
    exact ⟨u, by simp [loadVar, rAgg hL ha, run_load hu, hu], hv⟩
  · cases h
theorem rowR_ro {cs : List LV} {v : Value} (h : VR w G (.ro cs) v) : ∃ B o, v = .pointer (some ⟨B, o, none⟩) ∧ RowR w G B o cs := by
  cases h with
  | ro cs B o f h hv => exact ⟨B, o, rfl, fun j c hc => ⟨f j, (h j c hc).2.1, hv j c hc⟩⟩
theorem box_row {σ : LH} (hw : WR G σ w) {b B : Nat} (hb : G.mu b = some B) {t : TypeId} {cs : List LV} (hbox : boxOf σ b = some (t, cs)) :
    ∃ c, w.heap[B]? = some (.cells c t (0, 0)) ∧ VRs w G cs c.toList := by
  unfold boxOf at hbox
  obtain ⟨o, ho, hr⟩ := hw.box b B hb
  rw [ho] at hbox
  cases o with
  | cells t' cs' => simp at hbox; obtain ⟨rfl, rfl⟩ := hbox; exact hr
  | loop r => simp at hbox
  | dfr => simp at hbox
  | gone => simp at hbox
theorem cell?_of {B : Nat} {c : Array Value} {t : TypeId} {f : Nat × Nat} (h : w.heap[B]? = some (.cells c t f)) (o : Nat) : w.cell? ⟨B, o, none⟩ = c[o]? := by simp [World.cell?, h]
theorem rowR_box {B : Nat} {c : Array Value} {t : TypeId} {f : Nat × Nat} {cs : List LV} (h : w.heap[B]? = some (.cells c t f)) (hc : VRs w G cs c.toList) : RowR w G B 0 cs := by
  intro j x hx
  obtain ⟨u, hu, hv⟩ := hc.get hx
  exact ⟨u, by rw [Nat.zero_add, cell?_of h]; simpa using hu, hv⟩
theorem loadL_sound (hL : LookOK L) {σ : LH} (hw : WR G σ w) {t : TypeId} {x v : LV} {u : Value} (hx : VR w G x u) (h : loadL L σ t x = some v) :
    ∃ u', (Instr.loadAt t u).run L.P w = .ok u' w ∧ VR w G v u' := by
  unfold loadL at h
  split at h
  · rename_i b o
    split at h
    · rename_i t' cs hbox
      cases hx with
      | ptr b o B hb =>
        obtain ⟨c, hc, hvs⟩ := box_row hw hb hbox
        obtain ⟨u', h1, h2⟩ := load_sound hL (rowR_box hc hvs) h
        rw [Nat.zero_add] at h1
        exact ⟨u', by simp [Instr.loadAt, Instr.sureAddr, h1], h2⟩
    · cases h
  · rename_i cs
    obtain ⟨B, o, rfl, hr⟩ := rowR_ro hx
    obtain ⟨u', h1, h2⟩ := load_sound hL hr h
    rw [Nat.add_zero] at h1
    exact ⟨u', by simp [Instr.loadAt, Instr.sureAddr, h1], h2⟩
  · cases h
theorem VR.ro_drop {cs : List LV} {B o : Nat} (h : VR w G (.ro cs) (.pointer (some ⟨B, o, none⟩))) (n : Nat) : VR w G (.ro (cs.drop n)) (.pointer (some ⟨B, o + n, none⟩)) := by
  cases h with
  | ro cs B o f h hv =>
    refine .ro _ B (o + n) (fun j => f (n + j)) (fun j c hc => ?_) (fun j c hc => ?_)
    · rw [List.getElem?_drop] at hc
      have := h (n + j) c hc
      rwa [← Nat.add_assoc] at this
    · rw [List.getElem?_drop] at hc
      exact hv (n + j) c hc
theorem fieldAddrL_sound (hL : LookOK L) {t : TypeId} {x v : LV} {f : Nat} {u : Value} (hx : VR w G x u) (h : fieldAddrL L t x f = some v) :
    ∃ u', (Instr.fieldAt t u f).run L.P w = .ok u' w ∧ VR w G v u' := by
  unfold fieldAddrL at h
  split at h
  · rename_i fields hu
    split at h
    · rename_i fd hfd
      split at h
      · rename_i s b o hs
        split at h
        · rename_i hpos
          injection h with h; subst h
          cases hx with
          | ptr b o B hb =>
            exact ⟨.pointer (some ⟨B, o + fd.offset, none⟩), by simp [Instr.fieldAt, rUnd hL hu, hfd, Instr.sureAddr, fieldPlace, rSize hL hs, show s ≠ 0 by omega, addr_add], .ptr _ _ _ hb⟩
        · cases h
      · rename_i s cs hs
        split at h
        · rename_i hpos
          injection h with h; subst h
          obtain ⟨B, o, rfl, _⟩ := rowR_ro hx
          exact ⟨.pointer (some ⟨B, o + fd.offset, none⟩), by simp [Instr.fieldAt, rUnd hL hu, hfd, Instr.sureAddr, fieldPlace, rSize hL hs, show s ≠ 0 by omega, addr_add], hx.ro_drop _⟩
        · cases h
      · cases h
    · cases h
  · cases h
theorem fieldL_sound (hL : LookOK L) {t : TypeId} {x v : LV} {f : Nat} {u : Value} (hx : VR w G x u) (h : fieldL L t x f = some v) :
    ∃ u', (Instr.field t u f).run L.P w = .ok u' w ∧ VR w G v u' := by
  unfold fieldL at h
  split at h
  · rename_i fields cs hu
    split at h
    · rename_i fd hfd
      obtain ⟨vs, rfl, hvs⟩ := hx.agg_inv
      obtain ⟨u', h1, h2⟩ := partL_sound hL hvs h w
      exact ⟨u', by simp [Instr.field, rUnd hL hu, hfd, asAgg, h1], h2⟩
    · cases h
  · cases h
theorem VR.elem {xs : List LV} {own : Own} {nz : Option Bool} {v : Value} (h : VR w G (.slice xs own nz) v) {i : Nat} {x : LV} (hi : xs[i]? = some x) :
    ∃ A cap s, v = .slice (some A) xs.length cap ∧ A.spot = none ∧ x.wd = s ∧ VR w G (.ro x.cells) (.pointer (some ⟨A.block, A.off + i * s, none⟩)) := by
  cases h with
  | slice xs own nz a cap s f hcap hnz hnil hsp hw hown h hv =>
    cases a with
    | none => rw [(hnil rfl).1] at hi; simp at hi
    | some A =>
      have hx := hw x (List.mem_of_getElem? hi)
      exact ⟨A, cap, s, rfl, (hsp A rfl).resolve_left (by have := (List.getElem?_eq_some_iff.1 hi).1; omega), hx.1, .ro _ _ _ (f i) (fun j c hc => ⟨(h A i x j c rfl hi hc).1, (h A i x j c rfl hi hc).2, flat_scalar hx.2 c (List.mem_of_getElem? hc)⟩) (fun j c hc => hv i x j c hi hc)⟩
theorem indexAddrL_sound (hL : LookOK L) {t : TypeId} {x ix v : LV} {u iu : Value} (hx : VR w G x u) (hi : VR w G ix iu) (h : indexAddrL L t x ix = some v) :
    ∃ u', (Instr.indexAt t u iu).run L.P w = .ok u' w ∧ VR w G v u' := by
  unfold indexAddrL at h
  split at h
  · rename_i k i
    cases hi
    split at h
    · rename_i h0
      split at h
      · rename_i elem xs own nz hu
        split at h
        · rename_i e s he hs
          split at h
          · rename_i hwd
            injection h with h; subst h
            obtain ⟨A, cap, s', rfl, hsp, hwd', hro⟩ := hx.elem he
            have hlt : i.toNat < xs.length := (List.getElem?_eq_some_iff.1 he).1
            have hss : s' = s := hwd'.symm.trans hwd
            subst hss
            refine ⟨.pointer (some ⟨A.block, A.off + i.toNat * s', none⟩), ?_, hro⟩
            have hcond : 0 ≤ i ∧ i < (xs.length : Int) := ⟨h0, by omega⟩
            simp [Instr.indexAt, asIntOf, rUnd hL hu, rSize hL hs, hcond, addr_add hsp]
          · cases h
        · cases h
      · rename_i elem b o len cap hu
        split at h
        · rename_i s hs
          split at h
          · rename_i hlt
            injection h with h; subst h
            cases hx with
            | mslice b o len cap B hb =>
              have hcond : 0 ≤ i ∧ i < (len : Int) := ⟨h0, by omega⟩
              exact ⟨.pointer (some ⟨B, o + i.toNat * s, none⟩), by simp [Instr.indexAt, asIntOf, rUnd hL hu, rSize hL hs, hcond, addr_add], .ptr _ _ _ hb⟩
          · cases h
        · cases h
      · rename_i len elem b o hu
        split at h
        · rename_i s hs
          split at h
          · rename_i hlt
            injection h with h; subst h
            cases hx with
            | ptr b o B hb =>
              have hcond : 0 ≤ i ∧ i < (len : Int) := ⟨h0, by omega⟩
              exact ⟨.pointer (some ⟨B, o + i.toNat * s, none⟩), by simp [Instr.indexAt, asIntOf, rUnd hL hu, rSize hL hs, hcond, addr_add, Instr.sureAddr], .ptr _ _ _ hb⟩
          · cases h
        · cases h
      · rename_i len elem cs hu
        split at h
        · rename_i s hs
          split at h
          · rename_i hlt
            injection h with h; subst h
            obtain ⟨B, o, rfl, _⟩ := rowR_ro hx
            have hcond : 0 ≤ i ∧ i < (len : Int) := ⟨h0, by omega⟩
            exact ⟨.pointer (some ⟨B, o + i.toNat * s, none⟩), by simp [Instr.indexAt, asIntOf, rUnd hL hu, rSize hL hs, hcond, addr_add, Instr.sureAddr], hx.ro_drop _⟩
          · cases h
        · cases h
      · cases h
    · cases h
  · cases h
theorem indexL_sound (hL : LookOK L) {t : TypeId} {x ix v : LV} {u iu : Value} (hx : VR w G x u) (hi : VR w G ix iu) (h : indexL L t x ix = some v) :
    ∃ u', (Instr.index t u iu).run L.P w = .ok u' w ∧ VR w G v u' := by
  unfold indexL at h
  split at h
  · rename_i k i
    cases hi
    split at h
    · rename_i h0
      split at h
      · rename_i len elem cs hu
        split at h
        · rename_i s hs
          split at h
          · rename_i hlt
            obtain ⟨vs, rfl, hvs⟩ := hx.agg_inv
            obtain ⟨u', h1, h2⟩ := partL_sound hL hvs h w
            have hcond : 0 ≤ i ∧ i < (len : Int) := ⟨h0, by omega⟩
            exact ⟨u', by simp [Instr.index, asIntOf, rUnd hL hu, rSize hL hs, hcond, h1], h2⟩
          · cases h
        · cases h
      · rename_i s hu
        split at h
        · rename_i b hb
          injection h with h; subst h
          cases hx
          exact ⟨.int .u8 b.toNat, by simp [Instr.index, asIntOf, rUnd hL hu, h0, hb], .int _ _⟩
        · cases h
      · cases h
    · cases h
  · cases h
end Go.Lg
end
section
set_option linter.unusedSimpArgs false
set_option linter.unusedSectionVars false
namespace Go.Lg
variable [Rel]
variable {L : Look} {w : World} {G : Gh}
theorem sliceBound_run {P : Program} {k : IntKind} {i : Int} {y : Nat} {code : BoundsCode} (h : 0 ≤ i ∧ i ≤ y) (w : World) : (Instr.sliceBound (.int k i) y code).run P w = .ok i.toNat w := by
  simp [Instr.sliceBound, asIntOf, h]
def OptR (w : World) (G : Gh) : Option LV → Option Value → Prop
  | none, none => True
  | some x, some v => VR w G x v
  | _, _ => False
theorem boundL_some {most d n : Nat} {x : LV} {v : Value} (hx : VR w G x v) (h : boundL most d (some x) = some n) : ∃ k i, v = .int k i ∧ (0 ≤ i ∧ i ≤ (most : Int)) ∧ i.toNat = n := by
  unfold boundL at h
  split at h
  · rename_i heq; cases heq
  · rename_i k i heq
    injection heq with heq; subst heq
    split at h
    · rename_i hb; injection h with h; cases hx; exact ⟨k, i, rfl, hb, h⟩
    · cases h
  · cases h
theorem slice_shift {xs : List LV} {own : Own} {nz : Option Bool} {a : Option Addr} {len cap : Nat} (hx : VR w G (.slice xs own nz) (.slice a len cap)) {l h m s : Nat} (hlh : l ≤ h) (hhm : h ≤ m) (hh : h ≤ xs.length) (hm : m ≤ cap)
    (hsz : 0 < s) (hs : ∀ x, xs.head? = some x → x.wd = s) (own' : Own) (ho : own' = .none ∨ (own' = own ∧ h = xs.length ∧ l < h ∧ m = cap) ∨ (own' = .exact ∧ h = m)) (nz' : Option Bool) (hnz : nz' = none ∨ (nz' = nz ∧ l = 0)) :
    VR w G (.slice ((xs.take h).drop l) own' nz') (.slice (if m = l then a else a.map (·.add (l * s))) (h - l) (m - l)) := by
  cases hx with
  | slice xs own nz a cap s' f hcap hnz' hnil hsp hw hown hc hv =>
    have hlen : ((xs.take h).drop l).length = h - l := by simp; omega
    have hget : ∀ (i : Nat) (x : LV), ((xs.take h).drop l)[i]? = some x → i < h - l ∧ xs[l + i]? = some x := fun i x hx => by
      have hlt : i < h - l := hlen ▸ (List.getElem?_eq_some_iff.1 hx).1
      rw [List.getElem?_drop, List.getElem?_take, if_pos (by omega)] at hx
      exact ⟨hlt, hx⟩
    have hss : ∀ x ∈ xs, s' = s := fun x hx => by
      cases xs with
      | nil => simp at hx
      | cons y ys => exact (hw y (by simp)).1.symm.trans (hs y rfl)
    have hshift : ∀ A, a = some A → (if m = l then a else a.map (·.add (l * s))) = some (if m = l then A else ⟨A.block, A.off + l * s, none⟩) := fun A hA => by
      subst hA
      split
      · rfl
      · rename_i hml
        simp [addr_add ((hsp A rfl).resolve_left (by omega))]
    have hnone : a = none → (if m = l then a else a.map (·.add (l * s))) = none := fun hA => by subst hA; split <;> rfl
    have key : VR w G (.slice ((xs.take h).drop l) own' nz') (.slice (if m = l then a else a.map (·.add (l * s))) ((xs.take h).drop l).length (m - l)) := by
      refine .slice _ own' nz' _ (m - l) s (fun i j => f (l + i) j) (by omega) ?_ ?_ ?_ ?_ ?_ ?_ ?_
      · intro b hb
        rcases hnz with h0 | ⟨h0, h1⟩
        · rw [h0] at hb; cases hb
        · rw [h0] at hb; subst h1
          rw [← hnz' b hb]
          cases a with
          | none => rw [hnone rfl]
          | some A => rw [hshift A rfl]; rfl
      · intro hA
        cases a with
        | none => obtain ⟨h1, h2⟩ := hnil rfl; subst h1; exact ⟨by simp, by omega⟩
        | some A => rw [hshift A rfl] at hA; cases hA
      · intro A' hA'
        cases a with
        | none => rw [hnone rfl] at hA'; cases hA'
        | some A =>
          rw [hshift A rfl] at hA'; injection hA' with hA'; subst hA'
          split
          · exact .inl (by omega)
          · exact .inr rfl
      · intro x hx
        have hx' : x ∈ xs := List.mem_of_mem_take (List.mem_of_mem_drop hx)
        exact ⟨hss x hx' ▸ (hw x hx').1, (hw x hx').2⟩
      · rcases ho with rfl | ⟨rfl, h1, h2, h3⟩ | ⟨rfl, h1⟩
        · trivial
        · subst h3
          cases own' with
          | none => trivial
          | exact => simp only [OwnR] at hown ⊢; omega
          | tok k =>
            obtain ⟨A, hA, hn, hk, t, N, hsh, hle⟩ := hown
            subst hA
            have hmem : ∃ x, x ∈ xs := by
              cases xs with
              | nil => simp at hn
              | cons y ys => exact ⟨y, by simp⟩
            obtain ⟨x, hx⟩ := hmem
            have hs' := hss x hx
            subst hs'
            refine ⟨⟨A.block, A.off + l * s', none⟩, ?_, by omega, ?_, t, N, hsh, ?_⟩
            · rw [hshift A rfl, if_neg (by omega)]
            · rw [hk]; simp only; rw [hlen, h1]
              rw [Nat.add_assoc, ← Nat.add_mul, show l + (xs.length - l) = xs.length by omega]
            · simp only
              rw [Nat.add_assoc, ← Nat.add_mul, show l + (m - l) = m by omega]; exact hle
        · simp only [OwnR]; omega
      · intro A' i x j c hA' hx hc'
        obtain ⟨hlt, hx'⟩ := hget i x hx
        have hs' := hss x (List.mem_of_getElem? hx')
        subst hs'
        cases a with
        | none => rw [hnone rfl] at hA'; cases hA'
        | some A =>
          rw [hshift A rfl, if_neg (by omega)] at hA'
          injection hA' with hA'; subst hA'
          have := hc A (l + i) x j c rfl hx' hc'
          simp only
          rw [show A.off + l * s' + i * s' + j = A.off + (l + i) * s' + j by rw [Nat.add_mul]; omega]
          exact this
      · intro i x j c hx hc'
        obtain ⟨hlt, hx'⟩ := hget i x hx
        exact hv (l + i) x j c hx' hc'
    rw [hlen] at key
    exact key
theorem VR.slice_inv {xs : List LV} {own : Own} {nz : Option Bool} {v : Value} (h : VR w G (.slice xs own nz) v) : ∃ a cap, v = .slice a xs.length cap ∧ xs.length ≤ cap := by
  cases h with
  | slice xs own nz a cap s f hcap hnz hnil hsp hw hown h hv => exact ⟨a, cap, rfl, hcap⟩
theorem head_wd (L : Look) {elem : TypeId} {xs : List LV} {s : Nat} (hs : sizeL L elem = some s) (h : (xs.head?.all fun x => some x.wd == sizeL L elem) = true) : ∀ x, xs.head? = some x → x.wd = s := by
  intro x hx
  rw [hx, hs] at h
  simpa using h
theorem sliceL_sound (hL : LookOK L) {t : TypeId} {x v : LV} {lo hi mx : Option LV} {u : Value} {lo' hi' mx' : Option Value} (hx : VR w G x u) (hlo : OptR w G lo lo') (hhi : OptR w G hi hi') (hmx : OptR w G mx mx') (h : sliceL L t x lo hi mx = some v) :
    ∃ u', (Instr.sliceAt t u lo' hi' mx').run L.P w = .ok u' w ∧ VR w G v u' := by
  unfold sliceL at h
  split at h
  · rename_i s hu
    split at h
    · cases h
    · rename_i hmn
      cases mx with
      | some m => simp at hmn
      | none =>
        cases mx' with
        | some m => exact hmx.elim
        | none =>
          cases hx
          split at h
          · rename_i hh hbh
            split at h
            · rename_i l hbl
              injection h with h; subst h
              refine ⟨.string (s.extract l hh), ?_, .str _⟩
              have hH : (match hi', (none : Option Value) with
                  | some v, some _ => Instr.sliceBound v s.size .slice3B
                  | some v, none => Instr.sliceBound v s.size .sliceAlen
                  | none, none => pure s.size
                  | none, some _ => stuck "Slice: max without high").run L.P w = .ok hh w := by
                cases hi with
                | none => cases hi' with
                  | none => simp [boundL] at hbh; subst hbh; rfl
                  | some _ => exact hhi.elim
                | some y => cases hi' with
                  | none => exact hhi.elim
                  | some v =>
                    obtain ⟨k, i, rfl, hb, rfl⟩ := boundL_some hhi hbh
                    exact sliceBound_run hb w
              have hLo : (match lo' with
                  | some v => Instr.sliceBound v hh .sliceB
                  | none => pure 0).run L.P w = .ok l w := by
                cases lo with
                | none => cases lo' with
                  | none => simp [boundL] at hbl; subst hbl; rfl
                  | some _ => exact hlo.elim
                | some y => cases lo' with
                  | none => exact hlo.elim
                  | some v =>
                    obtain ⟨k, i, rfl, hb, rfl⟩ := boundL_some hlo hbl
                    exact sliceBound_run hb w
              cases hi' <;> cases lo' <;> simp_all [Instr.sliceAt, Instr.slice, rUnd hL hu, Instr.sliceBounds]
            · cases h
          · cases h
  · rename_i elem xs own nz hu
    obtain ⟨a, cap, rfl, hcap⟩ := hx.slice_inv
    split at h
    · rename_i hcond
      cases hs : sizeL L elem with
      | none => simp [hs] at hcond
      | some s =>
        have hpos : 0 < s := by simpa [hs] using hcond.1
        have hwd := head_wd L hs hcond.2
        split at h
        · cases mx' with
          | some _ => exact hmx.elim
          | none =>
          split at h
          · rename_i hh hbh
            split at h
            · rename_i l hbl
              injection h with h; subst h
              have hH : hh ≤ xs.length ∧ (match hi', (none : Option Value) with
                  | some v, some _ => Instr.sliceBound v cap .slice3B
                  | some v, none => Instr.sliceBound v cap .sliceAcap
                  | none, none => pure xs.length
                  | none, some _ => stuck "Slice: max without high").run L.P w = .ok hh w := by
                cases hi with
                | none => cases hi' with
                  | none => simp [boundL] at hbh; subst hbh; exact ⟨Nat.le_refl _, rfl⟩
                  | some _ => exact hhi.elim
                | some y => cases hi' with
                  | none => exact hhi.elim
                  | some v =>
                    obtain ⟨k, i, rfl, hb, rfl⟩ := boundL_some hhi hbh
                    exact ⟨by omega, sliceBound_run ⟨hb.1, by omega⟩ w⟩
              have hLo : l ≤ hh ∧ (match lo' with
                  | some v => Instr.sliceBound v hh .sliceB
                  | none => pure 0).run L.P w = .ok l w := by
                cases lo with
                | none => cases lo' with
                  | none => simp [boundL] at hbl; subst hbl; exact ⟨Nat.zero_le _, rfl⟩
                  | some _ => exact hlo.elim
                | some y => cases lo' with
                  | none => exact hlo.elim
                  | some v =>
                    obtain ⟨k, i, rfl, hb, rfl⟩ := boundL_some hlo hbl
                    exact ⟨by omega, sliceBound_run hb w⟩
              refine ⟨_, ?_, slice_shift hx (l := l) (h := hh) (m := cap) (s := s) hLo.1 (by omega) hH.1 (Nat.le_refl _) hpos hwd _ ?_ _ ?_⟩
              · have h1 := hH.2
                have h2 := hLo.2
                cases hi' <;> cases lo' <;> simp_all [Instr.sliceAt, Instr.slice, rUnd hL hu, Instr.sliceBounds, rSize hL hs]
              · split
                · rename_i hc; exact .inr (.inl ⟨rfl, hc.1, hc.2, rfl⟩)
                · exact .inl rfl
              · split
                · rename_i hl0; exact .inr ⟨rfl, hl0⟩
                · exact .inl rfl
            · cases h
          · cases h
        · rename_i mm
          split at h
          · rename_i m hbm
            split at h
            · cases h
            · rename_i hi
              split at h
              · rename_i hh hbh
                split at h
                · rename_i l hbl
                  injection h with h; subst h
                  cases mx' with
                  | none => exact hmx.elim
                  | some mv =>
                  cases hi' with
                  | none => exact hhi.elim
                  | some hv =>
                  obtain ⟨k1, i1, rfl, hb1, rfl⟩ := boundL_some hmx hbm
                  obtain ⟨k2, i2, rfl, hb2, rfl⟩ := boundL_some hhi hbh
                  have hLo : l ≤ i2.toNat ∧ (match lo' with
                      | some v => Instr.sliceBound v i2.toNat .slice3C
                      | none => pure 0).run L.P w = .ok l w := by
                    cases lo with
                    | none => cases lo' with
                      | none => simp [boundL] at hbl; subst hbl; exact ⟨Nat.zero_le _, rfl⟩
                      | some _ => exact hlo.elim
                    | some y => cases lo' with
                      | none => exact hlo.elim
                      | some v =>
                        obtain ⟨k, i, rfl, hb, rfl⟩ := boundL_some hlo hbl
                        exact ⟨by omega, sliceBound_run hb w⟩
                  have hM := sliceBound_run (P := L.P) (k := k1) (i := i1) (y := cap) (code := .slice3Acap) ⟨hb1.1, by omega⟩ w
                  have hHi := sliceBound_run (P := L.P) (k := k2) (i := i2) (y := i1.toNat) (code := .slice3B) hb2 w
                  refine ⟨_, ?_, slice_shift hx (l := l) (h := i2.toNat) (m := i1.toNat) (s := s) hLo.1 (by omega) (by omega) (by omega) hpos hwd _ ?_ _ ?_⟩
                  · have h2 := hLo.2
                    cases lo' <;> simp_all [Instr.sliceAt, Instr.slice, rUnd hL hu, Instr.sliceBounds, rSize hL hs]
                  · split
                    · rename_i hc; exact .inr (.inr ⟨rfl, hc⟩)
                    · exact .inl rfl
                  · split
                    · rename_i hl0; exact .inr ⟨rfl, hl0⟩
                    · exact .inl rfl
                · cases h
              · cases h
          · cases h
    · cases h
  · cases h
end Go.Lg
end
section
set_option linter.unusedSimpArgs false
set_option linter.unusedSectionVars false
namespace Go.Lg
variable [Rel]
variable {L : Look} {w : World} {G : Gh}
theorem lenL_sound (hL : LookOK L) {t ty : TypeId} {x v : LV} {u : Value} {ats : Array TypeId} (hx : VR w G x u) (ha : ats[0]? = some t) (h : lenL L t x = some v) :
    ∃ u', (Builtin.len_ ats ty #[u]).run L.P w = .ok u' w ∧ VR w G v u' := by
  unfold lenL at h
  split at h
  · rename_i s hu; injection h with h; subst h; cases hx; exact ⟨.int .i64 s.size, by simp [Builtin.len_, ha, rUnd hL hu, goInt], .int _ _⟩
  · rename_i e xs own nz hu; injection h with h; subst h
    obtain ⟨a, cap, rfl, _⟩ := hx.slice_inv
    exact ⟨.int .i64 xs.length, by simp [Builtin.len_, ha, rUnd hL hu, goInt], .int _ _⟩
  · rename_i e b o len cap hu; injection h with h; subst h
    cases hx
    exact ⟨.int .i64 len, by simp [Builtin.len_, ha, rUnd hL hu, goInt], .int _ _⟩
  · cases h
theorem run_eqInts {e : TypeId} (hL : LookOK L) {k : IntKind} (he : L.und e = some (.int k)) (d : Nat) {xs ys : Array Value} :
    ∀ {cs ds : List LV} {b : Bool} (m : Nat), VRs w G cs (xs.toList.drop m) → VRs w G ds (ys.toList.drop m) → eqInts cs ds = some b →
    (Op.eqItems (d + 1) e 1 xs ys (List.range' m cs.length)).run L.P w = .ok b w
  | [], [], b, m, hc, hd, h => by simp [eqInts] at h; subst h; simp [Op.eqItems]
  | [], _ :: _, b, m, hc, hd, h => by simp [eqInts] at h
  | c :: cs, [], b, m, hc, hd, h => by cases c <;> simp [eqInts] at h
  | c :: cs, x :: ds, b, m, hc, hd, h => by
    obtain ⟨u, hu, hcu⟩ := hc.get (j := 0) rfl
    obtain ⟨v, hv, hdv⟩ := hd.get (j := 0) rfl
    have hu' : xs[m]? = some u := by simpa using hu
    have hv' : ys[m]? = some v := by simpa using hv
    have tail : ∀ {zs : List LV} {z : LV} {as : Array Value}, VRs w G (z :: zs) (as.toList.drop m) → VRs w G zs (as.toList.drop (m + 1)) := fun h => by
      have := h.drop 1
      simpa [List.drop_drop, Nat.add_comm] using this
    have hagg : isAggL L e = some false := by simp [isAggL, he]
    simp only [List.length_cons, List.range'_succ, Op.eqItems, Sem.run_bind, Nat.mul_one]
    have p1 : (part e xs m).run L.P w = .ok u w := by simp [part, rAgg hL hagg, hu']
    have p2 : (part e ys m).run L.P w = .ok v w := by simp [part, rAgg hL hagg, hv']
    rw [p1, Result.andThen_ok, p2, Result.andThen_ok]
    have rest := fun b' (hb' : eqInts cs ds = some b') => run_eqInts hL he d (m + 1) (tail hc) (tail hd) hb'
    unfold eqInts at h
    split at h
    · rename_i h1 h2; cases h1
    · rename_i j a xs' k b' ys' h1 h2
      cases h1; cases h2; cases hcu; cases hdv
      split at h
      · rename_i hk; subst hk
        have p3 : (Op.equalIn (d + 1) e (.int j a) (.int j b')).run L.P w = .ok (a == b') w := by simp [Op.equalIn, rUnd hL he]
        rw [p3, Result.andThen_ok]
        split at h
        · rename_i heq; simp only [heq, Bool.not_true, Bool.false_eq_true, if_false]; exact rest _ h
        · rename_i heq; injection h with h; subst h; simp [heq]
      · cases h
    · cases h
theorem run_eqBools {e : TypeId} (hL : LookOK L) (he : L.und e = some .bool) (d : Nat) {xs ys : Array Value} :
    ∀ {cs ds : List LV} {b : Bool} (m : Nat), VRs w G cs (xs.toList.drop m) → VRs w G ds (ys.toList.drop m) → eqBools cs ds = some b →
    (Op.eqItems (d + 1) e 1 xs ys (List.range' m cs.length)).run L.P w = .ok b w
  | [], [], b, m, hc, hd, h => by simp [eqBools] at h; subst h; simp [Op.eqItems]
  | [], _ :: _, b, m, hc, hd, h => by simp [eqBools] at h
  | c :: cs, [], b, m, hc, hd, h => by cases c <;> simp [eqBools] at h
  | c :: cs, x :: ds, b, m, hc, hd, h => by
    obtain ⟨u, hu, hcu⟩ := hc.get (j := 0) rfl
    obtain ⟨v, hv, hdv⟩ := hd.get (j := 0) rfl
    have hu' : xs[m]? = some u := by simpa using hu
    have hv' : ys[m]? = some v := by simpa using hv
    have tail : ∀ {zs : List LV} {z : LV} {as : Array Value}, VRs w G (z :: zs) (as.toList.drop m) → VRs w G zs (as.toList.drop (m + 1)) := fun h => by
      have := h.drop 1
      simpa [List.drop_drop, Nat.add_comm] using this
    have hagg : isAggL L e = some false := by simp [isAggL, he]
    simp only [List.length_cons, List.range'_succ, Op.eqItems, Sem.run_bind, Nat.mul_one]
    have p1 : (part e xs m).run L.P w = .ok u w := by simp [part, rAgg hL hagg, hu']
    have p2 : (part e ys m).run L.P w = .ok v w := by simp [part, rAgg hL hagg, hv']
    rw [p1, Result.andThen_ok, p2, Result.andThen_ok]
    have rest := fun b' (hb' : eqBools cs ds = some b') => run_eqBools hL he d (m + 1) (tail hc) (tail hd) hb'
    unfold eqBools at h
    split at h
    · rename_i h1 h2; cases h1
    · rename_i a xs' b' ys' h1 h2
      cases h1; cases h2; cases hcu; cases hdv
      have p3 : (Op.equalIn (d + 1) e (.bool a) (.bool b')).run L.P w = .ok (a == b') w := by simp [Op.equalIn, rUnd hL he]
      rw [p3, Result.andThen_ok]
      split at h
      · rename_i heq; simp only [heq, Bool.not_true, Bool.false_eq_true, if_false]; exact rest _ h
      · rename_i heq; injection h with h; subst h; simp [heq]
    · cases h
theorem eqArr_sound (hL : LookOK L) {t : TypeId} {xs ys : List LV} {us vs : Array Value} {b : Bool} (hx : VRs w G xs us.toList) (hy : VRs w G ys vs.toList) (h : eqArr L t xs ys = some b) (d : Nat) :
    (Op.equalIn (d + 2) t (.agg us) (.agg vs)).run L.P w = .ok b w ∧ ∀ d, L.P.eqGuardType (d + 2) t = false := by
  unfold eqArr at h
  split at h
  · rename_i n e hu
    split at h
    · rename_i hc
      obtain ⟨h1, h2, h3⟩ := hc
      obtain ⟨i, hi, hi1⟩ := size_info hL h3
      have hco : L.P.cellsOf e = 1 := by simp [Program.cellsOf, hi, hi1]
      rw [run_equalIn_array w (d + 1) us vs (und_sound hL hu) hi, hco, ← h1, List.range_eq_range']
      split at h
      · rename_i k he
        exact ⟨run_eqInts hL he d 0 (by simpa using hx) (by simpa using hy) h, fun d => by simp [Program.eqGuardType, und_sound hL hu, und_sound hL he]⟩
      · rename_i he
        exact ⟨run_eqBools hL he d 0 (by simpa using hx) (by simpa using hy) h, fun d => by simp [Program.eqGuardType, und_sound hL hu, und_sound hL he]⟩
      · cases h
    · cases h
  · cases h
theorem equal_eq (t : TypeId) (x y : Value) : Op.equal t x y = Op.equalIn (9998 + 2) t x y := rfl
theorem equal_of {P : Program} {t : TypeId} {x y : Value} {b : Bool} (h : ∀ d, (Op.equalIn (d + 1) t x y).run P w = .ok b w) : (Op.equal t x y).run P w = .ok b w := h 9999
theorem guard_of {P : Program} {t : TypeId} {x y : Value} {b : Bool} (h : ∀ d, (Op.eqGuardIn (d + 1) t x y).run P w = .ok b w) : (Op.eqGuardIn Op.maxDepth t x y).run P w = .ok b w := h 9999
theorem eqL_sound (hL : LookOK L) {t : TypeId} {x y : LV} {u v : Value} {b : Bool} (hx : VR w G x u) (hy : VR w G y v) (h : eqL L t x y = some b) (op : BinOp) (ox oy : Operand) :
    (eqGuard op t ox oy u v).run L.P w = .ok () w ∧ (Go.binOp .eql t u v).run L.P w = .ok (.bool b) w ∧ (Go.binOp .neq t u v).run L.P w = .ok (.bool (!b)) w := by
  have hg : ∀ (u v : Value), (∀ (h : u = .nilIface ∧ v = .nilIface), False) → (∀ a b, u = .agg a → v = .agg b → False) → (eqGuard op t ox oy u v).run L.P w = .ok () w := fun u v h1 h2 => by
    unfold eqGuard
    cases op <;> simp <;> (cases u <;> cases v <;> first | rfl | exact (h1 ⟨rfl, rfl⟩).elim | exact (h2 _ _ rfl rfl).elim)
  unfold eqL at h
  split at h
  · rename_i j a k b'
    split at h
    · rename_i hk; injection h with h; subst h; subst hk; cases hx; cases hy
      exact ⟨hg _ _ (by simp) (by simp), by simp [Go.binOp, Op.intCmp], by simp [Go.binOp, Op.intCmp, bne]⟩
    · cases h
  · rename_i a b'
    injection h with h; subst h; cases hx; cases hy
    exact ⟨hg _ _ (by simp) (by simp), by simp [Go.binOp, Op.stringOp, ByteArray.toList_eq], by simp [Go.binOp, Op.stringOp, ByteArray.toList_eq]⟩
  · rename_i a b'
    split at h
    · rename_i hu; injection h with h; subst h; cases hx; cases hy
      have he : (Op.equal t (.bool a) (.bool b')).run L.P w = .ok (a == b') w := equal_of fun d => by simp [Op.equalIn, rUnd hL hu]
      exact ⟨hg _ _ (by simp) (by simp), by simp [Go.binOp, he], by simp [Go.binOp, he]⟩
    · cases h
  · rename_i xs o nz o'
    split at h
    · rename_i e hu
      cases hx with
      | slice _ _ _ a cap s f hcap hnz hnil hsp hw hown hc hv =>
      cases hy with
      | slice _ _ _ a' cap' s' f' hcap' hnz' hnil' hsp' hw' hown' hc' hv' =>
      have ha' : a' = none := by have := hnz' true rfl; simpa using this
      have hb : a.isNone = b := by
        cases nz with
        | some c => simp [nilOf] at h; subst h; exact hnz _ rfl
        | none =>
          cases xs with
          | nil => simp [nilOf] at h
          | cons x xs =>
            simp [nilOf] at h; subst h
            cases a with
            | none => have := (hnil rfl).1; simp at this
            | some A => rfl
      subst ha'
      have he : (Op.equal t (.slice a xs.length cap) (.slice none 0 cap')).run L.P w = .ok b w := equal_of fun d => by
        cases a with
        | none => simp at hb; subst hb; simp [Op.equalIn, rUnd hL hu]
        | some A => simp at hb; subst hb; simp [Op.equalIn, rUnd hL hu]
      exact ⟨hg _ _ (by simp) (by simp), by simp [Go.binOp, he], by simp [Go.binOp, he]⟩
    · cases h
  · rename_i bb oo len cap o'
    split at h
    · rename_i e hu
      injection h with h; subst h
      cases hx with
      | mslice b o len cap B hb =>
      cases hy with
      | slice _ _ _ a' cap' s' f' hcap' hnz' hnil' hsp' hw' hown' hc' hv' =>
      have ha' : a' = none := by have := hnz' true rfl; simpa using this
      subst ha'
      have he : (Op.equal t (.slice (some ⟨B, oo, none⟩) len cap) (.slice none 0 cap')).run L.P w = .ok false w := equal_of fun d => by simp [Op.equalIn, rUnd hL hu]
      exact ⟨hg _ _ (by simp) (by simp), by simp [Go.binOp, he], by simp [Go.binOp, he]⟩
    · cases h
  · split at h
    · rename_i ms hu
      split at h
      · rename_i hms
        injection h with h; subst h; cases hx; cases hy
        have he : (Op.equal t .nilIface .nilIface).run L.P w = .ok true w := equal_of fun d => by simp [Op.equalIn, rUnd hL hu]
        refine ⟨?_, by simp [Go.binOp, he], by simp [Go.binOp, he]⟩
        have hgi : (Op.eqGuardIn Op.maxDepth t .nilIface .nilIface).run L.P w = .ok false w := guard_of fun d => by simp [Op.eqGuardIn, rUnd hL hu, hms]
        unfold eqGuard
        cases op <;> simp [hgi] <;> (split <;> rfl)
      · cases h
    · cases h
  · split at h
    · rename_i ms hu
      injection h with h; subst h; cases hx; cases hy
      have he : ∀ tt vv, (Op.equal t (.iface tt vv) .nilIface).run L.P w = .ok false w := fun tt vv => equal_of fun d => by simp [Op.equalIn, rUnd hL hu]
      exact ⟨hg _ _ (by simp) (by simp), by simp [Go.binOp, he], by simp [Go.binOp, he]⟩
    · cases h
  · split at h
    · rename_i p r vv hu
      injection h with h; subst h; cases hx; cases hy
      have he : (Op.equal t .nilFunc .nilFunc).run L.P w = .ok true w := equal_of fun d => by simp [Op.equalIn, rUnd hL hu]
      exact ⟨hg _ _ (by simp) (by simp), by simp [Go.binOp, he], by simp [Go.binOp, he]⟩
    · cases h
  · split at h
    · rename_i p r vv hu
      injection h with h; subst h
      have he : ∀ g fs cs, (Op.equal t (.func g fs cs) .nilFunc).run L.P w = .ok false w := fun g fs cs => equal_of fun d => by simp [Op.equalIn, rUnd hL hu]
      cases hy
      cases hx with
      | func g fs cs fs' cs' _ _ _ _ => exact ⟨hg _ _ (by simp) (by simp), by simp [Go.binOp, he], by simp [Go.binOp, he]⟩
      | yield l Lp _ => exact ⟨hg _ _ (by simp) (by simp), by simp [Go.binOp, he], by simp [Go.binOp, he]⟩
    · cases h
  · split at h
    · rename_i p hu
      injection h with h; subst h; cases hx; cases hy
      have he : (Op.equal t (.pointer none) (.pointer none)).run L.P w = .ok true w := equal_of fun d => by simp [Op.equalIn, rUnd hL hu]
      exact ⟨hg _ _ (by simp) (by simp), by simp [Go.binOp, he], by simp [Go.binOp, he]⟩
    · cases h
  · split at h
    · rename_i p hu
      injection h with h; subst h; cases hx; cases hy
      have he : ∀ A, (Op.equal t (.pointer (some A)) (.pointer none)).run L.P w = .ok false w := fun A => equal_of fun d => by simp [Op.equalIn, rUnd hL hu]
      exact ⟨hg _ _ (by simp) (by simp), by simp [Go.binOp, he], by simp [Go.binOp, he]⟩
    · cases h
  · rename_i xs ys
    obtain ⟨us, rfl, hus⟩ := hx.agg_inv
    obtain ⟨vs, rfl, hvs⟩ := hy.agg_inv
    obtain ⟨he, hgt⟩ := eqArr_sound hL hus hvs h 9998
    rw [← equal_eq] at he
    refine ⟨?_, by simp [Go.binOp, he], by simp [Go.binOp, he]⟩
    have hd : L.P.eqGuardType L.P.depth t = false := hgt _
    unfold eqGuard
    cases op <;> simp [hd]
  · cases h
end Go.Lg
end
section
set_option linter.unusedSimpArgs false
set_option linter.unusedSectionVars false
namespace Go.Lg
variable [Rel]
variable {L : Look} {w : World} {G : Gh}
theorem guard_else {P : Program} {op : BinOp} {t : TypeId} {ox oy : Operand} {u v : Value} (h1 : op ≠ .eql) (h2 : op ≠ .neq) : (eqGuard op t ox oy u v).run P w = .ok () w := by
  unfold eqGuard
  cases op <;> simp at h1 h2 ⊢
theorem binL_sound (hL : LookOK L) {op : BinOp} {t : TypeId} {x y r : LV} {u v : Value} (hx : VR w G x u) (hy : VR w G y v) (h : binL L op t x y = some r) (ox oy : Operand) :
    ∃ z, (do eqGuard op t ox oy u v; Go.binOp op t u v : Sem Value).run L.P w = .ok z w ∧ VR w G r z := by
  unfold binL at h
  split at h
  · cases he : eqL L t x y with
    | none => simp [he] at h
    | some b =>
      simp [he] at h; subst h
      obtain ⟨h1, h2, h3⟩ := eqL_sound hL hx hy he .eql ox oy
      exact ⟨.bool b, by simp [h1, h2], .bool _⟩
  · cases he : eqL L t x y with
    | none => simp [he] at h
    | some b =>
      simp [he] at h; subst h
      obtain ⟨h1, h2, h3⟩ := eqL_sound hL hx hy he .neq ox oy
      exact ⟨.bool (!b), by simp [h1, h3], .bool _⟩
  · rename_i n1 n2
    have hg := guard_else (P := L.P) (w := w) (t := t) (ox := ox) (oy := oy) (u := u) (v := v) (fun e => n1 e) (fun e => n2 e)
    split at h
    · rename_i j a k b
      cases hx; cases hy
      split at h
      · rename_i z hz
        exact ⟨z, by simp [hg, semPure?_sound hz w], (ofV1_sound h).1⟩
      · cases h
    · rename_i a b
      cases hx; cases hy
      split at h
      · split at h
        · rename_i hle
          injection h with h; subst h
          refine ⟨.string (a ++ b), ?_, .str _⟩
          have : ¬ (((a.size + b.size : Nat) : Int) > IntKind.i64.max) := by
            simp only [IntKind.max, IntKind.signed, IntKind.bits]; simp; omega
          simp only [Sem.run_bind, hg, Result.andThen_ok, Go.binOp, Op.stringOp]
          rw [if_neg this]; rfl
        · cases h
      · injection h with h; subst h
        exact ⟨_, by simp [hg, Go.binOp, Op.stringOp, ByteArray.toList_eq], .bool _⟩
      · cases h
    · cases h
theorem toV_sound {x : LV} {u v : Value} (hx : VR w G x u) (h : toV x = some v) : u = v := by
  cases hx <;> simp [toV] at h <;> exact h
theorem unL_sound {op : UnOp} {x r : LV} {u : Value} (hx : VR w G x u) (h : unL L op x = some r) : ∃ z, (Op.unary op u).run L.P w = .ok z w ∧ VR w G r z := by
  unfold unL at h
  split at h
  · rename_i v hv
    have := toV_sound hx hv; subst this
    split at h
    · rename_i z hz; exact ⟨z, semPure?_sound hz w, (ofV1_sound h).1⟩
    · cases h
  · cases h
theorem convL_sound (hL : LookOK L) {s d : TypeId} {x r : LV} {u : Value} (hx : VR w G x u) (h : convL L s d x = some r) : ∃ z, (Go.convert s d u).run L.P w = .ok z w ∧ VR w G r z := by
  unfold convL at h
  split at h
  · rename_i k n
    split at h
    · rename_i k1 k2 h1 h2
      cases hx
      split at h
      · rename_i z hz; exact ⟨z, by simp [Go.convert, rUnd hL h1, rUnd hL h2, semPure?_sound hz w], (ofV1_sound h).1⟩
      · cases h
    · cases h
  · split at h
    · rename_i s' h1 h2
      injection h with h; subst h; cases hx
      exact ⟨_, by simp [Go.convert, rUnd hL h1, rUnd hL h2], .str _⟩
    · cases h
  · cases h
theorem assertL_sound (hL : LookOK L) {x r : LV} {u : Value} {xt a : TypeId} {ok : Bool} (hx : VR w G x u) (h : assertL L x a ok = some r) : ∃ z, (Instr.typeAssert u xt a ok).run L.P w = .ok z w ∧ VR w G r z := by
  have two : ∀ {x : LV} {v : Value} {b : Bool}, VR w G x v → VR w G (.tuple [x, .bool b]) (.tuple #[v, .bool b]) := fun hv => VRs.tuple (VRs.cons hv (VRs.cons (.bool _) VRs.nil))
  unfold assertL at h
  split at h
  · cases h
  · rename_i d hn hu
    split at h
    · split at h
      · rename_i hok
        subst hok
        cases hz : zeroLV L a with
        | none => simp [hz] at h
        | some z =>
          simp [hz] at h; subst h
          obtain ⟨zv, h1, h2⟩ := rZero hL hz w
          cases hx
          refine ⟨.tuple #[zv, .bool false], ?_, two (ofV_sound h2)⟩
          cases d <;> first | exact absurd rfl (hn _) | simp [Instr.typeAssert, rUnd hL hu, h1]
      · cases h
    · rename_i t v
      cases hx with
      | iface _ _ vv hv =>
      split at h
      · rename_i hta
        injection h with h; subst h; subst hta
        refine ⟨if ok then .tuple #[vv, .bool true] else vv, ?_, ?_⟩
        · cases d <;> first | exact absurd rfl (hn _) | simp [Instr.typeAssert, rUnd hL hu]
        · cases ok
          · exact hv
          · exact two hv
      · rename_i hta
        split at h
        · rename_i hok
          subst hok
          cases hz : zeroLV L a with
          | none => simp [hz] at h
          | some z =>
            simp [hz] at h; subst h
            obtain ⟨zv, h1, h2⟩ := rZero hL hz w
            refine ⟨.tuple #[zv, .bool false], ?_, two (ofV_sound h2)⟩
            cases d <;> first | exact absurd rfl (hn _) | simp [Instr.typeAssert, rUnd hL hu, h1, hta]
        · cases h
    · cases h
  · cases h
theorem ifaceL_sound (hL : LookOK L) {t : TypeId} {x r : LV} {u : Value} (hx : VR w G x u) (h : ifaceL L t x = some r) : ∃ z, (Instr.makeInterface t u).run L.P w = .ok z w ∧ VR w G r z := by
  unfold ifaceL at h
  split at h
  · cases h
  · rename_i d hn hu
    injection h with h; subst h
    refine ⟨.iface t u, ?_, .iface _ _ _ hx⟩
    cases d <;> first | exact absurd rfl (hn _) | simp [Instr.makeInterface, rUnd hL hu]
  · cases h
theorem minmaxL_max {ats : Array TypeId} {ty : TypeId} {xs : List LV} {us : List Value} {r : LV} (hx : VRs w G xs us) (h : minmaxL L .max ats ty xs = some r) : ∃ z, (Builtin.max_ ats ty us.toArray).run L.P w = .ok z w ∧ VR w G r z := by
  unfold minmaxL at h
  split at h
  · rename_i j x k y
    obtain ⟨u1, hu1, hv1⟩ := hx.get (j := 0) rfl
    obtain ⟨u2, hu2, hv2⟩ := hx.get (j := 1) rfl
    have hl := hx.1
    match us, hl with
    | [a, b], _ =>
      simp at hu1 hu2; subst hu1; subst hu2; cases hv1; cases hv2
      split at h
      · rename_i z hz; exact ⟨z, semPure?_sound hz w, (ofV1_sound h).1⟩
      · cases h
  · cases h
theorem minmaxL_min {ats : Array TypeId} {ty : TypeId} {xs : List LV} {us : List Value} {r : LV} (hx : VRs w G xs us) (h : minmaxL L .min ats ty xs = some r) : ∃ z, (Builtin.min_ ats ty us.toArray).run L.P w = .ok z w ∧ VR w G r z := by
  unfold minmaxL at h
  split at h
  · rename_i j x k y
    obtain ⟨u1, hu1, hv1⟩ := hx.get (j := 0) rfl
    obtain ⟨u2, hu2, hv2⟩ := hx.get (j := 1) rfl
    have hl := hx.1
    match us, hl with
    | [a, b], _ =>
      simp at hu1 hu2; subst hu1; subst hu2; cases hv1; cases hv2
      split at h
      · rename_i z hz; exact ⟨z, semPure?_sound hz w, (ofV1_sound h).1⟩
      · cases h
  · cases h
def SeqR (w : World) (G : Gh) (s : Nat) (xs : List LV) (c : Array Value) : Prop :=
  ∀ (i : Nat) (x : LV) (j : Nat) (y : LV), xs[i]? = some x → x.cells[j]? = some y → ∃ u, c[i * s + j]? = some u ∧ VR w G y u
theorem newSlice {σ : LH} (hw : WR G σ w) {xs : List LV} {s cap : Nat} {c : Array Value} {elem : TypeId} (hs : ∀ x ∈ xs, x.wd = s ∧ x.flat = true) (hseq : SeqR w G s xs c) (hcap : xs.length ≤ cap) :
    WR (G.setLim w.heap.size (xs.length * s)) σ (pushW w (.cells c elem (0, 0))) ∧ Ext w G (pushW w (.cells c elem (0, 0))) (G.setLim w.heap.size (xs.length * s)) ∧
    ∀ (G' : Gh) (own : Own) (nz : Option Bool), Ext (pushW w (.cells c elem (0, 0))) (G.setLim w.heap.size (xs.length * s)) (pushW w (.cells c elem (0, 0))) G' → (nz = none ∨ nz = some false) →
      OwnR (pushW w (.cells c elem (0, 0))) G' s xs.length xs.length cap (some ⟨w.heap.size, 0, none⟩) own →
      VR (pushW w (.cells c elem (0, 0))) G' (.slice xs own nz) (.slice (some ⟨w.heap.size, 0, none⟩) xs.length cap) := by
  obtain ⟨h1, h2⟩ := hw.newRow (.cells c elem (0, 0)) (xs.length * s)
  refine ⟨h1, h2, fun G' own nz hext hnz hown => ?_⟩
  refine .slice xs own nz _ cap s (fun i j => (c[i * s + j]?).getD undef) hcap ?_ (by simp) (by simp) hs hown ?_ ?_
  · intro b hb; rcases hnz with h | h <;> rw [h] at hb
    · cases hb
    · injection hb
  · intro A i x j y hA hx hy
    injection hA with hA; subst hA
    obtain ⟨u, hu, _⟩ := hseq i x j y hx hy
    have hi : i < xs.length := (List.getElem?_eq_some_iff.1 hx).1
    have hj : j < s := by
      have := (List.getElem?_eq_some_iff.1 hy).1
      rw [wd_cells] at this
      rw [← (hs x (List.mem_of_getElem? hx)).1]; exact this
    have hlt : i * s + j < xs.length * s := by
      calc i * s + j < i * s + s := by omega
        _ = (i + 1) * s := by rw [Nat.succ_mul]
        _ ≤ xs.length * s := Nat.mul_le_mul_right _ hi
    refine ⟨?_, ?_⟩
    · have := hext.lim w.heap.size
      simp only [Gh.setLim, if_true] at this
      simp only; omega
    · simp only [Nat.zero_add]
      rw [cell?_of (pushW_new _ _), hu]; rfl
  · intro i x j y hx hy
    obtain ⟨u, hu, hv⟩ := hseq i x j y hx hy
    simp only [hu, Option.getD_some]
    exact (hv.ext h2).ext hext
theorem canon1_scalar {x : LV} : x.canon1.scalar = x.scalar := by cases x <;> rfl
theorem canon_flat {x : LV} : x.canon.flat = x.flat ∧ x.canon.wd = x.wd := by
  cases x <;> first | exact ⟨rfl, rfl⟩ | (refine ⟨?_, by simp [LV.canon, LV.wd]⟩; simp only [LV.canon, LV.flat, LV.cells, List.all_map]; congr 1; funext y; simp [Function.comp, canon1_scalar])
theorem elemsL_sound {z : LV} {s : Nat} (hs : 0 < s) : ∀ {ps : List (Nat × LV)} {ps' : List (Nat × Value)} {xs r : List LV} {c : Array Value}, PartsR w G ps ps' → (∀ x ∈ xs, x.wd = s ∧ x.flat = true) → c.size = xs.length * s → SeqR w G s xs c →
    elemsL z s xs ps = some r → ∃ c', Instr.fill (fun i => some (i * s, s)) c ps' = some c' ∧ r.length = xs.length ∧ (∀ x ∈ r, x.wd = s ∧ x.flat = true) ∧ SeqR w G s r c'
  | [], [], xs, r, c, hp, hx, hc, hq, h => by simp [elemsL] at h; subst h; exact ⟨c, rfl, rfl, hx, hq⟩
  | [], _ :: _, xs, r, c, hp, hx, hc, hq, h => by have := hp.1; simp at this
  | _ :: _, [], xs, r, c, hp, hx, hc, hq, h => by have := hp.1; simp at this
  | (i, v) :: ps, (i', v') :: ps', xs, r, c, hp, hx, hc, hq, h => by
    obtain ⟨h1, h2, h3⟩ := hp.tail
    simp only at h1 h2
    subst h1
    simp only [elemsL] at h
    split at h
    · rename_i hif
      obtain ⟨hi, hwd, hfl⟩ := hif
      obtain ⟨hcs, hwd'⟩ := h2.cells hfl
      have hcf := canon_flat (x := v)
      obtain ⟨hccs, _⟩ := h2.canon.cells (hcf.1.trans hfl)
      have hle : i * s + s ≤ c.size := by rw [hc, ← Nat.succ_mul]; exact Nat.mul_le_mul_right _ hi
      have hvs : v'.cells.toList.length = s := by simpa using hwd'.symm.trans hwd
      have hnew : ∀ x ∈ xs.set i v.canon, x.wd = s ∧ x.flat = true := fun x hx' => by
        rcases List.mem_or_eq_of_mem_set hx' with h | h
        · exact hx x h
        · subst h; exact ⟨hcf.2.trans hwd, hcf.1.trans hfl⟩
      have hq' : SeqR w G s (xs.set i v.canon) (putCells c (i * s) v'.cells.toList) := by
        intro a x j y hax hy
        have hj : j < s := by
          have := (List.getElem?_eq_some_iff.1 hy).1
          rw [wd_cells, (hnew x (List.mem_of_getElem? hax)).1] at this; exact this
        rw [putCells_get _ _ _ _ (by omega), hvs]
        rw [List.getElem?_set] at hax
        by_cases hai : i = a
        · subst hai
          rw [if_pos rfl, if_pos hi] at hax
          injection hax with hax; subst hax
          rw [if_pos (by omega), show i * s + j - i * s = j by omega]
          exact hccs.get hy
        · rw [if_neg hai] at hax
          rw [if_neg ?_]
          · exact hq a x j y hax hy
          · rintro ⟨h4, h5⟩
            rcases Nat.lt_or_ge a i with hlt | hge
            · have : (a + 1) * s ≤ i * s := Nat.mul_le_mul_right _ hlt
              rw [Nat.succ_mul] at this; omega
            · have : (i + 1) * s ≤ a * s := Nat.mul_le_mul_right _ (by omega)
              rw [Nat.succ_mul] at this; omega
      obtain ⟨c', hc', hr1, hr2, hr3⟩ := elemsL_sound hs h3 hnew (by rw [putCells_size, List.length_set]; exact hc) hq' h
      refine ⟨c', ?_, by simpa using hr1, hr2, hr3⟩
      simp only [Instr.fill]
      rw [if_neg (by simp; omega)]
      rw [← hc']
      congr 1
      rw [← Array.foldl_toList, Array.toList_zipIdx]
      exact foldl_put (i * s) v'.cells.toList 0 c
    · cases h
end Go.Lg
end
section
set_option linter.unusedSimpArgs false
set_option linter.unusedSectionVars false
namespace Go.Lg
variable [Rel]
variable {L : Look} {w : World} {G : Gh}
theorem VR.bool_inv {b : Bool} {u : Value} (h : VR w G (.bool b) u) : u = .bool b := by cases h; rfl
theorem VR.int_inv {k : IntKind} {n : Int} {u : Value} (h : VR w G (.int k n) u) : u = .int k n := by cases h; rfl
theorem VR.ptr_inv {b o : Nat} {u : Value} (h : VR w G (.ptr b o) u) : ∃ B, u = .pointer (some ⟨B, o, none⟩) ∧ G.mu b = some B := by cases h with | ptr _ _ B hb => exact ⟨B, rfl, hb⟩
theorem VR.func_inv {f : FuncId} {fs cs : List LV} {u : Value} (h : VR w G (.func (.func f) fs cs) u) : ∃ fs' cs', u = .func (.func f) fs' cs' ∧ VRs w G fs fs'.toList ∧ VRs w G cs cs'.toList := by
  cases h with
  | func _ _ _ fs' cs' h1 h2 h3 h4 => exact ⟨fs', cs', rfl, ⟨by simpa using h1, fun j x v hx hv => h3 j x v hx (by simpa using hv)⟩, ⟨by simpa using h2, fun j x v hx hv => h4 j x v hx (by simpa using hv)⟩⟩
theorem VR.yield_inv {l : Nat} {u : Value} (h : VR w G (.func (.yield l) [] []) u) : ∃ B, u = .func (.yield B) #[] #[] ∧ G.mu l = some B := by cases h with | yield _ B hb => exact ⟨B, rfl, hb⟩
theorem VR.iface_inv {t : TypeId} {x : LV} {u : Value} (h : VR w G (.iface t x) u) : ∃ v, u = .iface t v ∧ VR w G x v := by cases h with | iface _ _ v hv => exact ⟨v, rfl, hv⟩
def OpOK (L : Look) (G : Gh) (w : World) (s : Sem Next) (v : LV) (σ' : LH) : Prop :=
  ∃ x u w' G', s.run L.P w = .ok x w' ∧ (x = .value u ∨ (x = .skip ∧ u = undef)) ∧ WR G' σ' w' ∧ Ext w G w' G' ∧ VR w' G' v u
theorem val_run {P : Program} {s : Sem Value} {u : Value} {w' : World} (h : s.run P w = .ok u w') : (do pure (Next.value (← s)) : Sem Next).run P w = .ok (.value u) w' := by simp [h]
theorem OpOK.pure {s : Sem Value} {v : LV} {σ : LH} (hw : WR G σ w) (h : ∃ u, s.run L.P w = .ok u w ∧ VR w G v u) : OpOK L G w (do pure (Next.value (← s))) v σ := by
  obtain ⟨u, h1, h2⟩ := h
  exact ⟨_, u, w, G, val_run h1, .inl rfl, hw, Ext.refl _ _, h2⟩
theorem replicate_get {z : LV} {n i : Nat} {x : LV} (h : (List.replicate n z)[i]? = some x) : x = z ∧ i < n := by
  rw [List.getElem?_replicate] at h
  split at h
  · injection h with h; exact ⟨h.symm, by assumption⟩
  · cases h
theorem zrow_get {c : Array Value} {s n i j : Nat} {u : Value} (hs : c.size = s) (hj : j < s) (hi : i < n) (hu : c[j]? = some u) : ((Array.range (n * s)).map (c[· % c.size]!))[i * s + j]? = some u := by
  have hlt : i * s + j < n * s := by
    calc i * s + j < i * s + s := by omega
      _ = (i + 1) * s := by rw [Nat.succ_mul]
      _ ≤ n * s := Nat.mul_le_mul_right _ hi
  have hm : (i * s + j) % c.size = j := by rw [hs, Nat.mul_comm, Nat.mul_add_mod]; exact Nat.mod_eq_of_lt hj
  have hjc : j < c.size := by omega
  simp only [Array.getElem?_map, Array.getElem?_range, hlt, Option.map, if_true, hm]
  rw [Array.getElem?_eq_getElem hjc] at hu
  simp [hjc] at hu ⊢
  exact hu
theorem zrow_seq {z : LV} {zv : Value} {s n : Nat} (hz : VR w G z zv) (hf : z.flat = true) (hwd : z.wd = s) : SeqR w G s (List.replicate n z.canon) ((Array.range (n * s)).map (zv.cells[· % zv.cells.size]!)) := by
  intro i x j y hx hy
  obtain ⟨rfl, hi⟩ := replicate_get hx
  have hcf := canon_flat (x := z)
  obtain ⟨hc, hw'⟩ := hz.canon.cells (hcf.1.trans hf)
  obtain ⟨u, hu, hv⟩ := hc.get hy
  have hj : j < s := by
    have := (List.getElem?_eq_some_iff.1 hy).1
    rw [wd_cells, hcf.2, hwd] at this; exact this
  refine ⟨u, zrow_get (by rw [← hw', hcf.2]; exact hwd) hj hi (by simpa using hu), hv⟩
theorem range0 (f : Nat → Value) : (Array.range 0).map f = #[] := by
  apply Array.eq_empty_of_size_eq_zero; rw [Array.size_map, Array.size_range]
theorem buildSliceL_sound (hL : LookOK L) {σ : LH} (hw : WR G σ w) {t : TypeId} {n : Nat} {ps : List (Nat × LV)} {ps' : List (Nat × Value)} {v : LV} (hp : PartsR w G ps ps') (h : buildSliceL L t n ps = some v) :
    OpOK L G w (do pure (Next.value (← Instr.buildSlice t n ps'.toArray))) v σ := by
  unfold buildSliceL at h
  split at h
  · rename_i elem hu
    split at h
    · rename_i z s hz hs
      split at h
      · rename_i hc
        obtain ⟨hwd, hf, hpos, hle⟩ := hc
        cases he : elemsL z s (List.replicate n z.canon) ps with
        | none => simp [he] at h
        | some xs =>
          simp [he] at h; subst h
          obtain ⟨zv, hzr, hzo⟩ := rZero hL hz w
          have hzv : VR w G z zv := ofV_sound hzo
          have hcf := canon_flat (x := z)
          obtain ⟨c', hc', hlen, hall, hseq⟩ := elemsL_sound hpos hp (fun x hx => by
            rw [List.eq_of_mem_replicate hx]; exact ⟨hcf.2.trans hwd, hcf.1.trans hf⟩) (c := (Array.range (n * s)).map (zv.cells[· % zv.cells.size]!)) (by simp) (zrow_seq hzv hf hwd) he
          rw [List.length_replicate] at hlen
          subst hlen
          obtain ⟨h1, h2, h3⟩ := newSlice (elem := elem) (cap := xs.length) hw hall hseq (Nat.le_refl _)
          refine ⟨_, .slice (some ⟨w.heap.size, 0, none⟩) xs.length xs.length, _, _, val_run ?_, .inl rfl, h1, h2, ?_⟩
          · have h16 : ¬ xs.length * s > 2 ^ 24 := by omega
            simp only [Instr.buildSlice, Sem.run_bind, rUnd hL hu, Result.andThen_ok, rSize hL hs]
            rw [if_neg h16]
            by_cases h0 : xs.length * s = 0
            · rw [if_pos h0]
              have hf0 : Instr.fill (fun i => some (i * s, s)) (#[] : Array Value) ps' = some c' := by rw [h0, range0] at hc'; exact hc'
              have hr0 : (Array.range (xs.length * s)).map ((#[] : Array Value)[· % (#[] : Array Value).size]!) = #[] := by rw [h0]; exact range0 _
              simp only [Sem.run_bind, Sem.run_pure, Result.andThen_ok, List.toList_toArray, hr0, hf0]
              rfl
            · rw [if_neg h0]
              simp only [Sem.run_bind, hzr, Result.andThen_ok, Sem.run_pure, List.toList_toArray, hc']
              simp [newRow, newObj, Sem.run, pushW]
          · exact h3 _ .exact (some false) (Ext.refl _ _) (.inr rfl) rfl
      · cases h
    · cases h
  · cases h
theorem parts_array (f : Operand → Value) (ps : Array (Nat × Operand)) : ps.map (fun (i, x) => (i, f x)) = (ps.toList.map fun (i, x) => (i, f x)).toArray := by
  apply Array.ext'; simp
theorem args_array (f : Operand → Value) (ps : Array Operand) : ps.map f = (ps.toList.map f).toArray := by
  apply Array.ext'; simp
theorem optL_sound {tm : Tm} {a : Act} (ht : TR w G tm a.tmps) {x : Option Operand} {r : Option LV} (h : optL tm x = some r) : OptR w G r (x.map a.eval) := by
  cases x with
  | none => simp [optL] at h; subst h; trivial
  | some x =>
    simp only [optL] at h
    cases hv : opv tm x with
    | none => simp [hv] at h
    | some v => simp [hv] at h; subst h; exact opv_sound ht hv
theorem pureOp_sound (hL : LookOK L) {σ : LH} (hw : WR G σ w) {tm : Tm} {a : Act} (ht : TR w G tm a.tmps) {o : Oper} {v : LV} (h : pureOp L tm o = some v) : OpOK L G w (execOp a.eval o) v σ := by
  obtain ⟨dst, op, type, pos, after, guard⟩ := o
  have hval : ∀ {x : Operand} {v : LV}, opv tm x = some v → OpOK L G w (Pure.pure (Next.value (a.eval x))) v σ := fun hx => ⟨_, _, w, G, rfl, .inl rfl, hw, Ext.refl _ _, opv_sound ht hx⟩
  cases op with
  | move x => exact hval h
  | assign x => exact hval h
  | pick c x y =>
    simp only [pureOp] at h
    split at h
    · rename_i t hc
      have hcv := opv_sound ht hc
      have hcb : a.eval c = .bool t := hcv.bool_inv
      cases t
      · simp only [Bool.false_eq_true, if_false] at h
        exact ⟨.value (a.eval y), a.eval y, w, G, by simp [execOp, hcb, asBool], .inl rfl, hw, Ext.refl _ _, opv_sound ht h⟩
      · simp only [if_true] at h
        exact ⟨.value (a.eval x), a.eval x, w, G, by simp [execOp, hcb, asBool], .inl rfl, hw, Ext.refl _ _, opv_sound ht h⟩
    · cases h
  | build t ps =>
    simp only [pureOp] at h
    split at h
    · rename_i xs hps
      have := OpOK.pure (s := Instr.build t (ps.map fun (i, x) => (i, a.eval x))) hw (by rw [parts_array]; exact buildL_sound hL (partsL_sound ht hps) h)
      exact this
    · cases h
  | buildSlice t n ps =>
    simp only [pureOp] at h
    split at h
    · rename_i xs hps
      have := buildSliceL_sound hL hw (partsL_sound ht hps) h
      rw [← parts_array] at this
      exact this
    · cases h
  | nilCheck x =>
    simp only [pureOp] at h
    split at h
    · rename_i b oo hx
      injection h with h; subst h
      have hv := opv_sound ht hx
      obtain ⟨B, hB, _⟩ := hv.ptr_inv
      exact ⟨.value (a.eval x), a.eval x, w, G, by simp [execOp, hB], .inl rfl, hw, Ext.refl _ _, hv⟩
    · rename_i cs hx
      injection h with h; subst h
      have hv := opv_sound ht hx
      obtain ⟨B, o, hB, _⟩ := rowR_ro hv
      exact ⟨.value (a.eval x), a.eval x, w, G, by simp [execOp, hB], .inl rfl, hw, Ext.refl _ _, hv⟩
    · rename_i f fs cs hx
      injection h with h; subst h
      have hv := opv_sound ht hx
      obtain ⟨fs', cs', hB, _⟩ := hv.func_inv
      exact ⟨.value (a.eval x), a.eval x, w, G, by simp [execOp, hB], .inl rfl, hw, Ext.refl _ _, hv⟩
    · cases h
  | binOp op t x y yt =>
    simp only [pureOp] at h
    split at h
    · rename_i vx vy hx hy
      exact OpOK.pure hw (binL_sound hL (opv_sound ht hx) (opv_sound ht hy) h x y)
    · cases h
  | unOp op t x =>
    simp only [pureOp] at h
    split at h
    · rename_i vx hx; exact OpOK.pure hw (unL_sound (opv_sound ht hx) h)
    · cases h
  | convert s d x =>
    simp only [pureOp] at h
    split at h
    · rename_i vx hx; exact OpOK.pure hw (convL_sound hL (opv_sound ht hx) h)
    · cases h
  | makeInterface t x =>
    simp only [pureOp] at h
    split at h
    · rename_i vx hx; exact OpOK.pure hw (ifaceL_sound hL (opv_sound ht hx) h)
    · cases h
  | makeFunc fn fs cs =>
    cases fn with
    | func f =>
      simp only [pureOp] at h
      split at h
      · rename_i vf vc hf hc
        injection h with h; subst h
        have h1 := opvs_sound ht hf
        have h2 := opvs_sound ht hc
        refine OpOK.pure hw ⟨_, rfl, .func f vf vc _ _ (by simpa using h1.1) (by simpa using h2.1) (fun j x u hx hu => h1.2 j x u hx ?_) (fun j x u hx hu => h2.2 j x u hx ?_)⟩
        · simpa [List.getElem?_map] using hu
        · simpa [List.getElem?_map] using hu
      · cases h
    | _ => simp [pureOp] at h
  | slice t x lo hi mx =>
    simp only [pureOp] at h
    split at h
    · rename_i vx vlo vhi vmx hx hlo hhi hmx
      exact OpOK.pure hw (sliceL_sound hL (opv_sound ht hx) (optL_sound ht hlo) (optL_sound ht hhi) (optL_sound ht hmx) h)
    · cases h
  | fieldAddr t x f =>
    simp only [pureOp] at h
    split at h
    · rename_i vx hx; exact OpOK.pure hw (fieldAddrL_sound hL (opv_sound ht hx) h)
    · cases h
  | field t x f =>
    simp only [pureOp] at h
    split at h
    · rename_i vx hx; exact OpOK.pure hw (fieldL_sound hL (opv_sound ht hx) h)
    · cases h
  | indexAddr t x i =>
    simp only [pureOp] at h
    split at h
    · rename_i vx vi hx hi; exact OpOK.pure hw (indexAddrL_sound hL (opv_sound ht hx) (opv_sound ht hi) h)
    · cases h
  | index t x i =>
    simp only [pureOp] at h
    split at h
    · rename_i vx vi hx hi; exact OpOK.pure hw (indexL_sound hL (opv_sound ht hx) (opv_sound ht hi) h)
    · cases h
  | typeAssert x xt as ok =>
    simp only [pureOp] at h
    split at h
    · rename_i vx hx; exact OpOK.pure hw (assertL_sound hL (opv_sound ht hx) h)
    · cases h
  | extract x i =>
    simp only [pureOp] at h
    split at h
    · rename_i vs hx
      obtain ⟨us, hu, hvs⟩ := (opv_sound ht hx).tuple_inv
      obtain ⟨u, hu', hv⟩ := hvs.get h
      have hu'' : us[i]? = some u := by simpa using hu'
      exact OpOK.pure hw ⟨u, by simp [hu, Instr.extract, hu''], hv⟩
    · cases h
  | call c =>
    obtain ⟨callee, args, ats⟩ := c
    cases callee with
    | builtin b =>
      cases b
      case len =>
        simp only [pureOp] at h
        split at h
        · rename_i x t hx ht'
          have h1 := opvs_sound ht hx
          obtain ⟨u, hu, hv⟩ := h1.get (j := 0) rfl
          have hl := h1.1
          have hargs : args.map a.eval = #[u] := by
            rw [args_array]
            match hh : args.toList.map a.eval, hl, hu with
            | [u'], _, hu => simp at hu; subst hu; rfl
          obtain ⟨z, h2, h3⟩ := lenL_sound hL (ty := type) hv ht' h
          exact ⟨.value z, z, w, G, by simp [execOp, resolve, invoke, builtin, hargs, h2], .inl rfl, hw, Ext.refl _ _, h3⟩
        · cases h
      case max =>
        simp only [pureOp] at h
        split at h
        · rename_i xs hx
          obtain ⟨z, h2, h3⟩ := minmaxL_max (opvs_sound ht hx) h
          rw [← args_array] at h2
          exact ⟨.value z, z, w, G, by simp [execOp, resolve, invoke, builtin, h2], .inl rfl, hw, Ext.refl _ _, h3⟩
        · cases h
      case min =>
        simp only [pureOp] at h
        split at h
        · rename_i xs hx
          obtain ⟨z, h2, h3⟩ := minmaxL_min (opvs_sound ht hx) h
          rw [← args_array] at h2
          exact ⟨.value z, z, w, G, by simp [execOp, resolve, invoke, builtin, h2], .inl rfl, hw, Ext.refl _ _, h3⟩
        · cases h
      all_goals simp [pureOp] at h
    | value f => simp [pureOp] at h
    | invoke r m => simp [pureOp] at h
  | _ => simp [pureOp] at h
end Go.Lg
end
section
set_option linter.unusedSimpArgs false
set_option linter.unusedSectionVars false
namespace Go.Lg
variable [Rel]
variable {L : Look} {w : World} {G : Gh}
theorem VRs.ext' {w' : World} {G' : Gh} (e : Ext w G w' G') {xs : List LV} {vs : List Value} (h : VRs w G xs vs) : VRs w' G' xs vs := h.ext e
theorem newBox_ok {σ : LH} (hw : WR G σ w) {t : TypeId} {cs : List LV} {c : Array Value} (hr : LV.refsOK (σ.boxes.length + 1) cs = true) (hc : VRs w G cs c.toList) :
    WR (G.setMu σ.boxes.length w.heap.size) { σ with boxes := σ.boxes ++ [.cells t cs] } (pushW w (.cells c t (0, 0))) ∧ Ext w G (pushW w (.cells c t (0, 0))) (G.setMu σ.boxes.length w.heap.size) ∧
    VR (pushW w (.cells c t (0, 0))) (G.setMu σ.boxes.length w.heap.size) (.ptr σ.boxes.length 0) (.pointer (some ⟨w.heap.size, 0, none⟩)) := by
  obtain ⟨h1, h2⟩ := hw.newBox (o := .cells t cs) (obj := .cells c t (0, 0)) hr (fun w' G' e hget => ⟨c, hget, hc.ext0 e⟩)
  exact ⟨h1, h2, .ptr _ _ _ (by simp [Gh.setMu])⟩
theorem run_newVar {P : Program} {t : TypeId} {v : Value} : (newVar t v).run P w = .ok ⟨w.heap.size, 0, none⟩ (pushW w (.cells v.cells t (0, 0))) := by
  simp [newVar, newRow, newObj, Sem.run, pushW]
theorem allocL_sound (hL : LookOK L) {σ : LH} (hw : WR G σ w) {t : TypeId} {z : LV} (hz : zeroLV L t = some z) (hr : z.refOK (σ.boxes.length + 1) = true) :
    OpOK L G w (do pure (Next.value (← Instr.alloc t true (.tuple #[])))) (.ptr σ.boxes.length 0) { σ with boxes := σ.boxes ++ [.cells t z.cells] } := by
  obtain ⟨zv, h1, h2⟩ := rZero hL hz w
  obtain ⟨h3, h4, h5⟩ := newBox_ok (t := t) hw (by rw [refOK_cells]; exact hr) (ofV_cells h2)
  refine ⟨_, _, _, _, val_run ?_, .inl rfl, h3, h4, h5⟩
  simp [Instr.alloc, h1, run_newVar]
theorem boxL_sound {σ : LH} (hw : WR G σ w) {t : TypeId} {v : LV} {u : Value} (hv : VR w G v u) (hf : v.flat = true) (hr : v.refOK (σ.boxes.length + 1) = true) :
    OpOK L G w (do pure (Next.value (← Instr.box t u))) (.ptr σ.boxes.length 0) { σ with boxes := σ.boxes ++ [.cells t v.cells] } := by
  obtain ⟨h3, h4, h5⟩ := newBox_ok (t := t) hw (by rw [refOK_cells]; exact hr) (hv.cells hf).1
  refine ⟨_, _, _, _, val_run ?_, .inl rfl, h3, h4, h5⟩
  simp [Instr.box, run_newVar]
theorem shape_set {B : Nat} {c c' : Array Value} {t : TypeId} (h : w.heap[B]? = some (.cells c t (0, 0))) (hs : c'.size = c.size) : ∀ s, w.shape? B = some s → (setHeap w B (.cells c' t (0, 0))).shape? B = some s := by
  intro s hsh
  simp only [World.shape?, h] at hsh
  simp only [World.shape?, setHeap_get h, hs]
  exact hsh
theorem storeL_sound (hL : LookOK L) {σ σ' : LH} (hw : WR G σ w) {t : TypeId} {x v : LV} {xu u : Value} (hx : VR w G x xu) (hv : VR w G v u) (h : storeL L σ t x v = some σ') :
    OpOK L G w (do Instr.storeAt t xu u; pure .skip) (.tuple []) σ' := by
  unfold storeL at h
  split at h
  · rename_i b o
    split at h
    · rename_i bt cs s hbox hs
      split at h
      · rename_i hc
        obtain ⟨hwd, hle, hf, hr⟩ := hc
        injection h with h; subst h
        obtain ⟨B, rfl, hb⟩ := hx.ptr_inv
        obtain ⟨c, hBc, hvs⟩ := box_row hw hb hbox
        obtain ⟨hcs, hwd'⟩ := hv.cells hf
        have hlen : cs.length = c.size := by simpa using hvs.1
        have hul : u.cells.toList.length = s := by simpa using hwd'.symm.trans hwd
        have hrun := run_storeCells (P := L.P) u.cells.toList (w := w) (B := B) (o := o) (i := 0) (c := c) (t := bt) hBc (by omega) (hv.cells_scalar hf)
        rw [Nat.add_zero] at hrun
        have hold : LV.refsOK (refB b σ.boxes.length) cs = true := by
          unfold boxOf at hbox
          split at hbox
          · rename_i t' cs' hb'
            simp at hbox; obtain ⟨rfl, rfl⟩ := hbox
            exact hw.ref b _ hb'
          · cases hbox
        have href : LV.refsOK (refB b σ.boxes.length) (setRange cs o v.cells) = true := by
          rw [refsOK_iff] at hold ⊢
          intro y hy
          simp only [setRange, List.mem_append] at hy
          rcases hy with (hy | hy) | hy
          · exact hold y (List.mem_of_mem_take hy)
          · have := hr; rw [← refOK_cells, refsOK_iff] at this; exact this y hy
          · exact hold y (List.mem_of_mem_drop hy)
        obtain ⟨h1, h2⟩ := hw.upd (w' := setHeap w B (.cells (putCells c o u.cells.toList) bt (0, 0))) (o' := .cells bt (setRange cs o v.cells)) hb (setHeap_size _ _ _) (fun B' hB' => setHeap_ne hB') (shape_set hBc (putCells_size _ _ _)) href (Nt.set hBc)
          (fun e => ⟨_, setHeap_get hBc, (VRs.put hvs hcs (by rw [wd_cells]; omega)).ext e⟩) (b :: σ.ws)
        refine ⟨.skip, undef, _, G, ?_, .inr ⟨rfl, rfl⟩, h1, h2, .tuple [] #[] rfl (by simp)⟩
        have hsz : ¬ u.cells.size ≠ s := by simpa using hul
        simp only [Instr.storeAt, Instr.sureAddr, storeVar, Sem.run_bind, Sem.run_pure, Result.andThen_ok, rSize hL hs]
        rw [if_neg hsz]
        simp only [Sem.run_bind, Sem.run_pure, Result.andThen_ok, hrun]
      · cases h
    · cases h
  · cases h
theorem VR.slice_load {P : Program} {xs : List LV} {own : Own} {nz : Option Bool} {a : Option Addr} {len cap : Nat} (h : VR w G (.slice xs own nz) (.slice a len cap)) {s : Nat} (hpos : 0 < s) (hs : ∀ x, xs.head? = some x → x.wd = s) :
    ∃ c : Array Value, (Builtin.firstCells s xs.length (.slice a len cap)).run P w = .ok c w ∧ c.size = xs.length * s ∧ SeqR w G s xs c ∧ (∀ u ∈ c.toList, Value.scalar' u = true) ∧ (∀ x ∈ xs, x.wd = s ∧ x.flat = true) := by
  cases h with
  | slice xs own nz a cap s' f hcap hnz hnil hsp hw hown hc hv =>
    cases a with
    | none =>
      obtain ⟨h1, _⟩ := hnil rfl; subst h1
      exact ⟨#[], rfl, by simp, fun i x j y hx => by simp at hx, by simp, by simp⟩
    | some A =>
      have hss : ∀ x ∈ xs, x.wd = s ∧ x.flat = true := fun x hx => by
        cases xs with
        | nil => simp at hx
        | cons y ys => exact ⟨((hw x hx).1.trans (hw y (by simp)).1.symm).trans (hs y rfl), (hw x hx).2⟩
      have hs' : ∀ x ∈ xs, s' = s := fun x hx => (hw x hx).1.symm.trans (hss x hx).1
      let vs : List Value := (List.range (xs.length * s)).map fun k => f (k / s) (k % s)
      have hk : ∀ k, k < xs.length * s → ∃ x y, xs[k / s]? = some x ∧ x.cells[k % s]? = some y ∧ x ∈ xs := fun k hk => by
        have h1 : k / s < xs.length := Nat.div_lt_of_lt_mul (by rw [Nat.mul_comm]; exact hk)
        have hmem : xs[k / s] ∈ xs := List.getElem_mem h1
        have h2 : k % s < (xs[k / s]).cells.length := by rw [wd_cells, (hss _ hmem).1]; exact Nat.mod_lt _ hpos
        exact ⟨xs[k / s], (xs[k / s]).cells[k % s], by simp [h1], by simp [h2], hmem⟩
      have hdm : ∀ k, k / s * s + k % s = k := fun k => by rw [Nat.mul_comm]; exact Nat.div_add_mod k s
      have hvget : ∀ k, k < xs.length * s → vs[k]? = some (f (k / s) (k % s)) := fun k hk => by simp [vs, hk]
      refine ⟨vs.toArray, ?_, by simp [vs], ?_, ?_, hss⟩
      · simp only [Builtin.firstCells]
        rcases Nat.eq_zero_or_pos xs.length with h0 | hp0
        · have hv0 : vs = [] := by simp [vs, h0]
          rw [hv0, h0, Nat.zero_mul]; rfl
        refine run_loadCells ((hsp A rfl).resolve_left (by omega)) (by simp [vs]) fun k u hu => ?_
        have hlt : k < xs.length * s := by
          have := (List.getElem?_eq_some_iff.1 hu).1
          simpa [vs] using this
        obtain ⟨x, y, h1, h2, h3⟩ := hk k hlt
        rw [hvget k hlt] at hu; injection hu with hu; subst hu
        have := (hc A (k / s) x (k % s) y rfl h1 h2).2
        rw [hs' x h3] at this
        rwa [Nat.add_assoc, hdm] at this
      · intro i x j y hx hy
        have hi : i < xs.length := (List.getElem?_eq_some_iff.1 hx).1
        have hj : j < s := by
          have := (List.getElem?_eq_some_iff.1 hy).1
          rw [wd_cells, (hss x (List.mem_of_getElem? hx)).1] at this; exact this
        have hlt : i * s + j < xs.length * s := by
          calc i * s + j < i * s + s := by omega
            _ = (i + 1) * s := by rw [Nat.succ_mul]
            _ ≤ xs.length * s := Nat.mul_le_mul_right _ hi
        refine ⟨f i j, ?_, hv i x j y hx hy⟩
        have := hvget _ hlt
        have e1 : (i * s + j) / s = i := by rw [Nat.mul_comm, Nat.mul_add_div hpos, Nat.div_eq_of_lt hj]; rfl
        have e2 : (i * s + j) % s = j := by rw [Nat.mul_comm, Nat.mul_add_mod]; exact Nat.mod_eq_of_lt hj
        rw [e1, e2] at this
        simpa using this
      · intro u hu
        simp only [vs, List.mem_map, List.mem_range] at hu
        obtain ⟨k, hlt, rfl⟩ := hu
        obtain ⟨x, y, h1, h2, h3⟩ := hk k hlt
        exact scalar_of (hv _ x _ y h1 h2) (flat_scalar (hss x h3).2 y (List.mem_of_getElem? h2))
theorem growBy_le (newLen c : Nat) : Builtin.growBy newLen 4 c ≤ 3 * c + 4096 := by
  simp only [Builtin.growBy]
  repeat' split
  all_goals omega
theorem nextslicecap_le (n o : Nat) : Builtin.nextslicecap n o ≤ n + 3 * o + 4096 := by
  unfold Builtin.nextslicecap
  have := growBy_le n o
  split
  · omega
  · split
    · omega
    · omega
theorem askRoom_run {P : Program} (n : Nat) (w : World) : (askRoom n).run P w = .ok () w := by
  unfold askRoom; split <;> rfl
theorem choose_cap {P : Program} (need old : Nat) (elem : TypeId) (w : World) (h : need < 2 ^ 63) : ∃ n, (choose (.appendCap need old elem)).run P w = .ok n { w with drawn := w.drawn + 1 } ∧ need ≤ n := by
  refine ⟨_, rfl, ?_⟩
  simp only [Question.cut]
  omega
theorem SeqR.append {s : Nat} {xs ys : List LV} {c d e : Array Value} (hx : SeqR w G s xs c) (hy : SeqR w G s ys d) (hc : c.size = xs.length * s) (hxs : ∀ x ∈ xs, x.wd = s) (hys : ∀ y ∈ ys, y.wd = s) (hd : d.size = ys.length * s) : SeqR w G s (xs ++ ys) (c ++ d ++ e) := by
  intro i x j y hix hjy
  simp only [List.getElem?_append] at hix
  split at hix
  · rename_i hlt
    obtain ⟨u, hu, hv⟩ := hx i x j y hix hjy
    refine ⟨u, ?_, hv⟩
    have hlt' := (Array.getElem?_eq_some_iff.1 hu).1
    rw [Array.append_assoc, Array.getElem?_append_left hlt']; exact hu
  · rename_i hge
    obtain ⟨u, hu, hv⟩ := hy (i - xs.length) x j y hix hjy
    refine ⟨u, ?_, hv⟩
    have hlt' := (Array.getElem?_eq_some_iff.1 hu).1
    have e1 : i * s + j = c.size + ((i - xs.length) * s + j) := by
      rw [hc, ← Nat.add_assoc, ← Nat.add_mul, show xs.length + (i - xs.length) = i by omega]
    rw [e1, Array.append_assoc, Array.getElem?_append_right (by omega), Nat.add_sub_cancel_left, Array.getElem?_append_left hlt']
    exact hu
theorem SeqR.ext {w' : World} {G' : Gh} (e : Ext w G w' G') {s : Nat} {xs : List LV} {c : Array Value} (h : SeqR w G s xs c) : SeqR w' G' s xs c :=
  fun i x j y hx hy => let ⟨u, hu, hv⟩ := h i x j y hx hy; ⟨u, hu, hv.ext e⟩
theorem newTok {σ : LH} (hw : WR G σ w) {xs : List LV} {s cap : Nat} {c : Array Value} {elem : TypeId} (hpos : 0 < xs.length) (hs : ∀ x ∈ xs, x.wd = s ∧ x.flat = true) (hseq : SeqR w G s xs c) (hcap : xs.length ≤ cap) (hc : cap * s ≤ c.size) :
    ∃ G', WR G' { σ with toks := σ.toks ++ [true] } (pushW w (.cells c elem (0, 0))) ∧ Ext w G (pushW w (.cells c elem (0, 0))) G' ∧
      VR (pushW w (.cells c elem (0, 0))) G' (.slice xs (.tok σ.toks.length) (some false)) (.slice (some ⟨w.heap.size, 0, none⟩) xs.length cap) := by
  obtain ⟨h1, h2, h3⟩ := newSlice (elem := elem) (cap := cap) hw hs hseq hcap
  have hnew := pushW_new w (.cells c elem (0, 0))
  obtain ⟨h4, h5⟩ := h1.addTok (hfx := hw.fixh) (B := w.heap.size) (e := xs.length * s) (c := c) (t := elem) (by simp [Gh.setLim]) (fun b hb => by have := (hw.low b _ hb).2; omega) hnew
    (fun k p hk hp => by
      obtain ⟨B, e, k1, _, _, c', t', k2⟩ := hw.tok k hk
      have k1' : (G.setLim w.heap.size (xs.length * s)).tok k = some (B, e) := k1
      rw [k1'] at hp; injection hp with hp; subst hp
      have := heap_lt k2
      simp only; omega)
  refine ⟨_, h4, h2.trans h5, h3 _ _ _ h5 (.inr rfl) ?_⟩
  refine ⟨_, rfl, hpos, by simp [Gh.addTok], elem, c.size, ?_, by simpa using hc⟩
  simp [World.shape?, hnew]
end Go.Lg
end
section
set_option linter.unusedSimpArgs false
set_option linter.unusedSectionVars false
namespace Go.Lg
variable [Rel]
variable {L : Look} {w : World} {G : Gh}
theorem ty_info (hL : LookOK L) {t : TypeId} {y : TyL} (h : L.tyOf t = some y) : ∃ i, (∀ w, (typeInfo t).run L.P w = .ok i w) ∧ (∀ w, (sizeOf t).run L.P w = .ok y.size w) ∧ i.bytes = y.bytes ∧ ((y.zero.any (·.wd == y.size)) = true → ∃ z, (∀ w, (zeroValue t).run L.P w = .ok z w) ∧ z.cells.size = y.size) := by
  obtain ⟨i, h1, h2, h3, h4⟩ := (hL.ty t y h).info
  refine ⟨i, fun w => run_typeInfo w h1, fun w => by simp [sizeOf, run_typeInfo w h1, h2], h3, fun hz => ?_⟩
  cases hyz : y.zero with
  | none => simp [hyz] at hz
  | some z =>
    obtain ⟨v, h5, h6⟩ := h4 z hyz
    have h7 := (ofV_cells (w := default) (G := ⟨fun _ => none, fun _ => 0, fun _ => none, 0, 0⟩) h6).1
    rw [wd_cells] at h7
    simp [hyz] at hz
    exact ⟨v, fun w => by simp [zeroValue, run_typeInfo w h1, h5], by simpa using h7.symm.trans hz⟩
theorem zeroCells_size (z : Array Value) (n : Nat) : (Builtin.zeroCells z n).size = n * z.size := by simp [Builtin.zeroCells]
theorem head_of {xs : List LV} {s : Nat} (h : (xs.head?.all (·.wd == s)) = true) : ∀ x, xs.head? = some x → x.wd = s := by
  intro x hx; rw [hx] at h; simpa using h
theorem append_grow (hL : LookOK L) {ats : Array TypeId} {ty st xt elem e' : TypeId} {y : TyL} {xs ys : List LV} {own own' : Own} {nz nz' : Option Bool} {a b : Option Addr} {cap cap' : Nat} {σ : LH}
    (hw : WR G σ w) (hst : L.und st = some (.slice elem)) (hxt : L.und xt = some (.slice e')) (hy : L.tyOf elem = some y) (h0 : ats[0]? = some st) (h1 : ats[1]? = some xt)
    (hs : VR w G (.slice xs own nz) (.slice a xs.length cap)) (hx : VR w G (.slice ys own' nz') (.slice b ys.length cap'))
    (hpos : 0 < y.size) (hby : y.bytes ≤ 16384) (hle : xs.length + ys.length ≤ 1073741824) (hhx : (xs.head?.all (·.wd == y.size)) = true) (hhy : (ys.head?.all (·.wd == y.size)) = true) (hz : (y.zero.any (·.wd == y.size)) = true)
    (hne : 0 < ys.length) (hgrow : ¬ xs.length + ys.length ≤ cap) (hcap : cap < xs.length + ys.length) :
    ∃ w' G' u, (Builtin.append_ ats ty #[.slice a xs.length cap, .slice b ys.length cap']).run L.P w = .ok u w' ∧ WR G' { σ with toks := σ.toks ++ [true] } w' ∧ Ext w G w' G' ∧ VR w' G' (.slice (xs ++ ys) (.tok σ.toks.length) (some false)) u := by
  obtain ⟨i, hi, hsz, hib, hzz⟩ := ty_info hL hy
  obtain ⟨z, hzr, hzs⟩ := hzz hz
  obtain ⟨n, hn, hnle⟩ := choose_cap (P := L.P) (xs.length + ys.length) cap elem w (by omega)
  have hheap : Ext w G { w with drawn := w.drawn + 1 } G := Ext.of_heap (w := w) (w' := { w with drawn := w.drawn + 1 }) rfl G
  have hw1 : WR G σ { w with drawn := w.drawn + 1 } := WR.of_heap (w := w) (w' := { w with drawn := w.drawn + 1 }) rfl hw
  obtain ⟨c, hc1, hc2, hc3, hc4, hc5⟩ := (hs.ext hheap).slice_load (P := L.P) hpos (head_of hhx)
  obtain ⟨d, hd1, hd2, hd3, hd4, hd5⟩ := (hx.ext hheap).slice_load (P := L.P) hpos (head_of hhy)
  have hb1 : ¬ (((xs.length + ys.length : Nat) : Int) > IntKind.i64.max ∧ (False ∨ i.bytes = 0)) := by
    rintro ⟨hgt, _⟩
    simp only [IntKind.max, IntKind.signed, IntKind.bits] at hgt
    simp at hgt; omega
  have hb2 : ¬ (Builtin.nextslicecap (xs.length + ys.length) cap * i.bytes > 2 ^ 48) := by
    have h1 := nextslicecap_le (xs.length + ys.length) cap
    have h2 : Builtin.nextslicecap (xs.length + ys.length) cap * i.bytes ≤ (4294967296 + 4096) * 16384 := Nat.mul_le_mul (by omega) (by omega)
    omega
  obtain ⟨G', g1, g2, g3⟩ := newTok (elem := elem) (xs := xs ++ ys) (s := y.size) (cap := n) (c := c ++ d ++ Builtin.zeroCells z.cells (n - (xs.length + ys.length))) hw1 (by simp; omega)
    (fun x hx => (List.mem_append.1 hx).elim (hc5 x) (hd5 x)) (hc3.append hd3 hc2 (fun x hx => (hc5 x hx).1) (fun x hx => (hd5 x hx).1) hd2) (by simp; omega) (by
      simp only [Array.size_append, hc2, hd2, zeroCells_size, hzs]
      rw [← Nat.add_mul, ← Nat.add_mul]
      exact Nat.mul_le_mul_right _ (by omega))
  refine ⟨_, G', _, ?_, g1, hheap.trans g2, g3⟩
  simp only [Builtin.append_, h0, h1, List.getElem?_toArray, List.getElem?_cons_zero, List.getElem?_cons_succ, Sem.run_bind, rUnd hL hst, rUnd hL hxt, Result.andThen_ok, hsz, Sem.run_pure, Builtin.lenOf, Bool.false_eq_true, if_false]
  rw [if_neg hgrow]
  simp only [Sem.run_bind, hi, Result.andThen_ok]
  rw [if_neg hb1]
  simp only [Sem.run_bind, hi, Result.andThen_ok]
  rw [if_neg hb2]
  simp only [Sem.run_bind, hn, Result.andThen_ok, hi, askRoom_run, hc1, Bool.not_false, if_true, hd1, hzr]
  rw [List.length_append]
  rfl
theorem append_place (hL : LookOK L) {ats : Array TypeId} {ty st xt elem e' : TypeId} {y : TyL} {xs ys : List LV} {own' : Own} {k : Nat} {nz nz' : Option Bool} {a b : Option Addr} {cap cap' : Nat} {σ : LH}
    (hw : WR G σ w) (hst : L.und st = some (.slice elem)) (hxt : L.und xt = some (.slice e')) (hy : L.tyOf elem = some y) (h0 : ats[0]? = some st) (h1 : ats[1]? = some xt)
    (hs : VR w G (.slice xs (.tok k) nz) (.slice a xs.length cap)) (hx : VR w G (.slice ys own' nz') (.slice b ys.length cap'))
    (hpos : 0 < y.size) (hhx : (xs.head?.all (·.wd == y.size)) = true) (hhy : (ys.head?.all (·.wd == y.size)) = true)
    (hk : σ.toks[k]? = some true) (hroom : xs.length + ys.length ≤ cap) :
    ∃ w' G' u, (Builtin.append_ ats ty #[.slice a xs.length cap, .slice b ys.length cap']).run L.P w = .ok u w' ∧ WR G' { σ with toks := σ.toks.set k false ++ [true] } w' ∧ Ext w G w' G' ∧ VR w' G' (.slice (xs ++ ys) (.tok σ.toks.length) (some false)) u := by
  obtain ⟨i, hi, hsz, hib, hzz⟩ := ty_info hL hy
  obtain ⟨d, hd1, hd2, hd3, hd4, hd5⟩ := hx.slice_load (P := L.P) hpos (head_of hhy)
  obtain ⟨c, hc1, hc2, hc3, hc4, hc5⟩ := hs.slice_load (P := L.P) hpos (head_of hhx)
  obtain ⟨B, e, hkB, hlim, hnm, blk, bt, hblk⟩ := hw.tok k hk
  cases hs with
  | slice _ _ _ _ _ s f hcap hnz hnil hsp hww hown hcc hvv =>
  obtain ⟨A, hA, hn, hkA, t, N, hsh, hle⟩ := hown
  subst hA
  have hmem : ∃ x, x ∈ xs := by
    cases xs with
    | nil => simp at hn
    | cons z zs => exact ⟨z, by simp⟩
  obtain ⟨x0, hx0⟩ := hmem
  have hss : s = y.size := (hww x0 hx0).1.symm.trans (hc5 x0 hx0).1
  subst hss
  rw [hkB] at hkA
  injection hkA with hkA
  injection hkA with hBA heA
  subst hBA
  have hspA : A.spot = none := (hsp A rfl).resolve_left (by have : 0 < xs.length := hn; omega)
  have hN : blk.size = N ∧ bt = t := by
    simp only [World.shape?, hblk] at hsh
    injection hsh with hsh; injection hsh with h2 h3; exact ⟨h3, h2⟩
  obtain ⟨rfl, rfl⟩ := hN
  have hend : e + ys.length * y.size ≤ blk.size := by
    have : (xs.length + ys.length) * y.size ≤ cap * y.size := Nat.mul_le_mul_right _ hroom
    rw [Nat.add_mul] at this
    omega
  have hdl : d.toList.length = ys.length * y.size := by simpa using hd2
  have hrun := run_storeCells (P := L.P) d.toList (w := w) (B := A.block) (o := A.off + xs.length * y.size) (i := 0) (c := blk) (t := bt) hblk (by omega) hd4
  rw [Nat.add_zero, ← heA] at hrun
  let w' := setHeap w A.block (.cells (putCells blk e d.toList) bt (0, 0))
  have hno : ∀ k' p, (σ.toks.set k false)[k']? = some true → G.tok k' = some p → p.1 ≠ A.block := fun k' p hk' hp hpB => by
    have hne : k' ≠ k := fun hkk => by
      subst hkk
      rw [List.getElem?_set] at hk'
      simp at hk'
    rw [List.getElem?_set_ne (Ne.symm hne)] at hk'
    obtain ⟨p1, p2⟩ := p
    simp only at hpB; subst hpB
    exact hne (hw.tokinj _ _ _ _ _ hk' hk hp hkB)
  obtain ⟨g1, g2⟩ := (hw.spend k).grow (hfx := hw.fixt k _ _ hk hkB) (w' := w') (B := A.block) (n := e + ys.length * y.size) hnm (setHeap_size _ _ _) (heap_lt hblk) (fun B' hB' => setHeap_ne hB') (shape_set hblk (putCells_size _ _ _)) (by omega)
    (fun o ho => by
      rw [cell?_of (setHeap_get hblk), cell?_of hblk, putCells_get _ _ _ _ (by omega), if_neg (by omega)]) hno (Nt.set hblk)
  obtain ⟨g3, g4⟩ := g1.addTok (hfx := hw.fixt k _ _ hk hkB) (B := A.block) (e := e + ys.length * y.size) (c := putCells blk e d.toList) (t := bt) (by simp [Gh.setLim]) hnm (setHeap_get hblk) hno
  have hfin : ({ boxes := σ.boxes, toks := σ.toks.set k false ++ [true], ws := σ.ws } : LH) = { ({ σ with toks := σ.toks.set k false } : LH) with toks := ({ σ with toks := σ.toks.set k false } : LH).toks ++ [true] } := rfl
  have hTl : ({ σ with toks := σ.toks.set k false } : LH).toks.length = σ.toks.length := by simp
  rw [hTl] at g3 g4
  have e1 : Ext w G w' ((G.setLim A.block (e + ys.length * y.size)).addTok σ.toks.length A.block (e + ys.length * y.size)) := g2.trans g4
  refine ⟨w', _, .slice (some A) (xs ++ ys).length cap, ?_, g3, e1, ?_⟩
  · simp only [Builtin.append_, h0, h1, List.getElem?_toArray, List.getElem?_cons_zero, List.getElem?_cons_succ, Sem.run_bind, rUnd hL hst, rUnd hL hxt, Result.andThen_ok, hsz, Sem.run_pure, Builtin.lenOf, Bool.false_eq_true, if_false]
    rw [if_pos hroom]
    simp only [Bool.not_false, if_true, Sem.run_bind, hd1, Result.andThen_ok, addr_add hspA, Sem.run_pure, List.length_append]
    rw [← heA, hrun]
    rfl
  · refine .slice (xs ++ ys) _ _ (some A) cap y.size (fun i j => if i < xs.length then f i j else (d[(i - xs.length) * y.size + j]?).getD undef) (by simpa using hroom) (fun b hb => by injection hb) (by simp) hsp ?_ ?_ ?_ ?_
    · intro x hx
      rcases List.mem_append.1 hx with h | h
      · exact hc5 x h
      · exact hd5 x h
    · refine ⟨A, rfl, by simp; omega, ?_, bt, blk.size, e1.shape _ _ hsh, hle⟩
      simp only [Gh.addTok, if_true]
      rw [List.length_append, Nat.add_mul, ← Nat.add_assoc, ← heA]
    · intro A' i x j z hA' hix hjz
      injection hA' with hA'; subst hA'
      simp only [List.getElem?_append] at hix
      split at hix
      · rename_i hlt
        have := hcc A i x j z rfl hix hjz
        rw [if_pos hlt]
        exact ⟨Nat.lt_of_lt_of_le this.1 (e1.lim _), (e1.cell _ _ this.1).trans this.2⟩
      · rename_i hge
        rw [if_neg hge]
        obtain ⟨u, hu, hv⟩ := hd3 (i - xs.length) x j z hix hjz
        have hlt' := (Array.getElem?_eq_some_iff.1 hu).1
        have e2 : A.off + i * y.size + j = e + ((i - xs.length) * y.size + j) := by
          rw [heA, Nat.add_assoc, Nat.add_assoc, ← Nat.add_assoc (xs.length * y.size), ← Nat.add_mul, show xs.length + (i - xs.length) = i by omega]
        rw [e2]
        refine ⟨?_, ?_⟩
        · simp only [Gh.addTok, Gh.setLim, if_true]; omega
        · rw [cell?_of (setHeap_get hblk), putCells_get _ _ _ _ (by omega), if_pos (by omega), Nat.add_sub_cancel_left, hu]
          simpa using hu
    · intro i x j z hix hjz
      simp only [List.getElem?_append] at hix
      split at hix
      · rename_i hlt
        simp only [hlt, if_true]
        exact (hvv i x j z hix hjz).ext e1
      · rename_i hge
        obtain ⟨u, hu, hv⟩ := hd3 (i - xs.length) x j z hix hjz
        simp only [hge, if_false, hu, Option.getD_some]
        exact hv.ext e1
theorem appendL_sound (hL : LookOK L) {ats : Array TypeId} {ty st : TypeId} {s x v : LV} {su xu : Value} {σ σ' : LH} (hw : WR G σ w) (hs : VR w G s su) (hx : VR w G x xu) (h0 : ats[0]? = some st) (h : appendL L σ st ats[1]? s x = some (v, σ')) :
    ∃ w' G' u, (Builtin.append_ ats ty #[su, xu]).run L.P w = .ok u w' ∧ WR G' σ' w' ∧ Ext w G w' G' ∧ VR w' G' v u := by
  unfold appendL at h
  split at h
  · rename_i elem xt hst h1
    split at h
    · rename_i e' y xs own nz ys own' nz' hxt hy
      split at h
      · rename_i hc
        obtain ⟨hpos, hby, hle, hhx, hhy, hz⟩ := hc
        obtain ⟨a, cap, rfl, hcap⟩ := hs.slice_inv
        obtain ⟨b, cap', rfl, hcap'⟩ := hx.slice_inv
        split at h
        · injection h with h
          injection h with h2 h3
          subst h2; subst h3
          obtain ⟨i, hi, hsz, hib, hzz⟩ := ty_info hL hy
          obtain ⟨d, hd1, hd2, hd3, hd4, hd5⟩ := hx.slice_load (P := L.P) hpos (head_of hhy)
          refine ⟨w, G, _, ?_, hw, Ext.refl _ _, hs⟩
          have hd0 : d = #[] := by apply Array.eq_empty_of_size_eq_zero; simpa using hd2
          subst hd0
          simp only [Builtin.append_, h0, h1, List.getElem?_toArray, List.getElem?_cons_zero, List.getElem?_cons_succ, Sem.run_bind, rUnd hL hst, rUnd hL hxt, Result.andThen_ok, hsz, Sem.run_pure, Builtin.lenOf, Bool.false_eq_true, if_false]
          rw [if_pos (by simpa using hcap)]
          simp only [Bool.not_false, if_true, Sem.run_bind, hd1, Result.andThen_ok]
          cases a <;> simp [storeCells]
        · rename_i y0 ys0
          split at h
          · cases h
          · injection h with h; injection h with h2 h3; subst h2; subst h3
            have hex : cap = xs.length := by cases hs with | slice _ _ _ _ _ _ _ _ _ _ _ _ ho _ _ => exact ho
            exact append_grow hL hw hst hxt hy h0 h1 hs hx hpos hby hle hhx hhy hz (by simp) (by simp; omega) (by simp; omega)
          · rename_i k
            split at h
            · rename_i hk
              injection h with h; injection h with h2 h3; subst h2; subst h3
              by_cases hroom : xs.length + (y0 :: ys0).length ≤ cap
              · exact append_place hL hw hst hxt hy h0 h1 hs hx hpos hhx hhy hk hroom
              · have := append_grow hL (ats := ats) (ty := ty) (hw.spend k) hst hxt hy h0 h1 hs hx hpos hby hle hhx hhy hz (by simp) hroom (by omega)
                simpa using this
            · cases h
      · cases h
    · cases h
  · cases h
end Go.Lg
end
