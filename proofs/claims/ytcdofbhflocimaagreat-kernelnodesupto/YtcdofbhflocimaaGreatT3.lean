/- Part 3 of the proof: Kg24 Kg25 Kgf Kg26 Kg27 Kg28 Kg29 Kg30 Kg31. By AI agents; no person has read it. -/
import Derived.Test.YtcdofbhflocimaaGreatT2
import Derived.LoopNIn
import Derived.TacticsIn
import Derived.RecoverIn
import Derived.RangeFuncRecord
set_option linter.unusedVariables false
set_option linter.unusedSimpArgs false
set_option linter.unusedSectionVars false
section
set_option linter.unusedSimpArgs false
set_option linter.unusedSectionVars false
namespace Go.Lg
variable [Rel]
variable {L : Look}
section
variable {ef : LV → List LV → LH → Option CR} {ops : Array Oper} {tm0 : Tm} {σh : LH} {k0 M : Nat} {T : Nat → Tm} {S : Nat → LH} {rs : List Rec}
variable {w0 w : World} {G0 G : Gh} {df : List LDef} {listed : Array Bool} {q : Nat} {tm : Tm} {act : Act}
theorem lst_set {listed : Array Bool} {i j : Nat} (hi : i < listed.size) : lst (listed.setIfInBounds i true) j ↔ lst listed j ∨ j = i := by
  unfold lst
  simp only [Array.getD_eq_getD_getElem?, Array.getElem?_setIfInBounds]
  by_cases h : i = j
  · subst h; simp [hi]
  · rw [if_neg h]; constructor
    · exact .inl
    · rintro (h' | h')
      · exact h'
      · exact absurd h'.symm h
open Classical in
theorem Inv.step {c : Ctx L ef ops tm0 σh k0 M T S rs} (v : Inv c w0 G0 df listed q tm w G act) {j : Nat} {o : Oper} (hj : j ∈ Region.ready .any ops listed) (hjM : j < M) (ho : ops[j]? = some o)
    {x : LV} {w' : World} {G' : Gh} {act' : Act} (hT : T (j + 1) = putL (T j) o.dst x) (har : AR w' G' ⟨putL tm o.dst x, df⟩ act')
    (hwr : WR G' (if mv rs j then S (j + 1) else S q) w') (hex : Ext0 w G w' G') (hnw : ∀ b B, G'.mu b = some B → G.mu b = some B ∨ k0 ≤ b)
    (hmu : ∀ (i : Nat) (o' : Oper), ops[i]? = some o' → isAlloc o' = true → ¬ lst listed i → i ≠ j → G'.mu (k0 + cnt ops i) = none) (htop : G.top ≤ G'.top) :
    Inv c w0 G0 df (listed.setIfInBounds j true) (if mv rs j then j + 1 else q) (putL tm o.dst x) w' G' act' := by
  obtain ⟨o1, ho1, hn, hed⟩ := (ready_iff v.sz).1 hj
  rw [ho] at ho1; injection ho1 with ho1; subst ho1
  have hlt : j < listed.size := by rw [v.sz]; exact (Array.getElem?_eq_some_iff.1 ho).1
  have hls := @lst_set _ listed j
  have hne : ∀ (i : Nat) (o' : Oper) (d : Nat), i ≠ j → ops[i]? = some o' → o'.dst = some d → o.dst ≠ some d := fun i o' d hij ho' hd' => (c.st2 j i o o' d ho ho' hd' (Ne.symm hij)).1
  refine ⟨by simp [v.sz], fun i o' ho' hi e he hb => ?_, fun i hi => ?_, ?_, fun i hi hm => ?_, fun i hiM hi hm => ?_, har, ?_, (putL_n _ _ _).trans v.nn, fun i o' d hiM' hi ho' hd' => ?_, fun d hd => ?_, fun d hd => by rw [putL_get, if_neg (by have := v.nn; omega)]; exact v.s3 d hd, fun i o' ho' ha hi => ?_, Nat.le_trans v.top htop, v.ex.trans hex, fun b B hB => ?_⟩
  · rcases (hls hlt).1 hi with h | h
    · exact (hls hlt).2 (.inl (v.cl i o' ho' h e he hb))
    · subst h
      rw [ho] at ho'; injection ho' with ho'; subst ho'
      exact (hls hlt).2 (.inl (hed e he hb))
  · rcases (hls hlt).1 hi with h | h
    · exact v.lt i h
    · exact .inl (by omega)
  · split
    · omega
    · exact v.qle
  · rcases (hls hlt).1 hi with h | h
    · split
      · rename_i hmj
        have := v.m1 i h hm
        have := (v.atMove hj (by omega) hmj).1
        omega
      · exact v.m1 i h hm
    · subst h; rw [if_pos hm]; omega
  · have hni : ¬ lst listed i := fun h => hi ((hls hlt).2 (.inl h))
    have hij : i ≠ j := fun h => hi ((hls hlt).2 (.inr h))
    split
    · rename_i hmj
      rcases Nat.lt_trichotomy i j with e | e | e
      · obtain ⟨ws, hw⟩ := hm
        obtain ⟨ws', hw'⟩ := hmj
        have hp := c.prs _ hw _ hw' e
        simp only [pairOK, Bool.and_eq_true, Bool.or_eq_true, Bool.false_eq_true, or_false] at hp
        exact absurd (v.before hj hp.2).2 hni
      · exact absurd e hij
      · omega
    · exact v.m2 i hiM hni hm
  · split
    · rename_i h; rw [if_pos h] at hwr; exact hwr
    · rename_i h; rw [if_neg h] at hwr; exact hwr
  · rcases (hls hlt).1 hi with h | h
    · have hij : i ≠ j := fun e => hn (e ▸ h)
      rw [putL_other (hne i o' d hij ho' hd')]
      exact v.s1 i o' d hiM' h ho' hd'
    · subst h
      rw [ho] at ho'; injection ho' with ho'; subst ho'
      obtain ⟨h1, h2⟩ := v.fresh ho hn (by omega) hd'
      rw [c.tyes ho hd' M hjM (Nat.le_refl _), hT, putL_get, putL_get, h1, h2, v.nn, (c.tn i (by omega)).1]
  · have hod : o.dst ≠ some d := hd j o ((hls hlt).2 (.inr rfl)) ho
    rw [putL_other hod]
    exact v.s2 d fun i o' hi => hd i o' ((hls hlt).2 (.inl hi))
  · exact hmu i o' ho' ha (fun h => hi ((hls hlt).2 (.inl h))) (fun h => hi ((hls hlt).2 (.inr h)))
  · rcases hnw b B hB with h | h
    · exact v.nw b B h
    · exact .inr h
open Classical in
theorem Inv.late {c : Ctx L ef ops tm0 σh k0 M T S rs} (v : Inv c w0 G0 df listed q tm w G act) {j : Nat} {o : Oper} (hj : j ∈ Region.ready .any ops listed) (hjM : M < j) (ho : ops[j]? = some o) (hal : isAlloc o = true)
    {x : LV} {w' : World} {G' : Gh} {act' : Act} (har : AR w' G' ⟨putL tm o.dst x, df⟩ act')
    (hwr : WR G' (S q) w') (hex : Ext0 w G w' G') (hnw : ∀ b B, G'.mu b = some B → G.mu b = some B ∨ k0 ≤ b)
    (hmu : ∀ (i : Nat) (o' : Oper), ops[i]? = some o' → isAlloc o' = true → ¬ lst listed i → i ≠ j → G'.mu (k0 + cnt ops i) = none) (htop : G.top ≤ G'.top) :
    Inv c w0 G0 df (listed.setIfInBounds j true) q (putL tm o.dst x) w' G' act' := by
  obtain ⟨o1, ho1, hn, hed⟩ := (ready_iff v.sz).1 hj
  rw [ho] at ho1; injection ho1 with ho1; subst ho1
  have hjs : j < ops.size := (Array.getElem?_eq_some_iff.1 ho).1
  obtain ⟨_, _, hrM, _⟩ := c.pan (by omega)
  have hlt : j < listed.size := by rw [v.sz]; exact hjs
  have hls := @lst_set _ listed j
  have hne : ∀ (i : Nat) (o' : Oper) (d : Nat), i ≠ j → ops[i]? = some o' → o'.dst = some d → o.dst ≠ some d := fun i o' d hij ho' hd' => (c.st2 j i o o' d ho ho' hd' (Ne.symm hij)).1
  refine ⟨by simp [v.sz], fun i o' ho' hi e he hb => ?_, fun i hi => ?_, v.qle, fun i hi hm => ?_, fun i hiM hi hm => ?_, har, hwr, (putL_n _ _ _).trans v.nn, fun i o' d hiM' hi ho' hd' => ?_, fun d hd => ?_, fun d hd => by rw [putL_get, if_neg (by have := v.nn; omega)]; exact v.s3 d hd, fun i o' ho' ha hi => ?_, Nat.le_trans v.top htop, v.ex.trans hex, fun b B hB => ?_⟩
  · rcases (hls hlt).1 hi with h | h
    · exact (hls hlt).2 (.inl (v.cl i o' ho' h e he hb))
    · subst h
      rw [ho] at ho'; injection ho' with ho'; subst ho'
      exact (hls hlt).2 (.inl (hed e he hb))
  · rcases (hls hlt).1 hi with h | h
    · exact v.lt i h
    · exact .inr ⟨by omega, o, by rw [h]; exact ho, hal⟩
  · rcases (hls hlt).1 hi with h | h
    · exact v.m1 i h hm
    · obtain ⟨ws, hw⟩ := hm
      have := hrM _ hw
      simp only at this; omega
  · exact v.m2 i hiM (fun h => hi ((hls hlt).2 (.inl h))) hm
  · rcases (hls hlt).1 hi with h | h
    · have hij : i ≠ j := fun e => hn (e ▸ h)
      rw [putL_other (hne i o' d hij ho' hd')]
      exact v.s1 i o' d hiM' h ho' hd'
    · omega
  · have hod : o.dst ≠ some d := hd j o ((hls hlt).2 (.inr rfl)) ho
    rw [putL_other hod]
    exact v.s2 d fun i o' hi => hd i o' ((hls hlt).2 (.inl hi))
  · exact hmu i o' ho' ha (fun h => hi ((hls hlt).2 (.inl h))) (fun h => hi ((hls hlt).2 (.inr h)))
  · rcases hnw b B hB with h | h
    · exact v.nw b B h
    · exact .inr h
theorem Inv.done {c : Ctx L ef ops tm0 σh k0 M T S rs} (v : Inv c w0 G0 df listed q tm w G act) (hr : Region.ready .any ops listed = []) : M = ops.size ∧ AR w G ⟨T M, df⟩ act ∧ WR G (S M) w := by
  have hall : ∀ i, i < ops.size → lst listed i := by
    intro i
    induction i using Nat.strongRecOn with
    | ind i ih =>
      intro hi
      rcases Classical.em (lst listed i) with h | h
      · exact h
      · have ho : ops[i]? = some ops[i] := by simp [hi]
        have : i ∈ Region.ready .any ops listed := (ready_iff v.sz).2 ⟨_, ho, h, fun e he hb => ih e.on (c.st1 i _ ho e he hb) (by have := c.st1 i _ ho e he hb; omega)⟩
        rw [hr] at this; simp at this
  have hM : M = ops.size := by
    rcases Nat.eq_or_lt_of_le c.Mle with e | e
    · exact e
    · rcases v.lt M (hall M e) with h | h <;> omega
  have hget : ∀ d, tm.get d = (T M).get d := fun d => by
    rcases Classical.em (∃ (j : Nat) (o : Oper), ops[j]? = some o ∧ o.dst = some d) with ⟨j, o, h1, h2⟩ | h
    · exact v.s1 j o d (by have := (Array.getElem?_eq_some_iff.1 h1).1; omega) (hall j (Array.getElem?_eq_some_iff.1 h1).1) h1 h2
    · rw [v.s2 d fun j o _ h1 h2 => h ⟨j, o, h1, h2⟩, c.tno M (Nat.le_refl _) fun j o _ h1 h2 => h ⟨j, o, h1, h2⟩]
  refine ⟨hM, ⟨⟨(c.tn M (Nat.le_refl _)).1.trans (v.nn.symm.trans v.ar.tmps.size), fun k x hx => v.ar.tmps.get k x (by rw [hget]; exact hx)⟩, v.ar.defers⟩, ?_⟩
  have hS : S M = S q := c.seg M v.qle (Nat.le_refl _) fun j h1 h2 hm => by
    have := v.m1 j (hall j (by omega)) hm; omega
  rw [hS]; exact v.wr
theorem junkDst_n : ∀ (os : List Oper) (tm : Tm), (junkDst os tm).n = tm.n
  | [], _ => rfl
  | o :: os, tm => (junkDst_n os _).trans (putL_n _ _ _)
theorem junkDst_get : ∀ (os : List Oper) (tm : Tm) (d : Nat) (x : LV), (junkDst os tm).get d = some x → x = .junk ∨ (tm.get d = some x ∧ ((∀ o ∈ os, o.dst ≠ some d) ∨ tm.n ≤ d))
  | [], tm, d, x, h => .inr ⟨h, .inl (by simp)⟩
  | o :: os, tm, d, x, h => by
    simp only [junkDst] at h
    rcases junkDst_get os _ d x h with h | ⟨h1, h2⟩
    · exact .inl h
    · rw [putL_get] at h1
      rw [putL_n] at h2
      split at h1
      · rename_i hc
        cases hg : tm.get d with
        | none => simp [hg] at h1
        | some y => simp [hg] at h1; exact .inl h1.symm
      · rename_i hc
        refine .inr ⟨h1, ?_⟩
        rcases h2 with h2 | h2
        · by_cases hd : o.dst = some d
          · right
            have : ¬ (d + 1 ≤ tm.n) := fun h => hc ⟨hd, h⟩
            omega
          · left
            intro o' ho'
            rcases List.mem_cons.1 ho' with e | e
            · subst e; exact hd
            · exact h2 o' e
        · exact .inr h2
theorem Inv.junk {c : Ctx L ef ops tm0 σh k0 M T S rs} (v : Inv c w0 G0 df listed q tm w G act) {w' : World} {G' : Gh} (e : Ext w G w' G') : AR w' G' ⟨junkDst ops.toList tm0, df⟩ act := by
  refine AR.ext e ⟨⟨(junkDst_n _ _).trans (v.nn.symm.trans v.ar.tmps.size), fun d x hx => ?_⟩, v.ar.defers⟩
  rcases junkDst_get _ _ _ _ hx with rfl | ⟨h1, h2⟩
  · exact .junk _
  · refine v.ar.tmps.get d x ?_
    rcases h2 with h2 | h2
    · rw [v.s2 d fun j o _ ho => h2 o (by have := List.mem_of_getElem? (l := ops.toList) (i := j) (a := o) (by simpa using ho); exact this)]
      exact h1
    · show tm.get d = some x
      rw [v.s3 d h2]; exact h1
theorem count_step {listed : Array Bool} {j : Nat} (hj : listed.getD j true = false) : (listed.setIfInBounds j true).toList.count false + 1 = listed.toList.count false := by
  have hlt : j < listed.size := by
    rcases Nat.lt_or_ge j listed.size with h | h
    · exact h
    · simp [Array.getD_eq_getD_getElem?, Array.getElem?_eq_none h] at hj
  have hv : listed.toList[j]'(by simpa using hlt) = false := by
    simp [Array.getD_eq_getD_getElem?, hlt] at hj; simpa using hj
  have := List.count_set (l := listed.toList) (i := j) (a := true) (b := false) (by simpa using hlt)
  have hpos : 0 < listed.toList.count false := List.count_pos_iff.2 (hv ▸ List.getElem_mem _)
  rw [hv] at this
  have e1 : (if (false == false) = true then 1 else 0) = 1 := rfl
  have e2 : (if (true == false) = true then 1 else 0) = 0 := rfl
  rw [e1, e2] at this
  rw [Array.toList_setIfInBounds]
  omega
end
end Go.Lg
end
section
set_option linter.unusedSimpArgs false
set_option linter.unusedSectionVars false
namespace Go.Lg
variable [Rel]
variable {L : Look}
section
variable {ef : LV → List LV → LH → Option CR} {ops : Array Oper} {tm0 : Tm} {σh : LH} {k0 M : Nat} {T : Nat → Tm} {S : Nat → LH} {rs : List Rec}
variable {w0 w : World} {G0 G : Gh} {df : List LDef} {listed : Array Bool} {q : Nat} {tm : Tm} {act : Act}
theorem Inv.op (hL : LookOK L) (hS : SoundF L ef) {F : Fence} (hF : FF F) {c : Ctx L ef ops tm0 σh k0 M T S rs} (v : Inv c w0 G0 df listed q tm w G act) (hk0 : k0 ≤ σh.boxes.length) {j : Nat} {o : Oper} (hj : j ∈ Region.ready .any ops listed) (hjM : j < M) (ho : ops[j]? = some o)
    {K : Act → World → Prop} {Q : Exit → Act → World → Prop} (hK : ∀ q' tm' w' G' act', Inv c w0 G0 df (listed.setIfInBounds j true) q' tm' w' G' act' → K act' w') : wpOpIn F 0 L.P ops Q j K act w := by
  classical
  obtain ⟨o1, ho1, hs⟩ := c.step j hjM
  rw [ho] at ho1; injection ho1 with ho1; subst ho1
  have hsl := v.slots hj ho (by omega)
  have hwc : wantedL ops tm o = wantedL ops (T j) o := wantedL_congr hsl
  have hmv : mv rs j → S q = S j := fun h => (v.atMove hj (by omega) h).2.symm
  unfold wpOpIn
  simp only [ho]
  have keep : ∀ (i : Nat) (o' : Oper), ops[i]? = some o' → isAlloc o' = true → ¬ lst listed i → i ≠ j → ∀ {w' : World} {G' : Gh}, Ext w G w' G' → G'.mu (k0 + cnt ops i) = none := fun i o' ho' ha hn _ w' G' e => by
    cases hm : G'.mu (k0 + cnt ops i) with
    | none => rfl
    | some B =>
      rcases e.new _ _ hm with h | h
      · rw [v.mu i o' ho' ha hn] at h; cases h
      · obtain ⟨_, t, z, _, _, hb⟩ := c.al i o' ho' ha
        have := (List.getElem?_eq_some_iff.1 hb).1
        have := v.top
        omega
  rcases hs with ⟨hwn, hT, hSe⟩ | ⟨hwn, hal, hT, hSe, hr⟩ | ⟨hwn, hna, x, hst, hT, hr⟩
  · have hw := wantedL_sound v.ar.tmps (hwc.trans hwn)
    rw [hw]
    simp only [Bool.false_eq_true, if_false]
    refine ⟨fun f _ => hF.fn f, hK _ _ _ _ _ (v.step hj hjM ho hT v.ar.undef ?_ (Ext0.refl _ _) (fun _ _ h => .inl h) (fun i o' h1 h2 h3 _ => v.mu i o' h1 h2 h3) (Nat.le_refl _))⟩
    split
    · rename_i h; rw [hSe, ← hmv h]; exact v.wr
    · exact v.wr
  · have hw := wantedL_sound v.ar.tmps (hwc.trans hwn)
    rw [hw]
    simp only [if_true]
    obtain ⟨hgd, t, z, hop, hz, hb⟩ := c.al j o ho hal
    have hn : ¬ lst listed j := by obtain ⟨_, _, h, _⟩ := (ready_iff v.sz).1 hj; exact h
    have hkl := (List.getElem?_eq_some_iff.1 hb).1
    have hbox := (v.atAlloc hj hr hkl).trans hb
    obtain ⟨zv, h1, h2⟩ := rZero hL hz w
    obtain ⟨hw1, he1⟩ := v.wr.setMu (obj := .cells zv.cells t (0, 0)) (v.mu j o ho hal hn) hbox (fun w' G' e hget => ⟨_, hget, (ofV_cells (w := w) (G := G) h2).ext0 e⟩)
    have hrun : (execOp act.eval o).run L.P w = .ok (.value (.pointer (some ⟨w.heap.size, 0, none⟩))) (pushW w (.cells zv.cells t (0, 0))) := by
      obtain ⟨dst, op, type, pos, after, guard⟩ := o
      simp only at hop; subst hop
      exact val_run (by simp [Instr.alloc, h1, run_newVar])
    refine ⟨fun f _ => hF.fn f, ?_⟩
    rw [Oper.semAt_eq _ _ _ (by rw [hop]; intro c h; cases h), hrun]
    have hmueq : ∀ b B, (G.setMu (k0 + cnt ops j) w.heap.size).mu b = some B → G.mu b = some B ∨ k0 ≤ b := fun b B h => by
      simp only [Gh.setMu] at h
      split at h
      · rename_i e; exact .inr (by omega)
      · exact .inl h
    refine hK _ _ _ _ _ (v.step hj hjM ho hT (AR.put (v.ar.ext0 he1) (.ptr _ _ _ (by simp [Gh.setMu]))) ?_ he1 hmueq (fun i o' h1 h2 h3 h4 => ?_) (Nat.le_refl _))
    · split
      · rename_i h; rw [hSe, ← hmv h]; exact hw1
      · exact hw1
    · have hne : k0 + cnt ops i ≠ k0 + cnt ops j := fun e => by
        rcases Nat.lt_trichotomy i j with h | h | h
        · have := cnt_lt h1 h2 h; omega
        · exact h4 h
        · have := cnt_lt ho hal h; omega
      simp only [Gh.setMu]
      rw [if_neg hne]
      exact v.mu i o' h1 h2 h3
  · have hw := wantedL_sound v.ar.tmps (hwc.trans hwn)
    rw [hw]
    simp only [if_true]
    have hcg : ∀ σ, opStep L (callSt ef) true tm o σ = opStep L (callSt ef) true (T j) o σ := fun σ => opStep_congr (slots_op hsl)
    have hat : opStep L (callSt ef) true tm o (S q) = some (.val x (if mv rs j then S (j + 1) else S q)) := by
      rw [hcg]
      split
      · rename_i h; rw [hmv h]; exact hst
      · rename_i h
        have hk := kind_free c.hFl c.hM hna hst
        generalize hkd : kindOf L ef (T j) o (S j) = k at hk hr
        cases k with
        | pure => exact hk.2 _
        | load b =>
          obtain ⟨hse, ⟨t, xo, oo, hop, hov⟩, hsome, hall⟩ := hk
          refine hall _ ?_
          have hb' : b < (S j).boxes.length := by
            unfold boxOf at hsome
            rcases Nat.lt_or_ge b (S j).boxes.length with h' | h'
            · exact h'
            · rw [List.getElem?_eq_none h'] at hsome; cases hsome
          have hbq : b < (S q).boxes.length := by
            have h1 : opv tm xo = some (.ptr b oo) := by
              rw [slots_op hsl xo (by rw [hop]; simp [Op.operands])]; exact hov
            obtain ⟨B, _, hmu⟩ := (opv_sound v.ar.tmps h1).ptr_inv
            exact v.wr.mudom hmu
          unfold boxOf
          rw [v.atLoad hj hjM h hr hbq hb']
        | call =>
          have := v.atCall hj hjM h hr
          rw [← this]; rw [show S (j + 1) = S j from hk] at hst; exact hst
        | move ws => exact absurd ⟨ws, hr⟩ h
        | alloc k => exact hk.elim
    obtain ⟨_, hop⟩ := opStep_wp hL hS hF (by intro h; cases h) v.ar.tmps v.wr hat
    refine hop _ Q fun u w1 G1 e1 hw1 hv => hK _ _ _ _ _ (v.step hj hjM ho hT (AR.put (v.ar.ext e1) hv) hw1 e1.toExt0 (fun b B h => (e1.new b B h).imp id fun h => by have := v.top; omega) (fun i o' h1 h2 h3 h4 => keep i o' h1 h2 h3 h4 e1) e1.top)
theorem Inv.lateOp (hL : LookOK L) {F : Fence} (hF : FF F) {c : Ctx L ef ops tm0 σh k0 M T S rs} (v : Inv c w0 G0 df listed q tm w G act) (hk0 : k0 ≤ σh.boxes.length) {j : Nat} {o : Oper} (hj : j ∈ Region.ready .any ops listed) (hjM : M < j) (ho : ops[j]? = some o) (hal : isAlloc o = true)
    {K : Act → World → Prop} {Q : Exit → Act → World → Prop} (hK : ∀ q' tm' w' G' act', Inv c w0 G0 df (listed.setIfInBounds j true) q' tm' w' G' act' → K act' w') : wpOpIn F 0 L.P ops Q j K act w := by
  classical
  unfold wpOpIn
  simp only [ho]
  obtain ⟨hgd, t, z, hop, hz, hb⟩ := c.al j o ho hal
  have hw : Region.wanted o (yielded ops act.tmps) = true := by unfold Region.wanted; rw [hgd]
  rw [hw]
  simp only [if_true]
  have hn : ¬ lst listed j := by obtain ⟨_, _, h, _⟩ := (ready_iff v.sz).1 hj; exact h
  have hkl := (List.getElem?_eq_some_iff.1 hb).1
  have hbox := (v.lateBox hjM ho hal hkl).trans hb
  obtain ⟨zv, h1, h2⟩ := rZero hL hz w
  obtain ⟨hw1, he1⟩ := v.wr.setMu (obj := .cells zv.cells t (0, 0)) (v.mu j o ho hal hn) hbox (fun w' G' e hget => ⟨_, hget, (ofV_cells (w := w) (G := G) h2).ext0 e⟩)
  have hrun : (execOp act.eval o).run L.P w = .ok (.value (.pointer (some ⟨w.heap.size, 0, none⟩))) (pushW w (.cells zv.cells t (0, 0))) := by
    obtain ⟨dst, op, type, pos, after, guard⟩ := o
    simp only at hop; subst hop
    exact val_run (by simp [Instr.alloc, h1, run_newVar])
  refine ⟨fun f _ => hF.fn f, ?_⟩
  rw [Oper.semAt_eq _ _ _ (by rw [hop]; intro c h; cases h), hrun]
  have hmueq : ∀ b B, (G.setMu (k0 + cnt ops j) w.heap.size).mu b = some B → G.mu b = some B ∨ k0 ≤ b := fun b B h => by
    simp only [Gh.setMu] at h
    split at h
    · rename_i e; exact .inr (by omega)
    · exact .inl h
  refine hK _ _ _ _ _ (v.late (x := .ptr (k0 + cnt ops j) 0) hj hjM ho hal (AR.put (v.ar.ext0 he1) (.ptr _ _ _ (by simp [Gh.setMu]))) hw1 he1 hmueq (fun i o' h1 h2 h3 h4 => ?_) (Nat.le_refl _))
  have hne : k0 + cnt ops i ≠ k0 + cnt ops j := fun e => by
    rcases Nat.lt_trichotomy i j with h | h | h
    · have := cnt_lt h1 h2 h; omega
    · exact h4 h
    · have := cnt_lt ho hal h; omega
  simp only [Gh.setMu]
  rw [if_neg hne]
  exact v.mu i o' h1 h2 h3
theorem Inv.rest (hL : LookOK L) (hS : SoundF L ef) {F : Fence} (hF : FF F) {c : Ctx L ef ops tm0 σh k0 M T S rs} (hk0 : k0 ≤ σh.boxes.length) {Q : Exit → Act → World → Prop}
    (hpan : M < ops.size → ∃ o v σ', ops[M]? = some o ∧ wantedL ops (T M) o = some true ∧ opStep L (callSt ef) true (T M) o (S M) = some (.pan v σ') ∧
      ∀ act' w' G', Ext0 w0 G0 w' G' → (∀ b B, G'.mu b = some B → G0.mu b = some B ∨ k0 ≤ b) → σh.boxes.length ≤ G'.top → AR w' G' ⟨junkDst ops.toList tm0, df⟩ act' → WR G' σ' w' → ∀ u, VR w' G' v u → Q (.panic [{ v := u, recovered := false }]) act' w')
    (hnone : M = ops.size → ∀ act' w' G', Ext0 w0 G0 w' G' → (∀ b B, G'.mu b = some B → G0.mu b = some B ∨ k0 ≤ b) → σh.boxes.length ≤ G'.top → AR w' G' ⟨T M, df⟩ act' → WR G' (S M) w' → Q .normal act' w') :
    ∀ (fuel : Nat) {w : World} {G : Gh} {listed : Array Bool} {q : Nat} {tm : Tm} {act : Act}, listed.toList.count false ≤ fuel → Inv c w0 G0 df listed q tm w G act → wpAnyIn F 0 L.P .any ops Q fuel listed act w := by
  intro fuel
  have fin : ∀ {w : World} {G : Gh} {listed : Array Bool} {q : Nat} {tm : Tm} {act : Act}, Inv c w0 G0 df listed q tm w G act → Region.ready .any ops listed = [] → Q .normal act w := fun v hr => by
    obtain ⟨h1, h2, h3⟩ := v.done hr
    exact hnone h1 _ _ _ v.ex v.nw v.top h2 h3
  have hunl : ∀ {w : World} {G : Gh} {listed : Array Bool} {q : Nat} {tm : Tm} {act : Act}, Inv c w0 G0 df listed q tm w G act → ∀ {j : Nat}, j ∈ Region.ready .any ops listed → listed.getD j true = false := fun {w G listed q tm act} v {j} hj => by
    obtain ⟨o, ho, hn, _⟩ := (ready_iff v.sz).1 hj
    have hlt : j < listed.size := by rw [v.sz]; exact (Array.getElem?_eq_some_iff.1 ho).1
    unfold lst at hn
    simp only [Array.getD_eq_getD_getElem?] at hn ⊢
    simp [hlt] at hn ⊢; exact hn
  induction fuel with
  | zero =>
    intro w G listed q tm act hc v
    have hr : Region.ready .any ops listed = [] := by
      rw [List.eq_nil_iff_forall_not_mem]
      intro j hj
      have := count_step (hunl v hj)
      omega
    exact ⟨hr, fin v hr⟩
  | succ fuel ih =>
    intro w G listed q tm act hc v
    refine ⟨fin v, fun j hj => ?_⟩
    obtain ⟨o, ho, hn, _⟩ := (ready_iff v.sz).1 hj
    have hjs : j < ops.size := (Array.getElem?_eq_some_iff.1 ho).1
    have hcs := count_step (hunl v hj)
    rcases Nat.lt_trichotomy j M with h | h | h
    · exact v.op hL hS hF hk0 hj h ho fun q' tm' w' G' act' v' => ih (by omega) v'
    · subst h
      obtain ⟨o1, x, σ', ho1, hwn, hst, hQ⟩ := hpan hjs
      rw [ho] at ho1; injection ho1 with ho1; subst ho1
      have hsl := v.slots hj ho (Nat.le_refl _)
      have hwc : wantedL ops tm o = wantedL ops (T j) o := wantedL_congr hsl
      have hw := wantedL_sound v.ar.tmps (hwc.trans hwn)
      unfold wpOpIn
      simp only [ho]
      rw [hw]
      simp only [if_true]
      have hq := (v.atMove hj (Nat.le_refl _) ⟨_, (c.pan hjs).2.1⟩).2
      have hst' : opStep L (callSt ef) true tm o (S q) = some (.pan x σ') := by
        rw [opStep_congr (slots_op hsl), ← hq]; exact hst
      obtain ⟨_, hop⟩ := opStep_wp hL hS hF (by intro h; cases h) v.ar.tmps v.wr hst'
      refine hop _ Q fun u w1 G1 e1 hw1 hv => ?_
      exact hQ _ _ _ (v.ex.trans e1.toExt0) (fun b B h => (e1.new b B h).elim (v.nw b B) fun h => .inr (by have := v.top; omega)) (Nat.le_trans v.top e1.top) (v.junk e1) hw1 u hv
    · rcases (c.pan (by omega)).1 j h hjs with hb | ⟨o2, ho2, hal⟩
      · have := (v.before hj hb).2
        rcases v.lt M this with h | h <;> omega
      · rw [ho] at ho2; injection ho2 with ho2; subst ho2
        exact v.lateOp hL hF hk0 hj h ho hal fun q' tm' w' G' act' v' => ih (by omega) v'
end
theorem and_all {α : Type} {l : List α} {p : α → Bool} (h : l.all p = true) : ∀ x ∈ l, p x = true := by simpa using h
theorem zipIdx_mem {ops : Array Oper} {j : Nat} {o : Oper} (h : ops[j]? = some o) : (o, j) ∈ ops.toList.zipIdx := by
  rw [List.mem_zipIdx_iff_getElem?]; simpa using h
theorem static_1 {ops : Array Oper} {anc : List Nat} (h : staticOK ops.toList ops anc = true) : ∀ (j : Nat) (o : Oper), ops[j]? = some o → ∀ e ∈ o.after.toList, Region.binds .any e = true → e.on < j := by
  intro j o ho e he hb
  unfold staticOK at h
  rw [Bool.and_eq_true] at h
  have := and_all h.1 _ (zipIdx_mem ho)
  have := and_all this e he
  simpa [hb] using this
theorem static_2 {ops : Array Oper} {anc : List Nat} (h : staticOK ops.toList ops anc = true) : ∀ (i j : Nat) (o o' : Oper) (d : Nat), ops[i]? = some o → ops[j]? = some o' → o'.dst = some d → i ≠ j → o.dst ≠ some d ∧ (d ∈ slotsOf ops o → bitOf anc i j = true ∨ bitOf anc j i = true) := by
  intro i j o o' d ho ho' hd hij
  unfold staticOK at h
  rw [Bool.and_eq_true] at h
  have := and_all (and_all h.2 _ (zipIdx_mem ho)) _ (zipIdx_mem ho')
  simp only [hd, Bool.or_eq_true, Bool.and_eq_true, beq_iff_eq, bne_iff_ne, Bool.not_eq_true'] at this
  rcases this with h1 | ⟨h1, h2⟩
  · exact absurd h1 hij
  · refine ⟨h1, fun hm => ?_⟩
    rcases h2 with (h2 | h2) | h2
    · rw [List.contains_eq_mem] at h2; simp [hm] at h2
    · exact .inl h2
    · exact .inr h2
theorem pairs_ok {anc : List Nat} {rs : List Rec} (h : pairsOK anc rs = true) : ∀ x ∈ rs, ∀ y ∈ rs, x.i < y.i → pairOK anc x y = true := by
  intro x hx y hy hlt
  have := and_all (and_all h x hx) y hy
  rw [Bool.or_eq_true] at this
  rcases this with h | h
  · have := Nat.le_of_ble_eq_true h; omega
  · exact h
theorem draw_wp {ef : LV → List LV → LH → Option CR} (hL : LookOK L) (hS : SoundF L (flF L ef)) {F : Fence} (hF : FF F) {ops : Array Oper} {id : Nat} {a a' : LAct} {σ σ' : LH} {x : LExit} {w : World} {G : Gh} {act : Act}
    (ha : AR w G a act) (hw : WR G σ w) {rnd : Bool} (h : evRegion L ef rnd ops true a σ = some (x, a', σ')) :
    ∀ Q, (∀ act' w' G', Ext w G w' G' → AR w' G' a' act' → WR G' σ' w' → match x with
        | .normal => Q .normal act' w'
        | .panic v => ∀ u, VR w' G' v u → Q (.panic [{ v := u, recovered := false }]) act' w'
        | _ => False) → (Code.region id ops true).wpIn F 0 L.P Q act w := by
  intro Q hQ
  refine wpIn_region_any hL.mixed ?_
  simp only [evRegion, if_true] at h
  cases hh : hoist L ops.toList σ with
  | none => simp [hh] at h
  | some σh =>
    simp only [hh] at h
    obtain ⟨hs1, hs2, ⟨bs, hs3, hs4⟩, hs5, hs6⟩ := hoist_spec L ops.toList hh
    have hk0 : σ.boxes.length ≤ σh.boxes.length := by rw [hs3]; simp
    have hgd : ∀ (j : Nat) (o : Oper), ops[j]? = some o → isAlloc o = true → o.guard = none := fun j o ho hal => (hs5 j o (by simpa using ho) hal).1
    have hM : ∀ f args σ cr, flF L ef f args σ = some cr → Mod σ (cr.st σ) := fun f args σ cr h => (hS f args σ cr h).1
    cases hrun : runRec L (flF L ef) ops ops.toList 0 σ.boxes.length a σh with
    | none => simp [hrun] at h
    | some r =>
      obtain ⟨px, a1, σ1, rs⟩ := r
      have hrun' : runRec L (flF L ef) ops (ops.toList.drop 0) 0 (σ.boxes.length + cnt ops 0) a σh = some (px, a1, σ1, rs) := by
        have : cnt ops 0 = 0 := by simp [cnt]
        rw [this]; exact hrun
      obtain ⟨T, S, tr, hdf⟩ := runRec_trace hgd _ 0 rfl (Nat.zero_le _) hrun'
      have hal : ∀ (j : Nat) (o : Oper), ops[j]? = some o → isAlloc o = true → o.guard = none ∧ ∃ t z, o.op = .alloc t ∧ zeroLV L t = some z ∧ σh.boxes[σ.boxes.length + cnt ops j]? = some (.cells t z.cells) := fun j o ho hal => by
        obtain ⟨h1, t, z, h2, h3, _, _, h4⟩ := hs5 j o (by simpa using ho) hal
        exact ⟨h1, t, z, h2, h3, h4⟩
      have hw' : WR G σ { w with drawn := w.drawn + 1 } := WR.of_heap (w := w) (w' := { w with drawn := w.drawn + 1 }) rfl hw
      have e0 : Ext w G { w with drawn := w.drawn + 1 } G := Ext.of_heap (w := w) (w' := { w with drawn := w.drawn + 1 }) rfl G
      obtain ⟨hwh, eh⟩ := hw'.hoist hh
      have start : ∀ {M : Nat} (c : Ctx L (flF L ef) ops a.tmps σh σ.boxes.length M T S rs), Inv c w G a.defers (Array.replicate ops.size false) 0 a.tmps { w with drawn := w.drawn + 1 } { G with top := σh.boxes.length } act := fun {M} c => by
        have hno : ∀ j, ¬ lst (Array.replicate ops.size false) j := fun j hj => by
          unfold lst at hj
          simp [Array.getD_eq_getD_getElem?, Array.getElem?_replicate] at hj
          split at hj <;> simp at hj
        exact ⟨by simp, fun j o _ hj => absurd hj (hno j), fun j hj => absurd hj (hno j), Nat.zero_le _, fun j hj => absurd hj (hno j), fun j _ _ _ => Nat.zero_le _, ha.ext (e0.trans eh), by rw [c.s0]; exact hwh, rfl,
          fun j o d _ hj => absurd hj (hno j), fun d _ => rfl, fun d _ => rfl, fun j o ho hal _ => hw.munone (by omega), Nat.le_refl _, (e0.trans eh).toExt0, fun b B h => .inl h⟩
      have hcount : (Array.replicate ops.size false).toList.count false ≤ ops.size := by simp
      have hext : ∀ {w' : World} {G' : Gh}, Ext0 w G w' G' → (∀ b B, G'.mu b = some B → G.mu b = some B ∨ σ.boxes.length ≤ b) → σh.boxes.length ≤ G'.top → Ext w G w' G' := fun h1 h2 h3 =>
        ⟨h1, by have := hw.top; omega, fun b B h => (h2 b B h).imp (fun h => h) fun h => by have := hw.top; omega⟩
      simp only [hrun] at h
      cases px with
      | none =>
        simp only at h
        split at h
        · rename_i hd
          injection h with h; injection h with h1 h; injection h with h2 h3
          subst h1; subst h2; subst h3
          unfold drawOK at hd
          simp only [Bool.and_eq_true] at hd
          obtain ⟨⟨hd1, hd2⟩, _⟩ := hd
          obtain ⟨t1, t2, t3⟩ := tr.none rfl
          let c : Ctx L (flF L ef) ops a.tmps σh σ.boxes.length ops.size T S rs :=
            ⟨hM, flF_ok ef, Nat.le_refl _, tr.t0, tr.s0, fun j hj => t3 j (Nat.zero_le _) hj, static_1 hd1, static_2 hd1, pairs_ok hd2, hal, fun h => by omega⟩
          refine Inv.rest hL hS hF (c := c) hk0 (fun h => by omega) (fun _ act' w' G' h1 h2 h3 h4 h5 => ?_) _ hcount (start c)
          refine hQ act' w' G' (hext h1 h2 h3) ?_ (by rw [← t2]; exact h5)
          rw [t1] at h4
          exact ⟨h4.tmps, by rw [hdf]; exact h4.defers⟩
        · cases h
      | some pv =>
        obtain ⟨p, v⟩ := pv
        simp only at h
        split at h
        · rename_i hd
          injection h with h; injection h with h1 h; injection h with h2 h3
          subst h1; subst h2; subst h3
          unfold drawP at hd
          simp only [Bool.and_eq_true] at hd
          obtain ⟨⟨⟨hd1, hd2⟩, hd3⟩, hd4⟩ := hd
          obtain ⟨t1, t2, t3, o, t4, t5, t6, t7, t8⟩ := tr.some p v rfl
          let c : Ctx L (flF L ef) ops a.tmps σh σ.boxes.length p T S rs :=
            ⟨hM, flF_ok ef, by omega, tr.t0, tr.s0, fun j hj => t3 j (Nat.zero_le _) hj, static_1 hd1, static_2 hd1, pairs_ok hd2, hal, fun _ => ⟨fun i h1 h2 => by
              have ho : ops[i]? = some ops[i] := by simp [h2]
              have := and_all hd3 _ (zipIdx_mem ho)
              rw [Bool.or_eq_true, Bool.or_eq_true] at this
              rcases this with (h | h) | h
              · have := Nat.le_of_ble_eq_true h; omega
              · exact .inl h
              · exact .inr ⟨_, ho, h⟩, t8, fun x hx => by
              have := and_all hd4 _ hx
              rw [Bool.and_eq_true] at this
              exact Nat.le_of_ble_eq_true this.1, fun x ws hx b hb => by
              have := and_all hd4 _ hx
              rw [Bool.and_eq_true] at this
              have := and_all this.2 _ hb
              rw [Bool.or_eq_true] at this
              rcases this with h | h
              · exact .inl (by simpa [Nat.blt_eq] using h)
              · exact .inr (Nat.le_of_ble_eq_true h)⟩⟩
          refine Inv.rest hL hS hF (c := c) hk0 (fun _ => ⟨o, v, _, t4, t5, t7, fun act' w' G' h1 h2 h3 h4 h5 u hu => ?_⟩) (fun h => by omega) _ hcount (start c)
          exact hQ act' w' G' (hext h1 h2 h3) h4 h5 u hu
        · cases h
end Go.Lg
end
section
set_option linter.unusedSimpArgs false
set_option linter.unusedSectionVars false
namespace Go.Lg
variable [Rel]
variable {L : Look}
theorem keep0 {w0 w1 : World} {G G1 : Gh} {σ0 σ1 : LH} (hw0 : WR G σ0 w0) (hw1 : WR G1 σ1 w1) (hsz : w0.heap.size ≤ w1.heap.size) (hold : ∀ B, B < w0.heap.size → w1.heap[B]? = w0.heap[B]?) (hlim : ∀ B, B < w0.heap.size → G1.lim B = G.lim B) (hnt : Nt w0 w1) :
    WR { G with lim := G1.lim } σ0 w1 ∧ Ext w0 G w1 { G with lim := G1.lim } := by
  have e : Ext w0 G w1 { G with lim := G1.lim } := by
    refine ⟨⟨fun b B h => h, fun k p h => h, fun B => ?_, fun B o ho => ?_, fun B s hs => ?_, Nat.le_refl _, fun B hB => hold B (Nat.lt_of_lt_of_le hB hw0.fixh), fun B hB => hlim B (Nat.lt_of_lt_of_le hB hw0.fixh), hnt⟩, Nat.le_refl _, fun b B h => .inl h⟩
    · rcases Nat.lt_or_ge B w0.heap.size with h | h
      · show _ ≤ G1.lim B; rw [hlim B h]; exact Nat.le_refl _
      · rw [hw0.fresh B h]; exact Nat.zero_le _
    · exact cell?_get (hold B (lim_lt hw0.toWR0 ho))
    · exact (shape?_get (hold B (shape?_lt hs))).trans hs
  refine ⟨⟨⟨fun b B hb => ?_, hw0.inj, fun b B hb => ?_, hw0.ref, fun B hB => hw1.fresh B hB, fun k hk => ?_, hw0.tokinj, hw0.tokdom, hw0.top, hw0.fixm, hw0.fixt, Nat.le_trans hw0.fixh hsz⟩, hw0.full⟩, e⟩
  · obtain ⟨o, ho, hr⟩ := hw0.box b B hb
    exact ⟨o, ho, hr.ext e (hold B (hw0.low b B hb).2)⟩
  · have := hw0.low b B hb
    exact ⟨(hlim B this.2).trans this.1, by omega⟩
  · obtain ⟨B, x, h1, h2, h3, c, t, h4⟩ := hw0.tok k hk
    exact ⟨B, x, h1, (hlim B (heap_lt h4)).trans h2, h3, c, t, (hold B (heap_lt h4)).trans h4⟩
theorem flF_mod {ef : LV → List LV → LH → Option CR} (hM : ∀ f args σ cr, ef f args σ = some cr → Mod σ (cr.st σ)) : ∀ f args σ cr, flF L ef f args σ = some cr → Mod σ (cr.st σ) := by
  intro f args σ cr h
  cases hc : isCf L f with
  | false => simp only [flF, hc] at h; exact hM _ _ _ _ h
  | true =>
    obtain ⟨v, rfl, _⟩ := flF_ok ef f args σ cr hc h
    exact Mod.refl _
theorem SoundF.fl {ef : LV → List LV → LH → Option CR} (hS : SoundF L ef) : SoundF L (flF L ef) := by
  intro f l σ cr h
  cases hc : isCf L f with
  | false => simp only [flF, hc] at h; exact hS _ _ _ _ h
  | true =>
    simp only [flF, hc] at h
    split at h
    · rename_i hcl
      rw [Bool.and_eq_true] at hcl
      split at h
      · rename_i v he
        split at h
        · rename_i hvok
          rw [Bool.and_eq_true] at hvok
          injection h with h; subst h
          obtain ⟨g, rfl⟩ : ∃ g, f = .func (.func g) [] [] := by
            unfold isCf at hc
            split at hc
            · exact ⟨_, rfl⟩
            · cases hc
          refine ⟨Mod.refl _, fun w G fv avs hw hf hvs => ?_⟩
          let G0 : Gh := { mu := fun _ => none, lim := G.lim, tok := fun _ => none, top := 0, fix := w.heap.size }
          have hw0 : WR G0 { boxes := [], toks := [], ws := [] } w :=
            ⟨⟨fun b B hb => by (cases hb), fun b b' B hb => by (cases hb), fun b B hb => by (cases hb), fun b o ho => by simp at ho, hw.fresh, fun k hk => by simp at hk, fun k k' B x x' hk => by simp at hk, fun k p hp => by (cases hp), Nat.le_refl _, fun b B hb => by (cases hb), fun k B x hk => by simp at hk, Nat.le_refl _⟩, fun b hb => by simp at hb⟩
          have cutv : ExtV 0 w G w G0 := ⟨fun b B h => absurd h (Nat.not_lt_zero _), fun B => Nat.le_refl _, fun _ _ _ => rfl⟩
          have hv0 : VRs w G0 l avs.toList := ⟨hvs.1, fun j x v hx hv => (hvs.2 j x v hx hv).cut (N := 0) (T := 0) cutv (fun k p h => absurd h (Nat.not_lt_zero _)) (fun _ _ h => h) (refsOK_iff.1 hcl.1 x (List.mem_of_getElem? hx)) (toksOK_iff.1 hcl.2 x (List.mem_of_getElem? hx))⟩
          have hf0 : VR w G0 (.func (.func g) [] []) fv := hf.cut (N := 0) (T := 0) cutv (fun k p h => absurd h (Nat.not_lt_zero _)) (fun _ _ h => h) rfl rfl
          obtain ⟨nx, w1, hrun, hm⟩ := (hS _ _ _ _ he).2 w G0 fv avs hw0 hf0 hv0
          refine ⟨nx, w1, hrun, ?_⟩
          cases nx with
          | enter g' args =>
            refine CallsIn.mono hm fun en w2 hR => ?_
            cases en with
            | returned u =>
              obtain ⟨v', e1, G1, hw2, hx, hvr⟩ := hR
              simp only [CR.out] at e1
              injection e1 with e1; subst e1
              have hsz : w.heap.size ≤ w2.heap.size := Nat.le_trans hx.fix hw2.fixh
              obtain ⟨k1, k2⟩ := keep0 hw hw2 hsz (fun B hB => hx.old B hB) (fun B hB => hx.oldl B hB) hx.nat
              have ev : ExtV 0 w2 G1 w2 { G with lim := G1.lim } := ⟨fun b B h => by omega, fun B => Nat.le_refl _, fun _ _ _ => rfl⟩
              exact ⟨v, rfl, _, k1, k2, hvr.cut ev (fun k p h => by omega) (fun _ _ h => h) hvok.1 hvok.2⟩
            | panicked chain => obtain ⟨v', u, e1, _⟩ := hR; cases e1
            | outgrown => exact hR.elim
          | round a1 a2 a3 a4 a5 =>
            obtain ⟨⟨B, hB⟩, _⟩ := hm
            obtain ⟨fs', cs', hfv, _⟩ := hf.func_inv
            rw [hfv] at hB; cases hB
          | _ => exact hm.elim
        · cases h
      · cases h
    · cases h
end Go.Lg
end
section
set_option linter.unusedSimpArgs false
set_option linter.unusedSectionVars false
namespace Go.Lg
variable [Rel]
variable {L : Look}
theorem runRec_mod {ef : LV → List LV → LH → Option CR} (hM : ∀ f args σ cr, ef f args σ = some cr → Mod σ (cr.st σ)) {ops : Array Oper} :
    ∀ (os : List Oper) {i k : Nat} {a a' : LAct} {σ σ' : LH} {p : Option (Nat × LV)} {rs : List Rec}, runRec L ef ops os i k a σ = some (p, a', σ', rs) → Mod σ σ' := by
  intro os
  induction os with
  | nil => intro i k a a' σ σ' p rs h; simp only [runRec] at h; injection h with h; injection h with h1 h2; injection h2 with h2 h3; injection h3 with h3 h4; subst h3; exact Mod.refl _
  | cons o os ih =>
    intro i k a a' σ σ' p rs h
    simp only [runRec] at h
    split at h
    · cases h
    · exact ih h
    · split at h
      · split at h
        · rename_i hr
          injection h with h; injection h with h1 h2; injection h2 with h2 h3; injection h3 with h3 h4
          subst h3; exact ih hr
        · cases h
      · split at h
        · cases h
        · rename_i v σ1 hst
          split at h
          · rename_i hr
            injection h with h; injection h with h1 h2; injection h2 with h2 h3; injection h3 with h3 h4
            subst h3; exact (opStep_mod hM hst).1.trans (ih hr)
          · cases h
        · rename_i v σ1 hst
          injection h with h; injection h with h1 h2; injection h2 with h2 h3; injection h3 with h3 h4
          subst h3; exact (opStep_mod hM hst).1
        · cases h
theorem hoist_mod {os : List Oper} {σ σh : LH} (h : hoist L os σ = some σh) : Mod σ σh := by
  obtain ⟨h1, h2, ⟨bs, h3, _⟩, _⟩ := hoist_spec L os h
  exact ⟨by rw [h3]; simp, by rw [h1]; exact Nat.le_refl _, [], by rw [h2]; rfl, fun b hb _ => by rw [h3, List.getElem?_append_left hb]⟩
theorem evRegion_mod {ef : LV → List LV → LH → Option CR} (hM : ∀ f args σ cr, ef f args σ = some cr → Mod σ (cr.st σ)) {rnd draw : Bool} {ops : Array Oper} {a a' : LAct} {σ σ' : LH} {x : LExit} (h : evRegion L ef rnd ops draw a σ = some (x, a', σ')) : Mod σ σ' := by
  unfold evRegion at h
  split at h
  · split at h
    · cases h
    · rename_i σh hh
      split at h
      · rename_i hr
        split at h
        · injection h with h; injection h with h1 h2; injection h2 with h2 h3; subst h3; exact (hoist_mod hh).trans (runRec_mod (flF_mod hM) _ hr)
        · cases h
      · rename_i hr
        split at h
        · injection h with h; injection h with h1 h2; injection h2 with h2 h3; subst h3; exact (hoist_mod hh).trans (runRec_mod (flF_mod hM) _ hr)
        · cases h
      · cases h
  · split at h
    · rename_i hr; injection h with h; injection h with h1 h2; injection h2 with h2 h3; subst h3; exact runOps_mod hM _ hr
    · rename_i hr; injection h with h; injection h with h1 h2; injection h2 with h2 h3; subst h3; exact runOps_mod hM _ hr
    · cases h
def Post (Q : Exit → Act → World → Prop) (w : World) (G : Gh) (a' : LAct) (σ' : LH) : LExit → Prop
  | .normal => ∀ act' w' G', Ext w G w' G' → AR w' G' a' act' → WR G' σ' w' → Q .normal act' w'
  | .exit id => ∀ act' w' G', Ext w G w' G' → AR w' G' a' act' → WR G' σ' w' → Q (.exit id) act' w'
  | .ret => ∀ act' w' G', Ext w G w' G' → AR w' G' a' act' → WR G' σ' w' → Q .ret act' w'
  | .panic v => ∀ act' w' G', Ext w G w' G' → AR w' G' a' act' → WR G' σ' w' → ∀ u, VR w' G' v u → Q (.panic [{ v := u, recovered := false }]) act' w'
theorem Post.ext {Q : Exit → Act → World → Prop} {w w1 : World} {G G1 : Gh} {a' : LAct} {σ' : LH} {x : LExit} (e : Ext w G w1 G1) (h : Post Q w G a' σ' x) : Post Q w1 G1 a' σ' x := by
  cases x with
  | normal => exact fun act' w' G' e' => h act' w' G' (e.trans e')
  | exit id => exact fun act' w' G' e' => h act' w' G' (e.trans e')
  | ret => exact fun act' w' G' e' => h act' w' G' (e.trans e')
  | panic v => exact fun act' w' G' e' => h act' w' G' (e.trans e')
def CWp (L : Look) (m : Nat) (F : Fence) (Q : Exit → Act → World → Prop) (act : Act) (w : World) : Code → Prop
  | .loop b => Code.roundsIn F 0 L.P b Q m act w
  | c => c.wpIn F 0 L.P Q act w
theorem CWp.wp {m : Nat} {F : Fence} {Q : Exit → Act → World → Prop} {act : Act} {w : World} {c : Code} (h : CWp L m F Q act w c) : c.wpIn F 0 L.P Q act w := by
  cases c with
  | loop b => exact wpIn_loop_rounds m h
  | _ => exact h
def SoundC (L : Look) (ec : Bool → Code → LAct → LH → Option (LExit × LAct × LH)) : Prop :=
  ∀ rnd c a σ x a' σ', ec rnd c a σ = some (x, a', σ') → Mod σ σ' ∧ ∃ m, ∀ F, FF F → (rnd = false → F.round = none) → ∀ w G act, AR w G a act → WR G σ w → ∀ Q, Post Q w G a' σ' x → CWp L m F Q act w c
theorem SoundF.mod {ef : LV → List LV → LH → Option CR} (hS : SoundF L ef) : ∀ f args σ cr, ef f args σ = some cr → Mod σ (cr.st σ) := fun f args σ cr h => (hS f args σ cr h).1
theorem region_sound {ef : LV → List LV → LH → Option CR} (hL : LookOK L) (hS : SoundF L ef) {rnd draw : Bool} {id : Nat} {ops : Array Oper} {a a' : LAct} {σ σ' : LH} {x : LExit} (h : evRegion L ef rnd ops draw a σ = some (x, a', σ'))
    {F : Fence} (hF : FF F) (hr : rnd = false → F.round = none) {w : World} {G : Gh} {act : Act} (ha : AR w G a act) (hw : WR G σ w) {Q : Exit → Act → World → Prop} (hQ : Post Q w G a' σ' x) : (Code.region id ops draw).wpIn F 0 L.P Q act w := by
  cases draw with
  | true =>
    refine draw_wp hL hS.fl hF ha hw h Q fun act' w' G' e h1 h2 => ?_
    have hx : x = .normal ∨ ∃ v, x = .panic v := by
      unfold evRegion at h
      simp only [if_true] at h
      split at h
      · cases h
      · split at h
        · split at h
          · injection h with h; injection h with h1 h2; exact .inl h1.symm
          · cases h
        · split at h
          · injection h with h; injection h with h1 h2; exact .inr ⟨_, h1.symm⟩
          · cases h
        · cases h
    rcases hx with rfl | ⟨v, rfl⟩
    · exact hQ act' w' G' e h1 h2
    · exact hQ act' w' G' e h1 h2
  | false =>
    refine wpIn_region ?_
    rw [List.range_eq_range']
    unfold evRegion at h
    simp only [Bool.false_eq_true, if_false] at h
    split at h
    · rename_i a1 σ1 hrun
      injection h with h; injection h with h1 h2; injection h2 with h2 h3; subst h1; subst h2; subst h3
      have := runOps_wp hL hS hF hr ops.toList 0 rfl ha hw hrun Q (fun act' w' G' e h1 h2 => hQ act' w' G' e h1 h2)
      simpa using this
    · rename_i v a1 σ1 hrun
      injection h with h; injection h with h1 h2; injection h2 with h2 h3; subst h1; subst h2; subst h3
      have := runOps_wp hL hS hF hr ops.toList 0 rfl ha hw hrun Q (fun act' w' G' e h1 h2 => hQ act' w' G' e h1 h2)
      simpa using this
    · cases h
theorem ctl_sound (hL : LookOK L) {e : Ev} (hC : SoundC L e.c) (hS : SoundF L e.f) {rnd : Bool} {c : Code} {a a' : LAct} {σ σ' : LH} {x : LExit} (hn : ∀ g ps as b, c ≠ .rangeFunc g ps as b) (h : stepC L e rnd c a σ = some (x, a', σ')) :
    Mod σ σ' ∧ ∃ m, ∀ F, FF F → (rnd = false → F.round = none) → ∀ w G act, AR w G a act → WR G σ w → ∀ Q, Post Q w G a' σ' x → CWp L m F Q act w c := by
  cases c with
  | skip =>
    simp only [stepC] at h
    injection h with h; injection h with h1 h2; injection h2 with h2 h3; subst h1; subst h2; subst h3
    exact ⟨Mod.refl _, 0, fun F hF hr w G act ha hw Q hQ => wpIn_skip (hQ act w G (Ext.refl _ _) ha hw)⟩
  | region id ops draw =>
    simp only [stepC] at h
    exact ⟨evRegion_mod hS.mod h, 0, fun F hF hr w G act ha hw Q hQ => region_sound hL hS h hF hr ha hw hQ⟩
  | seq y z =>
    simp only [stepC] at h
    split at h
    · rename_i a1 σ1 h1
      obtain ⟨m1, r1, p1⟩ := hC _ _ _ _ _ _ _ h1
      obtain ⟨m2, r2, p2⟩ := hC _ _ _ _ _ _ _ h
      refine ⟨m1.trans m2, 0, fun F hF hr w G act ha hw Q hQ => wpIn_seq (CWp.wp (p1 F hF hr w G act ha hw _ ?_))⟩
      exact fun act1 w1 G1 e1 ha1 hw1 => (p2 F hF hr w1 G1 act1 ha1 hw1 Q (hQ.ext e1)).wp
    · rename_i hne
      have hxn : x ≠ .normal := fun hx => by subst hx; exact hne _ _ h
      obtain ⟨m1, r1, p1⟩ := hC _ _ _ _ _ _ _ h
      refine ⟨m1, 0, fun F hF hr w G act ha hw Q hQ => wpIn_seq (CWp.wp (p1 F hF hr w G act ha hw _ ?_))⟩
      cases x with
      | normal => exact absurd rfl hxn
      | exit id => exact hQ
      | ret => exact hQ
      | panic v => exact hQ
  | cond o y z =>
    simp only [stepC] at h
    split at h
    · rename_i t ht
      cases t with
      | true =>
        simp only [if_true] at h
        obtain ⟨m1, r1, p1⟩ := hC _ _ _ _ _ _ _ h
        exact ⟨m1, 0, fun F hF hr w G act ha hw Q hQ => wpIn_cond (opv_sound ha.tmps ht).bool_inv (p1 F hF hr w G act ha hw Q hQ).wp⟩
      | false =>
        simp only [Bool.false_eq_true, if_false] at h
        obtain ⟨m1, r1, p1⟩ := hC _ _ _ _ _ _ _ h
        exact ⟨m1, 0, fun F hF hr w G act ha hw Q hQ => wpIn_cond (opv_sound ha.tmps ht).bool_inv (p1 F hF hr w G act ha hw Q hQ).wp⟩
    · cases h
  | block id b =>
    simp only [stepC] at h
    split at h
    · rename_i id' a1 σ1 h1
      obtain ⟨m1, r1, p1⟩ := hC _ _ _ _ _ _ _ h1
      split at h
      · rename_i hid
        injection h with h; injection h with h2 h3; injection h3 with h3 h4; subst h2; subst h3; subst h4
        refine ⟨m1, 0, fun F hF hr w G act ha hw Q hQ => wpIn_block (CWp.wp (p1 F hF hr w G act ha hw _ ?_))⟩
        intro act' w' G' e1 h1 h2
        simp only [Exit.inBlock, hid, if_true]
        exact hQ act' w' G' e1 h1 h2
      · rename_i hid
        injection h with h; injection h with h2 h3; injection h3 with h3 h4; subst h2; subst h3; subst h4
        refine ⟨m1, 0, fun F hF hr w G act ha hw Q hQ => wpIn_block (CWp.wp (p1 F hF hr w G act ha hw _ ?_))⟩
        intro act' w' G' e1 h1 h2
        simp only [Exit.inBlock, hid, if_false]
        exact hQ act' w' G' e1 h1 h2
    · rename_i hne
      obtain ⟨m1, r1, p1⟩ := hC _ _ _ _ _ _ _ h
      refine ⟨m1, 0, fun F hF hr w G act ha hw Q hQ => wpIn_block (CWp.wp (p1 F hF hr w G act ha hw _ ?_))⟩
      cases x with
      | normal => exact hQ
      | exit id' => exact absurd h (hne _ _ _)
      | ret => exact hQ
      | panic v => exact hQ
  | loop b =>
    simp only [stepC] at h
    split at h
    · rename_i a1 σ1 h1
      obtain ⟨m1, r1, p1⟩ := hC _ _ _ _ _ _ _ h1
      obtain ⟨m2, r2, p2⟩ := hC _ _ _ _ _ _ _ h
      refine ⟨m1.trans m2, r2 + 1, fun F hF hr w G act ha hw Q hQ => ?_⟩
      exact CWp.wp (p1 F hF hr w G act ha hw _ (fun act1 w1 G1 e1 ha1 hw1 => p2 F hF hr w1 G1 act1 ha1 hw1 Q (hQ.ext e1)))
    · rename_i hne
      obtain ⟨m1, r1, p1⟩ := hC _ _ _ _ _ _ _ h
      refine ⟨m1, 1, fun F hF hr w G act ha hw Q hQ => ?_⟩
      refine CWp.wp (p1 F hF hr w G act ha hw _ ?_)
      cases x with
      | normal => exact absurd h (hne _ _)
      | exit id => exact hQ
      | ret => exact hQ
      | panic v => exact hQ
  | exit id =>
    simp only [stepC] at h
    injection h with h; injection h with h1 h2; injection h2 with h2 h3; subst h1; subst h2; subst h3
    exact ⟨Mod.refl _, 0, fun F hF hr w G act ha hw Q hQ => wpIn_exit (hQ act w G (Ext.refl _ _) ha hw)⟩
  | ret =>
    simp only [stepC] at h
    injection h with h; injection h with h1 h2; injection h2 with h2 h3; subst h1; subst h2; subst h3
    exact ⟨Mod.refl _, 0, fun F hF hr w G act ha hw Q hQ => wpIn_ret (hQ act w G (Ext.refl _ _) ha hw)⟩
  | rangeFunc g ps as b => exact absurd rfl (hn _ _ _ _)
  | _ => simp only [stepC] at h; cases h
end Go.Lg
end
section
set_option linter.unusedSimpArgs false
set_option linter.unusedSectionVars false
namespace Go.Lg
variable [Rel]
variable {L : Look}
theorem VRs.refsOK {w : World} {G : Gh} {N : Nat} (hN : ∀ b B, G.mu b = some B → b < N) {xs : List LV} {vs : List Value} (h : VRs w G xs vs) : LV.refsOK N xs = true := by
  rw [refsOK_iff]; intro x hx
  obtain ⟨j, hj⟩ := List.getElem?_of_mem hx
  have hlt : j < vs.length := h.1 ▸ (List.getElem?_eq_some_iff.1 hj).1
  exact (h.2 j x vs[j] hj (by simp [hlt])).refOK hN
theorem VRs.toksOK {w : World} {G : Gh} {N : Nat} (hN : ∀ k p, G.tok k = some p → k < N) {xs : List LV} {vs : List Value} (h : VRs w G xs vs) : LV.toksOK N xs = true := by
  rw [toksOK_iff]; intro x hx
  obtain ⟨j, hj⟩ := List.getElem?_of_mem hx
  have hlt : j < vs.length := h.1 ▸ (List.getElem?_eq_some_iff.1 hj).1
  exact (h.2 j x vs[j] hj (by simp [hlt])).tokOK hN
theorem VRs.cut {w w' : World} {G G' : Gh} {N T : Nat} (e : ExtV N w G w' G') (ht : ∀ k p, k < T → G.tok k = some p → G'.tok k = some p) (hs : ∀ B s, w.shape? B = some s → w'.shape? B = some s) {xs : List LV} {vs : List Value} (h : VRs w G xs vs) (hr : LV.refsOK N xs = true) (hk : LV.toksOK T xs = true) : VRs w' G' xs vs :=
  ⟨h.1, fun j x v hx hv => (h.2 j x v hx hv).cut e ht hs (refsOK_iff.1 hr x (List.mem_of_getElem? hx)) (toksOK_iff.1 hk x (List.mem_of_getElem? hx))⟩
def LObj.tokOK (T : Nat) : LObj → Prop
  | .cells _ cs => LV.toksOK T cs = true
  | .loop r => ∀ k x, r.tmps.get k = some x → x.tokOK T = true
  | _ => True
theorem ObjR.cut {w : World} {G G' : Gh} {N T B : Nat} (e : ExtV N w G w G') (ht : ∀ k p, k < T → G.tok k = some p → G'.tok k = some p) {o : LObj} (h : ObjR w G B o) (hr : o.refOK N)
    (hk : o.tokOK T) : ObjR w G' B o := by
  cases o with
  | cells t cs => obtain ⟨c, h1, h2⟩ := h; exact ⟨c, h1, h2.cut e ht (fun _ _ h => h) hr hk⟩
  | loop r =>
    obtain ⟨L, h1, h2, h3, h4, h5⟩ := h
    exact ⟨L, h1, h2, h3, ⟨h4.size, fun k x hx => (h4.get k x hx).cut e ht (fun _ _ h => h) (hr k x hx) (hk k x hx)⟩, h5⟩
  | dfr => exact h
  | gone => trivial
theorem ObjR.tokOK {w : World} {G : Gh} {N B : Nat} (hN : ∀ k p, G.tok k = some p → k < N) {o : LObj} (h : ObjR w G B o) : o.tokOK N := by
  cases o with
  | cells t cs => obtain ⟨c, h1, h2⟩ := h; exact h2.toksOK hN
  | loop r => obtain ⟨L, h1, h2, h3, h4, h5⟩ := h; exact fun k x hx => (h4.get k x hx).tokOK hN
  | dfr => trivial
  | gone => trivial
theorem VR.reown {w : World} {G G' G'' : Gh} {xs : List LV} {k k' : Nat} {nz : Option Bool} {v : Value} (h : VR w G (.slice xs (.tok k) nz) v) (h2 : VR w G' (.slice xs .none nz) v)
    (hlim : ∀ B, G.lim B ≤ G''.lim B) (hmu : Ext0 w G' w G'') (ht : G''.tok k' = G.tok k) : VR w G'' (.slice xs (.tok k') nz) v := by
  cases h with
  | slice _ _ _ a cap s f hcap hnz hnil hsp hw hown h hv =>
    have h3 := h2.ext0 hmu
    obtain ⟨A, hA, hn, hk, t, N, hsh, hle⟩ := hown
    subst hA
    refine .slice xs _ nz (some A) cap s f hcap hnz hnil hsp hw ⟨A, rfl, hn, ht.trans hk, t, N, hsh, hle⟩ (fun A' i x j c hA' hx hc => ?_) (fun i x j c hx hc => ?_)
    · injection hA' with hA'; subst hA'
      have := h A i x j c rfl hx hc
      exact ⟨Nat.lt_of_lt_of_le this.1 (hlim _), this.2⟩
    · cases h3 with
      | slice _ _ _ _ _ s' f' hcap' hnz' hnil' hsp' hw' hown' h' hv' =>
        have hne : xs[i]? = some x := hx
        have hss : s' = s := (hw' x (List.mem_of_getElem? hx)).1.symm.trans (hw x (List.mem_of_getElem? hx)).1
        subst hss
        have e1 := (h A i x j c rfl hx hc).2
        have e2 := (h' A i x j c rfl hx hc).2
        rw [e1] at e2; injection e2 with e2
        rw [e2]; exact hv' i x j c hx hc
section
variable {w0 w1 : World} {G G1 : Gh} {σ0 σ1 : LH}
theorem below_mu (hw0 : WR G σ0 w0) (e : Ext w0 G w1 G1) {b B : Nat} (hb : b < σ0.boxes.length) (h : G1.mu b = some B) : G.mu b = some B := by
  cases hg : G.mu b with
  | some B' => rw [e.mu b B' hg] at h; exact h
  | none =>
    rcases e.new b B h with h' | h'
    · rw [hg] at h'; cases h'
    · have := hw0.full b hb hg; omega
theorem cut_all (hw0 : WR G σ0 w0) (e : Ext w0 G w1 G1) (hw1 : WR G1 σ1 w1) (hm : Mod { σ0 with ws := [] } σ1) (hold : σ1.ws.filter (· < σ0.boxes.length) = []) (htk : σ1.toks.take σ0.toks.length = σ0.toks) :
    ∃ G', WR G' σ0 w1 ∧ Ext w0 G w1 G' ∧ ExtV σ0.boxes.length w1 G1 w1 G' ∧ (∀ k p, k < σ0.toks.length → G1.tok k = some p → G'.tok k = some p) ∧ G'.lim = G1.lim ∧ G'.mu = G.mu ∧ (∀ k p, G'.tok k = some p → k < σ0.toks.length ∧ G1.tok k = some p) ∧ G'.fix ≤ G1.fix := by
  let G' : Gh := { mu := G.mu, lim := G1.lim, tok := fun k => if k < σ0.toks.length then G1.tok k else none, top := G.top, fix := G.fix }
  have ev : ExtV σ0.boxes.length w1 G1 w1 G' := ⟨fun b B hb h => below_mu hw0 e hb h, fun B => Nat.le_refl _, fun _ _ _ => rfl⟩
  have et : ∀ k p, k < σ0.toks.length → G1.tok k = some p → G'.tok k = some p := fun k p hk h => by simp only [G']; rw [if_pos hk]; exact h
  have et' : ∀ k p, G'.tok k = some p → k < σ0.toks.length ∧ G1.tok k = some p := fun k p h => by
    simp only [G'] at h
    split at h
    · exact ⟨by assumption, h⟩
    · cases h
  have alive : ∀ k : Nat, σ0.toks[k]? = some true → σ1.toks[k]? = some true := fun k hk => by
    have hlt := (List.getElem?_eq_some_iff.1 hk).1
    rw [← htk, List.getElem?_take, if_pos hlt] at hk
    exact hk
  refine ⟨G', ⟨⟨fun b B hb => ?_, hw0.inj, fun b B hb => ?_, hw0.ref, hw1.fresh, fun k hk => ?_, fun k k' B x x' hk hk' h1 h2 => ?_, fun k p hk => (et' k p hk).1, hw0.top, hw0.fixm, fun k B x hk hp => Nat.le_trans e.fix (hw1.fixt k B x (alive k hk) (et' _ _ hp).2), Nat.le_trans e.fix hw1.fixh⟩, hw0.full⟩, ⟨⟨fun b B h => h, fun k p h => et k p (hw0.tokdom k p h) (e.tok k p h), e.lim, e.cell, e.shape, Nat.le_refl _, e.old, e.oldl, e.nat⟩, Nat.le_refl _, fun b B h => .inl h⟩, ev, et, rfl, rfl, et', e.fix⟩
  · obtain ⟨o, ho, hr⟩ := hw1.box b B (e.mu b B hb)
    have hlt := hw0.mudom hb
    obtain ⟨l, hl1, hl2⟩ := hm.ws
    have hnl : b ∉ l := fun hin => by
      simp at hl1
      have : b ∈ σ1.ws.filter (· < σ0.boxes.length) := by rw [hl1]; simp [hin, hlt]
      rw [hold] at this; simp at this
    have hbe : σ1.boxes[b]? = σ0.boxes[b]? := hl2 b hlt hnl
    obtain ⟨o0, ho0, hr0⟩ := hw0.box b B hb
    have hoe : o0 = o := by rw [hbe, ho0] at ho; injection ho
    subst hoe
    exact ⟨o0, ho0, hr.cut ev et (objRef_mono (refB_le hlt) (hw0.ref b o0 ho0)) (hr0.tokOK hw0.tokdom)⟩
  · have := hw1.low b B (e.mu b B hb); exact this
  · obtain ⟨B, x, h1, h2, h3, h4⟩ := hw1.tok k (alive k hk)
    exact ⟨B, x, et k _ (List.getElem?_eq_some_iff.1 hk).1 h1, h2, fun b hb => h3 b (e.mu b B hb), h4⟩
  · exact hw1.tokinj _ _ _ _ _ (alive k hk) (alive k' hk') (et' _ _ h1).2 (et' _ _ h2).2
theorem cut_boxes0 (hrel : Rel.rel = false) (hw0 : WR G σ0 w0) (e : Ext w0 G w1 G1) (hw1 : WR G1 σ1 w1) (hlen : σ0.boxes.length ≤ σ1.boxes.length) (ws : List Nat) :
    ∃ G', WR G' { boxes := σ1.boxes.take σ0.boxes.length, toks := σ1.toks, ws := ws } w1 ∧ Ext w0 G w1 G' ∧ ExtV σ0.boxes.length w1 G1 w1 G' ∧ G'.tok = G1.tok := by
  let G' : Gh := { G1 with mu := G.mu, top := G.top, fix := G.fix }
  have ev : ExtV σ0.boxes.length w1 G1 w1 G' := ⟨fun b B hb h => below_mu hw0 e hb h, fun B => Nat.le_refl _, fun _ _ _ => rfl⟩
  have htl : (σ1.boxes.take σ0.boxes.length).length = σ0.boxes.length := by simp; omega
  have hget : ∀ b, b < σ0.boxes.length → (σ1.boxes.take σ0.boxes.length)[b]? = σ1.boxes[b]? := fun b hb => by rw [List.getElem?_take, if_pos hb]
  refine ⟨G', ⟨⟨fun b B hb => ?_, hw0.inj, fun b B hb => hw1.low b B (e.mu b B hb), fun b o ho => ?_, hw1.fresh, fun k hk => ?_, hw1.tokinj, hw1.tokdom, by show G.top ≤ _; rw [htl]; exact hw0.top, hw0.fixm, fun k B x hk hp => Nat.le_trans e.fix (hw1.fixt k B x hk hp), Nat.le_trans e.fix hw1.fixh⟩, by show ∀ b, b < _ → _; rw [htl]; exact hw0.full⟩,
    ⟨⟨fun b B h => h, e.tok, e.lim, e.cell, e.shape, Nat.le_refl _, e.old, e.oldl, e.nat⟩, Nat.le_refl _, fun b B h => .inl h⟩, ev, rfl⟩
  · obtain ⟨o, ho, hr⟩ := hw1.box b B (e.mu b B hb)
    have hlt := hw0.mudom hb
    exact ⟨o, (hget b hlt).trans ho, hr.cut (T := σ1.toks.length) ev (fun k p _ h => h) (objRef_mono (by show refB b _ ≤ _; unfold refB; rw [hrel]; exact hlt) (hw1.ref b o ho)) (hr.tokOK hw1.tokdom)⟩
  · have hlt : b < σ0.boxes.length := by have h : b < (σ1.boxes.take σ0.boxes.length).length := (List.getElem?_eq_some_iff.1 ho).1; omega
    exact objRef_mono (by show refB b _ ≤ refB b _; unfold refB; rw [hrel]; exact Nat.le_refl _) (hw1.ref b o ((hget b hlt).symm.trans ho))
  · obtain ⟨B, x, h1, h2, h3, h4⟩ := hw1.tok k hk
    exact ⟨B, x, h1, h2, fun b hb => h3 b (e.mu b B hb), h4⟩
theorem cut_boxes (hw0 : WR G σ0 w0) (e : Ext w0 G w1 G1) (hw1 : WR G1 σ1 w1) (hlen : σ0.boxes.length ≤ σ1.boxes.length) (ws : List Nat) :
    ∃ G', WR G' { boxes := keepB σ1.boxes σ0.boxes.length, toks := σ1.toks, ws := ws } w1 ∧ Ext w0 G w1 G' ∧ ExtV σ0.boxes.length w1 G1 w1 G' ∧ G'.tok = G1.tok := by
  unfold keepB
  cases hrel : Rel.rel with
  | true => exact ⟨G1, WR.of_ws (σ := σ1) (σ' := { boxes := σ1.boxes, toks := σ1.toks, ws := ws }) rfl rfl hw1, e, ⟨fun b B _ h => h, fun B => Nat.le_refl _, fun _ _ _ => rfl⟩, rfl⟩
  | false => exact cut_boxes0 hrel hw0 e hw1 hlen ws
theorem keep_all {w0 w1 : World} {G G1 : Gh} {σ0 σ1 : LH} (hw0 : WR G σ0 w0) (hw1 : WR G1 σ1 w1) (hsz : w0.heap.size ≤ w1.heap.size) (hold : ∀ B, B < w0.heap.size → w1.heap[B]? = w0.heap[B]?) (hlim : ∀ B, B < w0.heap.size → G1.lim B = G.lim B) (hnt : Nt w0 w1) :
    WR { G with lim := G1.lim } σ0 w1 ∧ Ext w0 G w1 { G with lim := G1.lim } := by
  have e : Ext w0 G w1 { G with lim := G1.lim } := by
    refine ⟨⟨fun b B h => h, fun k p h => h, fun B => ?_, fun B o ho => ?_, fun B s hs => ?_, Nat.le_refl _, fun B hB => hold B (Nat.lt_of_lt_of_le hB hw0.fixh), fun B hB => hlim B (Nat.lt_of_lt_of_le hB hw0.fixh), hnt⟩, Nat.le_refl _, fun b B h => .inl h⟩
    · rcases Nat.lt_or_ge B w0.heap.size with h | h
      · show _ ≤ G1.lim B; rw [hlim B h]; exact Nat.le_refl _
      · rw [hw0.fresh B h]; exact Nat.zero_le _
    · exact cell?_get (hold B (lim_lt hw0.toWR0 ho))
    · exact (shape?_get (hold B (shape?_lt hs))).trans hs
  refine ⟨⟨⟨fun b B hb => ?_, hw0.inj, fun b B hb => ?_, hw0.ref, fun B hB => hw1.fresh B hB, fun k hk => ?_, hw0.tokinj, hw0.tokdom, hw0.top, hw0.fixm, hw0.fixt, Nat.le_trans hw0.fixh hsz⟩, hw0.full⟩, e⟩
  · obtain ⟨o, ho, hr⟩ := hw0.box b B hb
    exact ⟨o, ho, hr.ext e (hold B (hw0.low b B hb).2)⟩
  · have := hw0.low b B hb
    exact ⟨(hlim B this.2).trans this.1, by omega⟩
  · obtain ⟨B, x, h1, h2, h3, c, t, h4⟩ := hw0.tok k hk
    exact ⟨B, x, h1, (hlim B (heap_lt h4)).trans h2, h3, c, t, (hold B (heap_lt h4)).trans h4⟩
end
end Go.Lg
end
section
set_option linter.unusedSimpArgs false
set_option linter.unusedSectionVars false
namespace Go.Lg
variable [Rel]
variable {L : Look}
theorem finish_mod {σ0 σ1 : LH} {r : LOut} (hm : Mod { σ0 with ws := [] } σ1) : Mod σ0 ((finish σ0 r σ1).st σ0) := by
  obtain ⟨l, hl1, hl2⟩ := hm.ws
  simp at hl1
  have hlen : σ0.boxes.length ≤ σ1.boxes.length := hm.len
  have htl : σ0.toks.length ≤ σ1.toks.length := hm.tlen
  have hold : ∀ b, b < σ0.boxes.length → b ∉ σ1.ws.filter (· < σ0.boxes.length) → σ1.boxes[b]? = σ0.boxes[b]? := fun b hb hn => hl2 b hb fun hin => hn (by rw [hl1]; simp [hin, hb])
  unfold finish
  simp only
  split
  · split
    · split
      · split
        · exact Mod.refl _
        · split
          · exact ⟨Nat.le_refl _, by show σ0.toks.length ≤ (σ0.toks ++ [true]).length; simp, [], rfl, fun _ _ _ => rfl⟩
          · exact Mod.refl _
      · exact Mod.refl _
    · refine ⟨keepB_len hlen, htl, _, rfl, fun b hb hn => ?_⟩
      show (keepB σ1.boxes _)[b]? = _
      rw [keepB_get hb]; exact hold b hb hn
  · exact ⟨hlen, htl, _, rfl, hold⟩
theorem fin_out {r : LOut} {w : World} {G : Gh} {u : Value} (h : VR w G r.val u) : VR w G r.fin.val u := by
  cases r with
  | ret v => exact VR.canonR h
  | pan v => exact VR.canonP h
def sameKind : LOut → LOut → Prop
  | .ret _, .ret _ => True
  | .pan _, .pan _ => True
  | _, _ => False
def RC (w : World) (G : Gh) (σ : LH) (cr : CR) (r : LOut) (u : Value) (w' : World) : Prop :=
  sameKind r cr.out ∧ ∃ G', WR G' (cr.st σ) w' ∧ Ext w G w' G' ∧ VR w' G' cr.out.val u
theorem RC.ret {w w' : World} {G : Gh} {σ : LH} {cr : CR} {v : LV} {u : Value} (h : RC w G σ cr (.ret v) u w') : Rcall w G σ cr (.returned u) w' := by
  obtain ⟨h1, G', h2, h3, h4⟩ := h
  cases ho : cr.out with
  | ret v' => exact ⟨v', ho, G', h2, h3, by rw [ho] at h4; exact h4⟩
  | pan v' => rw [ho] at h1; exact h1.elim
theorem RC.pan {w w' : World} {G : Gh} {σ : LH} {cr : CR} {v : LV} {u : Value} (h : RC w G σ cr (.pan v) u w') : Rcall w G σ cr (.panicked [{ v := u, recovered := false }]) w' := by
  obtain ⟨h1, G', h2, h3, h4⟩ := h
  cases ho : cr.out with
  | ret v' => rw [ho] at h1; exact h1.elim
  | pan v' => exact ⟨v', u, ho, rfl, G', h2, h3, by rw [ho] at h4; exact h4⟩
theorem bare_tok {T : Nat} {r : LOut} (h : r.bare.tokOK T = true) (hn : ∀ xs k nz, r = .ret (.slice xs (.tok k) nz) → k < T) : r.val.tokOK T = true := by
  cases r with
  | pan v => exact h
  | ret v =>
    cases v with
    | slice xs own nz =>
      simp only [LOut.bare, LV.tokOK, Own.ok, Bool.true_and] at h
      simp only [LOut.val, LV.tokOK, h, Bool.and_true]
      cases own with
      | tok k => simpa [Own.ok] using hn xs k nz rfl
      | _ => rfl
    | _ => exact h
theorem finish_sound {w0 w1 : World} {G G1 : Gh} {σ0 σ1 : LH} {r : LOut} {u : Value} (hw0 : WR G σ0 w0) (e : Ext w0 G w1 G1) (hw1 : WR G1 σ1 w1) (hm : Mod { σ0 with ws := [] } σ1) (hv : VR w1 G1 r.val u) :
    RC w0 G σ0 (finish σ0 r σ1) r u w1 := by
  have hv' := fin_out hv
  have hkind : sameKind r r.fin := by cases r <;> trivial
  have hlen : σ0.boxes.length ≤ σ1.boxes.length := hm.len
  unfold finish
  simp only
  generalize r.fin = r' at hv' hkind
  split
  · rename_i href
    split
    · rename_i hc
      obtain ⟨hold, htk, hbare⟩ := hc
      obtain ⟨G', g1, g2, g3, g4, g5, g6, g7, g8⟩ := cut_all hw0 e hw1 hm hold htk
      have still : r'.val.tokOK σ0.toks.length = true → RC w0 G σ0 (.still r') r u w1 := fun ht => ⟨hkind, G', g1, g2, hv'.cut g3 g4 (fun _ _ h => h) href ht⟩
      split
      · rename_i xs k nz
        have hbare' : VR w1 G' (.slice xs .none nz) u := hv'.disown.cut g3 g4 (fun _ _ h => h) (by simpa [LV.refOK, LOut.val] using href) hbare
        have kind2 : ∀ nv, sameKind r (.ret nv) := fun nv => by cases r with | ret v => trivial | pan v => exact hkind.elim
        split
        · rename_i hk
          exact still (bare_tok hbare fun xs' k' nz' h => by injection h with h; injection h with h1 h2; injection h2 with h2; subst h2; exact hk)
        · rename_i hk
          split
          · rename_i halive
            obtain ⟨B, x, t1, t2, t3, c, t, t4⟩ := hw1.tok k halive
            obtain ⟨a1, a2⟩ := g1.addTok (hfx := Nat.le_trans g8 (hw1.fixt k _ _ halive t1)) (B := B) (e := x) (c := c) (t := t) (by rw [g5]; exact t2) (fun b hb => t3 b (e.mu b B (by rw [g6] at hb; exact hb))) t4
              (fun k' p hk' hp hpB => by
                obtain ⟨h1, h2⟩ := g7 k' p hp
                obtain ⟨p1, p2⟩ := p
                simp only at hpB; subst hpB
                have halive' : σ1.toks[k']? = some true := by
                  rw [← htk, List.getElem?_take, if_pos h1] at hk'
                  exact hk'
                have := hw1.tokinj _ _ _ _ _ halive' halive h2 t1
                omega)
            exact ⟨kind2 _, _, a1, g2.trans a2, VR.reown hv' hbare' (fun B => by show G1.lim B ≤ G'.lim B; rw [g5]; exact Nat.le_refl _) a2.toExt0 (by simp only [Gh.addTok, if_true]; exact t1.symm)⟩
          · exact ⟨kind2 _, G', g1, g2, hbare'⟩
      · rename_i hns
        exact still (bare_tok hbare fun xs k nz h => absurd h (hns xs k nz))
    · obtain ⟨G', g1, g2, g3, g4⟩ := cut_boxes hw0 e hw1 hlen (σ1.ws.filter (· < σ0.boxes.length) ++ σ0.ws)
      exact ⟨hkind, G', g1, g2, hv'.cut (T := σ1.toks.length) g3 (fun k p _ h => by rw [g4]; exact h) (fun _ _ h => h) href (hv'.tokOK hw1.tokdom)⟩
  · exact ⟨hkind, G1, WR.of_ws (σ := σ1) (σ' := { boxes := σ1.boxes, toks := σ1.toks, ws := σ1.ws.filter (· < σ0.boxes.length) ++ σ0.ws }) rfl rfl hw1, e, hv'⟩
end Go.Lg
end
section
set_option linter.unusedSimpArgs false
set_option linter.unusedSectionVars false
namespace Go.Lg
variable [Rel]
variable {L : Look}
theorem puts_get : ∀ (xs : List LV) (tm : Tm) (k j : Nat) (y : LV), k + xs.length ≤ tm.n → (tm.puts k xs).get j = some y → (∃ i, j = k + i ∧ xs[i]? = some y) ∨ ((j < k ∨ k + xs.length ≤ j) ∧ tm.get j = some y)
  | [], tm, k, j, y, hn, h => .inr ⟨by simp; omega, h⟩
  | x :: xs, tm, k, j, y, hn, h => by
    simp only [Tm.puts] at h
    simp only [List.length_cons] at hn
    rcases puts_get xs (tm.put k x) (k + 1) j y (by rw [put_n]; omega) h with ⟨i, h1, h2⟩ | ⟨h1, h2⟩
    · exact .inl ⟨i + 1, by omega, by simpa using h2⟩
    · rw [put_get] at h2
      split at h2
      · rename_i hc
        cases hg : tm.get j with
        | none => simp [hg] at h2
        | some z => simp [hg] at h2; exact .inl ⟨0, hc.1, by simp [h2]⟩
      · rename_i hc
        refine .inr ⟨?_, h2⟩
        have : j ≠ k := fun e => hc ⟨e, by omega⟩
        simp only [List.length_cons]; omega
theorem puts_n : ∀ (xs : List LV) (tm : Tm) (k : Nat), (tm.puts k xs).n = tm.n
  | [], _, _ => rfl
  | x :: xs, tm, k => (puts_n xs _ _).trans (put_n _ _ _)
theorem full_get : ∀ (n k : Nat) (y : LV), (Tree.full n).get k = some y → y = .tuple []
  | 0, k, y, h => by cases h
  | n + 1, k, y, h => by
    have : (Tree.full (n + 1)) = Tree.node (Tree.full n) (.tuple []) (Tree.full n) := rfl
    rw [this, tree_get_node] at h
    split at h
    · injection h with h; exact h.symm
    · split at h
      · exact full_get n _ y h
      · exact full_get n _ y h
theorem enter_TR {w : World} {G : Gh} {fn : FnL} {args : List LV} {as : Array Value} (h : VRs w G args as.toList) : TR w G (enterTmps fn args) (as ++ Array.replicate (fn.ntmps - as.size) undef) := by
  have hl : args.length = as.size := by simpa using h.1
  refine ⟨?_, fun k x hx => ?_⟩
  · unfold enterTmps
    rw [puts_n]
    simp [hl]
  · unfold enterTmps at hx
    rcases puts_get _ _ _ _ _ (by show 0 + args.length ≤ args.length + _; omega) hx with ⟨i, h1, h2⟩ | ⟨h1, h2⟩
    · rw [Nat.zero_add] at h1; subst h1
      obtain ⟨u, hu, hv⟩ := h.get h2
      have hlt : k < as.size := by have := (List.getElem?_eq_some_iff.1 h2).1; omega
      have hu' : as[k]? = some u := by simpa using hu
      rw [Array.getD_eq_getD_getElem?, Array.getElem?_append_left hlt, hu']
      exact hv
    · have h2' : (Tree.full 9).get k = some x := h2
      have := full_get _ _ _ h2'
      subst this
      have hge : as.size ≤ k := by omega
      rw [Array.getD_eq_getD_getElem?, Array.getElem?_append_right hge, Array.getElem?_replicate]
      split <;> exact .tuple [] #[] rfl (by simp)
theorem VRs.canonA {w : World} {G : Gh} {xs : List LV} {vs : List Value} (h : VRs w G xs vs) : VRs w G (xs.map LV.canonA) vs := by
  refine ⟨by simpa using h.1, fun j x v hx hv => ?_⟩
  rw [List.getElem?_map] at hx
  cases hc : xs[j]? with
  | none => simp [hc] at hx
  | some y => simp [hc] at hx; subst hx; exact (h.2 j y v hc hv).canonA
def resFn (ts : Array Value) : ResultVar → Sem Value
  | .tmp t => pure (ts.getD t undef)
  | .cell a t => do loadVar t (← asAddr (ts.getD a undef))
theorem results_eq (fn : Func) (ts : Array Value) : results fn ts = (do let vs ← fn.results.mapM (resFn ts); pure (if h : vs.size = 1 then vs[0] else .tuple vs)) := rfl
theorem results_list {w : World} {G : Gh} (hL : LookOK L) {σ : LH} (hw : WR G σ w) {tm : Tm} {ts : Array Value} (ht : TR w G tm ts) : ∀ (rs : List ResultVar) {vs : List LV}, resultsL L tm σ rs = some vs →
    ∃ us, (rs.mapM (resFn ts)).run L.P w = .ok us w ∧ VRs w G vs us
  | [], vs, h => by simp only [resultsL] at h; injection h with h; subst h; exact ⟨[], by simp, rfl, by simp⟩
  | r :: rs, vs, h => by
    simp only [resultsL] at h
    split at h
    · rename_i v vs' h1 h2
      injection h with h; subst h
      obtain ⟨us, h3, h4⟩ := results_list hL hw ht rs h2
      have : ∃ u, (resFn ts r).run L.P w = .ok u w ∧ VR w G v u := by
        cases r with
        | tmp t => exact ⟨_, rfl, ht.get t v h1⟩
        | cell a t =>
          simp only [resultL] at h1
          split at h1
          · rename_i p hp
            obtain ⟨u, h5, h6⟩ := loadL_sound hL hw (ht.get a p hp) h1
            refine ⟨u, ?_, h6⟩
            have hpu := ht.get a p hp
            have : ∃ A, ts.getD a undef = .pointer (some A) := by
              generalize ts.getD a undef = pu at hpu
              unfold loadL at h1
              split at h1
              · cases hpu; exact ⟨_, rfl⟩
              · cases hpu; exact ⟨_, rfl⟩
              · cases h1
            obtain ⟨A, hA⟩ := this
            rw [hA] at h5
            simp only [Instr.loadAt, Instr.sureAddr, Sem.run_bind, Sem.run_pure, Result.andThen_ok] at h5
            simp only [resFn, hA, asAddr, Sem.run_bind, Sem.run_pure, Result.andThen_ok]
            exact h5
          · cases h1
      obtain ⟨u, h5, h6⟩ := this
      refine ⟨u :: us, ?_, by simp [h4.1], fun j x y hx hy => ?_⟩
      · simp only [List.mapM_cons, Sem.run_bind, h5, Result.andThen_ok, h3, Sem.run_pure]
      · cases j with
        | zero => simp at hx hy; subst hx; subst hy; exact h6
        | succ j => exact h4.2 j x y (by simpa using hx) (by simpa using hy)
    · cases h
theorem results_sound {w : World} {G : Gh} (hL : LookOK L) {σ : LH} (hw : WR G σ w) {tm : Tm} {ts : Array Value} (ht : TR w G tm ts) {fn : Func} {vs : List LV} (h : resultsL L tm σ fn.results.toList = some vs) :
    ∃ u, (results fn ts).run L.P w = .ok u w ∧ VR w G (tupleL vs) u := by
  obtain ⟨us, h1, h2⟩ := results_list hL hw ht _ h
  have h3 : (fn.results.mapM (resFn ts)).run L.P w = .ok us.toArray w := by
    rw [Array.mapM_eq_mapM_toList]
    simp only [map_eq_pure_bind, Sem.run_bind, h1, Result.andThen_ok, Sem.run_pure]
  refine ⟨if h : us.toArray.size = 1 then us.toArray[0] else .tuple us.toArray, ?_, ?_⟩
  · rw [results_eq, Sem.run_bind, h3]
    simp only [Result.andThen_ok, Sem.run_pure]
  · match vs, us, h2 with
    | [v], [u], h2 => exact h2.2 0 v u rfl rfl
    | [], [], h2 => exact .tuple [] #[] rfl (by simp)
    | v :: v' :: vs, u :: u' :: us, h2 =>
      rw [dif_neg (by simp)]
      exact .tuple _ _ (by simpa using h2.1) (fun j x y hx hy => h2.2 j x y hx (by simpa using hy))
    | [], u :: us, h2 => have := h2.1; simp at this
    | [v], [], h2 => have := h2.1; simp at this
    | [v], u :: u' :: us, h2 => have := h2.1; simp at this
    | v :: v' :: vs, [], h2 => have := h2.1; simp at this
    | v :: v' :: vs, [u], h2 => have := h2.1; simp at this
inductive ModeR (w : World) (G : Gh) : LMode → FrameMode → Prop
  | ret : ModeR w G .returning .returning
  | pan (v : LV) (u : Value) (r : Bool) (h : VR w G v u) : ModeR w G (.panicking v r) (.panicking [{ v := u, recovered := r }])
theorem ModeR.ext {w w' : World} {G G' : Gh} (e : Ext w G w' G') {m : LMode} {u : FrameMode} (h : ModeR w G m u) : ModeR w' G' m u := by
  cases h with
  | ret => exact .ret
  | pan v u r h => exact .pan v u r (h.ext e)
theorem ModeR.settle {w : World} {G : Gh} {m : LMode} {u : FrameMode} (h : ModeR w G m u) : ModeR w G (settleL m) (settle u) := by
  cases h with
  | ret => exact .ret
  | pan v u r h => cases r <;> first | exact .pan _ _ _ h | exact .ret
theorem ModeR.run {w : World} {G : Gh} {m : LMode} {u : FrameMode} (h : ModeR w G m u) : u ≠ .run := by cases h <;> simp
theorem recovers_spec {c : Code} {d : Tmp} {rest : Code} (h : recovers c = some (d, rest)) : ∃ id o, c = .seq (.region id #[o] false) rest ∧ o.dst = some d ∧ o.guard = none ∧ ∃ ats, o.op = .call { callee := .builtin .recover, args := #[], argTypes := ats } := by
  unfold recovers at h
  split at h
  · rename_i id ops rest'
    split at h
    · rename_i d' args ats ty pos af hops
      split at h
      · rename_i hs
        injection h with h; injection h with h1 h2; subst h1; subst h2
        have he : ops = #[⟨some d', .call { callee := .builtin .recover, args := args, argTypes := ats }, ty, pos, af, none⟩] := by
          rw [← hops]
        have ha : args = #[] := Array.eq_empty_of_size_eq_zero hs
        subst ha
        exact ⟨id, _, by rw [he], rfl, rfl, ats, rfl⟩
      · cases h
    · cases h
  · cases h
end Go.Lg
end
section
set_option linter.unusedSimpArgs false
set_option linter.unusedSectionVars false
namespace Go.Lg
variable [Rel]
variable {L : Look}
def recIn : LMode → LV × LMode
  | .panicking v false => (v, .panicking v true)
  | m => (.nilIface, m)
theorem Nt.putObj {w : World} {B : Nat} {o o' : Obj} (h : w.heap[B]? = some o) (h1 : ∀ c t fr, o ≠ .cells c t fr) (h2 : ∀ c t fr, o' ≠ .cells c t fr) : Nt w (w.putObj B o') := by
  refine ⟨rfl, rfl, fun a => ?_⟩
  by_cases e : a.block = B
  · subst e
    simp only [World.frozen?, h, World.putObj_heap_same (heap_lt h)]
    cases o with
    | cells c t fr => exact absurd rfl (h1 c t fr)
    | _ => cases o' with
      | cells c t fr => exact absurd rfl (h2 c t fr)
      | _ => rfl
  · simp only [World.frozen?, World.putObj_heap_other e]
theorem rest_sound (hL : LookOK L) {ec : Bool → Code → LAct → LH → Option (LExit × LAct × LH)} (hC : SoundC L ec) {fn' : FnL} {fn : Func} {rest : Code} {a1 a2 : LAct} {σ σ2 : LH} {x : LExit}
    (hres : fn.results.toList = fn'.results) (hc : ec false rest a1 σ = some (x, a2, σ2)) (hx : x = .normal ∨ x = .ret) (hd : a2.defers.isEmpty = true ∧ fn'.results.isEmpty = true)
    {w : World} {G : Gh} {act : Act} (ha : AR w G a1 act) (hw : WR G σ w) {c₀ c1 : Frame} {cs : List Frame} {u1 : FrameMode} (hc1 : c1 = { c₀ with mode := u1 }) {R : Ending → FrameMode → World → Prop}
    (hR : ∀ v w' G', Ext w G w' G' → WR G' { boxes := keepB σ2.boxes σ.boxes.length, toks := σ2.toks, ws := σ2.ws } w' → R (.returned v) u1 w') :
    rest.wpSIn Fence.wide 0 L.P (bodyPostS L.P fn c₀ cs R) act (c1 :: cs) w := by
  subst hc1
  obtain ⟨hm, r, p⟩ := hC _ _ _ _ _ _ _ hc
  refine wpSIn_of_wpIn rfl (CWp.wp (p Fence.wide (.inl rfl) (fun _ => rfl) w G act ha hw _ ?_))
  have fin : ∀ act' w' G', Ext w G w' G' → AR w' G' a2 act' → WR G' σ2 w' → act'.defers = [] ∧ ∃ u', ({ c₀ with mode := u1 } :: cs : List Frame) = { c₀ with mode := u' } :: cs ∧ ∃ v, (results fn act'.tmps).run L.P w' = .ok v w' ∧ R (.returned v) u' w' := fun act' w' G' e h1 h2 => by
    have hd1 : a2.defers = [] := by simpa using hd.1
    have hd2 : act'.defers = [] := by
      have := h1.defers
      rw [hd1] at this
      cases hdd : act'.defers with
      | nil => rfl
      | cons D Ds => rw [hdd] at this; exact this.elim
    have hrs : resultsL L a2.tmps σ2 fn.results.toList = some [] := by
      have : fn'.results = [] := by simpa using hd.2
      rw [hres, this]; rfl
    obtain ⟨v, h3, _⟩ := results_sound hL h2 h1.tmps hrs
    obtain ⟨G'', g1, g2, _, _⟩ := cut_boxes hw e h2 hm.len σ2.ws
    exact ⟨hd2, u1, rfl, v, h3, hR v w' G'' g2 g1⟩
  rcases hx with rfl | rfl
  · exact fin
  · exact fin
theorem stepD_eq (e : Ev) (g : FuncId) (args : List LV) (m : LMode) (σ : LH) : stepD L e g args m σ = (match L.fnOf g with
  | none => none
  | some fn' => match recovers fn'.body with
      | none => none
      | some (d, rest) => match e.c false rest { tmps := (enterTmps fn' (args.map LV.canonA)).put d (recIn m).1, defers := [] } σ with
        | some (.normal, a2, σ2) => if a2.defers.isEmpty = true ∧ fn'.results.isEmpty = true then some ((recIn m).2, { boxes := keepB σ2.boxes σ.boxes.length, toks := σ2.toks, ws := σ2.ws }) else none
        | some (.ret, a2, σ2) => if a2.defers.isEmpty = true ∧ fn'.results.isEmpty = true then some ((recIn m).2, { boxes := keepB σ2.boxes σ.boxes.length, toks := σ2.toks, ws := σ2.ws }) else none
        | _ => none) := by
  unfold stepD
  cases L.fnOf g with
  | none => rfl
  | some fn' =>
    simp only
    cases recovers fn'.body with
    | none => rfl
    | some dr =>
      obtain ⟨d, rest⟩ := dr
      cases m with
      | returning => rfl
      | panicking v r => cases r <;> rfl
theorem stepD_sound (hL : LookOK L) {e : Ev} (hC : SoundC L e.c) {g : FuncId} {args : List LV} {m m' : LMode} {σ σ' : LH} (h : stepD L e g args m σ = some (m', σ')) :
    Mod σ σ' ∧ ∀ w G (as : Array Value) u, WR G σ w → VRs w G args as.toList → ModeR w G m u →
      ∀ R : Ending → FrameMode → World → Prop, (∀ v w' G' u', Ext w G w' G' → WR G' σ' w' → ModeR w' G' m' u' → R (.returned v) u' w') → CallsDIn Fence.wide 0 L.P g as u w R := by
  rw [stepD_eq] at h
  split at h
  · cases h
  · rename_i fn' hfn
    split at h
    · cases h
    · rename_i d rest hrec
      obtain ⟨id, o, hbody, hod, hog, ats, hop⟩ := recovers_spec hrec
      obtain ⟨fn, hf, hb, hnt, hres⟩ := (hL.fn g fn' hfn).ex
      have key : ∀ {x a2 σ2}, e.c false rest { tmps := (enterTmps fn' (args.map LV.canonA)).put d (recIn m).1, defers := [] } σ = some (x, a2, σ2) → (x = .normal ∨ x = .ret) →
          (if a2.defers.isEmpty = true ∧ fn'.results.isEmpty = true then some ((recIn m).2, ({ boxes := keepB σ2.boxes σ.boxes.length, toks := σ2.toks, ws := σ2.ws } : LH)) else none) = some (m', σ') →
          Mod σ σ' ∧ ∀ w G (as : Array Value) u, WR G σ w → VRs w G args as.toList → ModeR w G m u →
      ∀ R : Ending → FrameMode → World → Prop, (∀ v w' G' u', Ext w G w' G' → WR G' σ' w' → ModeR w' G' m' u' → R (.returned v) u' w') → CallsDIn Fence.wide 0 L.P g as u w R := fun {x a2 σ2} hc hx h => by
        split at h
        · rename_i hd
          injection h with h; injection h with h1 h2; subst h1; subst h2
          obtain ⟨hm, _⟩ := hC _ _ _ _ _ _ _ hc
          obtain ⟨l, hl1, hl2⟩ := hm.ws
          refine ⟨⟨keepB_len hm.len, hm.tlen, l, hl1, fun b hlt hn => by show (keepB σ2.boxes _)[b]? = _; rw [keepB_get hlt]; exact hl2 b hlt hn⟩, fun w G as u hw has hmu R hR => ?_⟩
          refine callsDIn_of_wpSIn hf hb trivial fun c₀ cs hu => ?_
          rw [hbody]
          apply wpSIn_seq
          apply wpSIn_region
          have hrun : ∀ act : Act, (execOp act.eval o).run L.P w = .ok .recover w := fun act => by
            obtain ⟨dst, op, type, pos, after, guard⟩ := o
            simp only at hop; subst hop
            simp [execOp, resolve, invoke, builtin]
          have hwn : ∀ ts : Array Value, Region.wanted o (yielded #[o] ts) = true := fun ts => by unfold Region.wanted; rw [hog]
          show wpOpsSIn Fence.wide 0 L.P #[o] _ [0] _ _ w
          simp only [wpOpsSIn, List.getElem?_toArray, List.getElem?_cons_zero, hwn, if_true, hrun]
          refine ⟨fun f _ => trivial, ?_⟩
          have har : ∀ {v : LV} {uv : Value}, VR w G v uv → AR w G { tmps := (enterTmps fn' (args.map LV.canonA)).put d v, defers := [] } (({ tmps := as ++ Array.replicate (fn.ntmps - as.size) undef, defers := [] } : Act).put o.dst uv) := fun hv => by
            rw [hod, hnt]
            exact ⟨(enter_TR has.canonA).put hv, trivial⟩
          have e1 : Ext w G w G := Ext.refl _ _
          cases hmu with
          | ret =>
            have hrd : recoverD (c₀ :: cs) = none := by simp [recoverD, hu]
            simp only [hrd]
            exact rest_sound hL hC hres hc hx hd (har (.nilIface)) hw (show c₀ = { c₀ with mode := .returning } by rw [← hu]) fun v w' G' e h1 => hR v w' G' _ e h1 .ret
          | pan v uv r hv =>
            cases r with
            | true =>
              have hrd : recoverD (c₀ :: cs) = none := by simp [recoverD, hu]
              simp only [hrd]
              exact rest_sound hL hC hres hc hx hd (har (.nilIface)) hw (show c₀ = { c₀ with mode := .panicking [{ v := uv, recovered := true }] } by rw [← hu]) fun v' w' G' e h1 => hR v' w' G' _ e h1 (.pan v uv true (hv.ext e))
            | false =>
              have hrd : recoverD (c₀ :: cs) = some (uv, { c₀ with mode := .panicking [{ v := uv, recovered := true }] } :: cs) := by simp [recoverD, hu]
              simp only [hrd]
              exact rest_sound hL hC hres hc hx hd (har hv) hw rfl fun v' w' G' e h1 => hR v' w' G' _ e h1 (.pan v uv true (hv.ext e))
        · cases h
      split at h
      · rename_i a2 σ2 hc; exact key hc (.inl rfl) h
      · rename_i a2 σ2 hc; exact key hc (.inr rfl) h
      · cases h
theorem leave_sound (hL : LookOK L) {e : Ev} (hC : SoundC L e.c) : ∀ (ds : List LDef) {m m' : LMode} {σ σ' : LH}, leaveL (stepD L e) ds m σ = some (m', σ') →
    Mod σ σ' ∧ ∀ w G (Ds : List Deferred) u, WR G σ w → DefsR w G ds Ds → ModeR w G m u → ∀ (fn : Func) (tmps : Array Value) (R : Ending → World → Prop),
      (∀ w' G' u', Ext w G w' G' → WR G' σ' w' → ModeR w' G' m' u' → LeavesIn Fence.wide 0 L.P fn tmps R [] u' w') → LeavesInM Fence.wide 0 L.P fn tmps R Ds u w
  | [], m, m', σ, σ', h => by
    simp only [leaveL] at h
    injection h with h; injection h with h1 h2; subst h1; subst h2
    refine ⟨Mod.refl _, fun w G Ds u hw hd hmu fn tmps R hR => ?_⟩
    cases Ds with
    | nil => exact hR w G u (Ext.refl _ _) hw hmu
    | cons D Ds => exact hd.elim
  | .mark d :: ds, m, m', σ, σ', h => by
    simp only [leaveL] at h
    split at h
    · rename_i hbox
      obtain ⟨hm, hrest⟩ := leave_sound hL hC ds h
      refine ⟨(Mod.set σ d .gone).trans hm, fun w G Ds u hw hd hmu fn tmps R hR => ?_⟩
      cases Ds with
      | nil => exact hd.elim
      | cons D Ds =>
        obtain ⟨⟨B, hB, hD⟩, hds⟩ := hd
        subst hD
        obtain ⟨o, ho, hr⟩ := hw.box d B hB
        rw [hbox] at ho; injection ho with ho; subst ho
        have hrow : w.heap[B]? = some (.deferred (some [])) := hr
        obtain ⟨hw1, e1⟩ := hw.upd (w' := w.putObj B (.deferred none)) (o' := .gone) hB (by simp) (fun B' h => World.putObj_heap_other h) (fun s hs => by simp [World.shape?, hrow] at hs) trivial (Nt.putObj hrow (by simp) (by simp)) (fun _ => trivial) (d :: σ.ws)
        refine ⟨hmu.run, .inl ⟨B, _, rfl, run_takeDeferred hrow, ?_⟩⟩
        exact hrest _ G Ds u hw1 (hds.ext e1) (hmu.ext e1) fn tmps R fun w' G' u' e' => hR w' G' u' (e1.trans e')
    · cases h
  | .fn g args :: ds, m, m', σ, σ', h => by
    simp only [leaveL] at h
    split at h
    · rename_i m1 σ1 hst
      obtain ⟨hm1, h1⟩ := stepD_sound hL hC hst
      obtain ⟨hm, hrest⟩ := leave_sound hL hC ds h
      refine ⟨hm1.trans hm, fun w G Ds u hw hd hmu fn tmps R hR => ?_⟩
      cases Ds with
      | nil => exact hd.elim
      | cons D Ds =>
        obtain ⟨⟨as, cap, hD, has⟩, hds⟩ := hd
        subst hD
        have hfn : ∃ fn', L.fnOf g = some fn' := by
          unfold stepD at hst
          cases hg : L.fnOf g with
          | none => simp [hg] at hst
          | some fn' => exact ⟨fn', rfl⟩
        obtain ⟨fn', hfn'⟩ := hfn
        refine ⟨hmu.run, .inr ⟨(fun h => by cases h), .func g, cap, g, as ++ cap, rfl, (hL.fn g fn' hfn').call _ w, fun _ _ => trivial, ?_⟩⟩
        refine h1 w G (as ++ cap) u hw has hmu _ fun v w' G' u' e' hw' hmu' => ?_
        exact hrest w' G' Ds (settle u') hw' (hds.ext e') hmu'.settle fn tmps R fun w2 G2 u2 e2 => hR w2 G2 u2 (e'.trans e2)
    · cases h
end Go.Lg
end
section
set_option linter.unusedSimpArgs false
set_option linter.unusedSectionVars false
namespace Go.Lg
variable [Rel]
variable {L : Look}
def PrimOK (L : Look) (pr : Prim) : Prop := ∀ g args σ cr, pr g args σ = some cr →
  Mod σ (cr.st σ) ∧ ∀ w G (avs : Array Value), WR G σ w → VRs w G args avs.toList → CallsIn Fence.wide 0 L.P g avs w (Rcall w G σ cr) ∧ (callFunc g avs).run L.P w = .ok (.enter g avs) w
theorem Mod.of_ws {σ σ' : LH} (ws : List Nat) (h : Mod { σ with ws := [] } σ') : Mod { σ with ws := [] } σ' := h
theorem call_run {w : World} {g : FuncId} {fs' cs' avs : Array Value} {P : Program} {nx : Next} {w1 : World} (h : (callFunc g (fs' ++ avs ++ cs')).run P w = .ok nx w1) : (callSem (.func (.func g) fs' cs') avs).run P w = .ok nx w1 := by
  simp only [callSem, Deferred.ofValue, Sem.run_bind, Sem.run_pure, Result.andThen_ok, invoke]
  exact h
def endOf : LOut → Value → Ending
  | .ret _, u => .returned u
  | .pan _, u => .panicked [{ v := u, recovered := false }]
theorem leave_mode {evD : FuncId → List LV → LMode → LH → Option (LMode × LH)} : ∀ (ds : List LDef) {m m' : LMode} {σ σ' : LH}, leaveL evD ds m σ = some (m', σ') → (∀ v, m ≠ .panicking v true) → ∀ v, m' ≠ .panicking v true
  | [], m, m', σ, σ', h, hm => by
    simp only [leaveL] at h
    injection h with h; injection h with h1 h2; subst h1; exact hm
  | .mark d :: ds, m, m', σ, σ', h, hm => by
    simp only [leaveL] at h
    split at h
    · exact leave_mode ds h hm
    · cases h
  | .fn g args :: ds, m, m', σ, σ', h, hm => by
    simp only [leaveL] at h
    split at h
    · rename_i m1 σ1 hst
      refine leave_mode ds h fun v hv => ?_
      cases m1 with
      | returning => cases hv
      | panicking v r => cases r <;> cases hv
    · cases h
theorem body_sound (hL : LookOK L) {e : Ev} (hC : SoundC L e.c) {g : FuncId} {fn : FnL} (hfn : L.fnOf g = some fn) {args : List LV} {σ σ2 : LH} {out : LOut} (h : runBody L e fn args σ = some (out, σ2)) :
    Mod σ σ2 ∧ ∀ w G (avs : Array Value) (R : Ending → World → Prop), WR G σ w → VRs w G args avs.toList → (∀ w' G' u, Ext w G w' G' → WR G' σ2 w' → VR w' G' out.val u → R (endOf out u) w') → CallsIn Fence.wide 0 L.P g avs w R := by
  obtain ⟨⟨fnM, hf, hb, hnt, hres⟩, hcall⟩ := hL.fn g fn hfn
  unfold runBody at h
  split at h
  · cases h
  · rename_i x a1 σ1 hbody
    obtain ⟨hm1, r1, p1⟩ := hC _ _ _ _ _ _ _ hbody
    split at h
    · cases h
    · rename_i m hm'
      have hmn : ∀ v, m ≠ .panicking v true := fun v hv => by subst hv; cases x <;> simp [modeOf] at hm'
      have fin : ∀ {m' : LMode} {σ2' : LH}, leaveL (stepD L e) a1.defers m σ1 = some (m', σ2') → σ2' = σ2 → (match (generalizing := false) m' with
          | .panicking v _ => out = .pan v
          | .returning => ∃ vs, resultsL L a1.tmps σ2 fn.results = some vs ∧ out = .ret (tupleL vs)) →
          Mod σ σ2 ∧ ∀ w G (avs : Array Value) (R : Ending → World → Prop), WR G σ w → VRs w G args avs.toList → (∀ w' G' u, Ext w G w' G' → WR G' σ2 w' → VR w' G' out.val u → R (endOf out u) w') → CallsIn Fence.wide 0 L.P g avs w R := fun {m' σ2'} hleave he hcr => by
        subst he
        obtain ⟨hm2, p2⟩ := leave_sound hL hC _ hleave
        refine ⟨hm1.trans hm2, fun w G avs R hw hvs hR => ?_⟩
        have fin : ∀ {act' : Act} {w1 : World} {G1 : Gh} {u : FrameMode}, Ext w G w1 G1 → AR w1 G1 a1 act' → WR G1 σ1 w1 → ModeR w1 G1 m u → LeavesInM Fence.wide 0 L.P fnM act'.tmps R act'.defers u w1 := fun {act' w1 G1 u} e1 ha1 hw1 hu => by
          refine p2 w1 G1 act'.defers u hw1 ha1.defers hu fnM act'.tmps _ fun w2 G2 u2 e2 hw2 hu2 => ?_
          have e12 := e1.trans e2
          cases hu2 with
          | ret =>
            obtain ⟨vs, hvs, hcr⟩ := hcr
            obtain ⟨v, h1, h2⟩ := results_sound (fn := fnM) hL hw2 (ha1.tmps.ext e2) (by rw [hres]; exact hvs)
            have := hR w2 G2 v e12 hw2 (by rw [hcr]; exact h2)
            rw [hcr] at this
            exact ⟨v, h1, this⟩
          | pan v u r hv =>
            simp only at hcr
            have hr : r = false := by
              cases r with
              | false => rfl
              | true => exact absurd rfl (leave_mode _ hleave hmn v)
            subst hr
            have := hR w2 G2 u e12 hw2 (by rw [hcr]; exact hv)
            rw [hcr] at this
            exact this
        have hact : AR w G { tmps := enterTmps fn args, defers := [] } { tmps := avs ++ Array.replicate (fnM.ntmps - avs.size) undef, defers := [] } := by
          rw [hnt]; exact ⟨enter_TR hvs, trivial⟩
        refine callsIn_of_wp_marks hf hb trivial (CWp.wp (p1 Fence.wide (.inl rfl) (fun _ => rfl) w G _ hact hw _ ?_))
        cases x with
        | normal => injection hm' with hm; subst hm; exact fun act' w1 G1 e1 ha1 hw1 => fin e1 ha1 hw1 .ret
        | ret => injection hm' with hm; subst hm; exact fun act' w1 G1 e1 ha1 hw1 => fin e1 ha1 hw1 .ret
        | exit id => cases hm'
        | panic v => injection hm' with hm; subst hm; exact fun act' w1 G1 e1 ha1 hw1 u hu => fin e1 ha1 hw1 (.pan v u false hu)
      split at h
      · cases h
      · rename_i v r σ2' hleave
        injection h with h; injection h with h1 h2
        exact fin hleave h2 h1.symm
      · rename_i σ2' hleave
        split at h
        · rename_i vs hvs
          injection h with h; injection h with h1 h2
          exact fin hleave h2 ⟨vs, by rw [← h2]; exact hvs, h1.symm⟩
        · cases h
theorem open_sound (hL : LookOK L) {e : Ev} (hC : SoundC L e.c) {g : FuncId} {fn : FnL} (hfn : L.fnOf g = some fn) {args : List LV} {σ : LH} {cr : CR} (h : openF L e fn (args.map LV.canonA) σ = some cr) :
    Mod σ (cr.st σ) ∧ ∀ w G (avs : Array Value), WR G σ w → VRs w G args avs.toList → CallsIn Fence.wide 0 L.P g avs w (Rcall w G σ cr) := by
  unfold openF at h
  split at h
  · rename_i out σ2 hb
    injection h with h; subst h
    obtain ⟨hm, hs⟩ := body_sound hL hC hfn hb
    refine ⟨finish_mod hm, fun w G avs hw hvs => hs w G avs _ (WR.of_ws (σ := σ) (σ' := { σ with ws := [] }) rfl rfl hw) hvs.canonA fun w' G' u e1 hw1 hu => ?_⟩
    have := finish_sound hw e1 hw1 hm hu
    cases out with
    | ret v => exact this.ret
    | pan v => exact this.pan
  · cases h
theorem VR.disown' {w : World} {G : Gh} {x : LV} {v : Value} (h : VR w G x v) : VR w G x.disown v := by
  unfold LV.disown
  split
  · exact h.disown
  · exact h
theorem VRs.argC {w : World} {G : Gh} {xs : List LV} {vs : List Value} (h : VRs w G xs vs) : VRs w G (xs.map LV.argC) vs := by
  refine ⟨by simpa using h.1, fun j x v hx hv => ?_⟩
  rw [List.getElem?_map] at hx
  cases hc : xs[j]? with
  | none => simp [hc] at hx
  | some y => simp [hc] at hx; subst hx; exact (h.2 j y v hc hv).canonA.disown'
theorem close_mod {σ σ2 : LH} {out : LOut} {cr : CR} (h : closeF σ out σ2 = some cr) : Mod σ (cr.st σ) := by
  unfold closeF at h
  simp only at h
  split at h
  · split at h
    · split at h
      · injection h with h; subst h; exact ⟨Nat.le_refl _, by show σ.toks.length ≤ (σ.toks ++ [true]).length; simp, [], rfl, fun _ _ _ => rfl⟩
      · injection h with h; subst h; exact Mod.refl _
    · injection h with h; subst h; exact Mod.refl _
  · cases h
theorem closed_sound (hL : LookOK L) {e : Ev} (hC : SoundC L e.c) {g : FuncId} {fn : FnL} (hfn : L.fnOf g = some fn) {args : List LV} {σ : LH} {cr : CR} (h : closedF L e fn (args.map LV.argC) σ = some cr) :
    Mod σ (cr.st σ) ∧ ∀ w G (avs : Array Value), WR G σ w → VRs w G args avs.toList → CallsIn Fence.wide 0 L.P g avs w (Rcall w G σ cr) := by
  unfold closedF at h
  split at h
  · rename_i hcl
    rw [Bool.and_eq_true] at hcl
    split at h
    · rename_i out σ2 hb
      obtain ⟨hm, hs⟩ := body_sound hL hC hfn hb
      refine ⟨close_mod h, fun w G avs hw hvs => ?_⟩
      let G0 : Gh := { mu := fun _ => none, lim := G.lim, tok := fun _ => none, top := 0, fix := w.heap.size }
      have hw0 : WR G0 { boxes := [], toks := [], ws := [] } w :=
        ⟨⟨fun b B hb => by (cases hb), fun b b' B hb => by (cases hb), fun b B hb => by (cases hb), fun b o ho => by simp at ho, hw.fresh, fun k hk => by simp at hk, fun k k' B x x' hk => by simp at hk, fun k p hp => by (cases hp), Nat.le_refl _, fun b B hb => by (cases hb), fun k B x hk => by simp at hk, Nat.le_refl _⟩, fun b hb => by simp at hb⟩
      have hv0 : VRs w G0 (args.map LV.argC) avs.toList := VRs.cut (w := w) (w' := w) (G := G) (G' := G0) (N := 0) (T := 0) ⟨fun b B h => absurd h (Nat.not_lt_zero _), fun B => Nat.le_refl _, fun _ _ _ => rfl⟩ (fun k p h => absurd h (Nat.not_lt_zero _)) (fun _ _ h => h) hvs.argC hcl.1 hcl.2
      refine hs w G0 avs _ hw0 hv0 fun w1 G1 u e1 hw1 hu => ?_
      have hsz : w.heap.size ≤ w1.heap.size := Nat.le_trans e1.fix hw1.fixh
      obtain ⟨k1, k2⟩ := keep_all hw hw1 hsz (fun B hB => e1.old B hB) (fun B hB => e1.oldl B hB) e1.nat
      have hu' := fin_out hu
      have hkind : sameKind out out.fin := by cases out <;> trivial
      have key : RC w G σ cr out u w1 := by
        unfold closeF at h
        simp only at h
        generalize out.fin = r' at hu' hkind h
        split at h
        · rename_i hc
          obtain ⟨href, hbare⟩ := hc
          have ev : ExtV 0 w1 G1 w1 { G with lim := G1.lim } := ⟨fun b B h => by omega, fun B => Nat.le_refl _, fun _ _ _ => rfl⟩
          have still : r'.val.tokOK 0 = true → RC w G σ (.still r') out u w1 := fun ht => ⟨hkind, _, k1, k2, hu'.cut ev (fun k p h => by omega) (fun _ _ h => h) href ht⟩
          split at h
          · rename_i xs k nz
            have hbare' : VR w1 { G with lim := G1.lim } (.slice xs .none nz) u := hu'.disown.cut ev (fun k p h => by omega) (fun _ _ h => h) (by simpa [LV.refOK, LOut.val] using href) hbare
            have kind2 : ∀ nv, sameKind out (.ret nv) := fun nv => by cases out with | ret v => trivial | pan v => exact hkind.elim
            split at h
            · rename_i halive
              injection h with h; subst h
              obtain ⟨B, x, t1, t2, t3, c, t, t4⟩ := hw1.tok k halive
              have hBf : w.heap.size ≤ B := Nat.le_trans e1.fix (hw1.fixt k B x halive t1)
              obtain ⟨a1, a2⟩ := k1.addTok (hfx := Nat.le_trans hw.fixh hBf) (B := B) (e := x) (c := c) (t := t) t2 (fun b hb => by have := (hw.low b B hb).2; omega) t4
                (fun k' p hk' hp hpB => by
                  obtain ⟨B', x', t1', _, _, c', t', t4'⟩ := hw.tok k' hk'
                  have hp' : G.tok k' = some p := hp
                  rw [t1'] at hp'; injection hp' with hp'; subst hp'
                  simp only at hpB; subst hpB
                  have := heap_lt t4'
                  omega)
              exact ⟨kind2 _, _, a1, k2.trans a2, VR.reown hu' hbare' (fun B => Nat.le_refl _) a2.toExt0 (by simp only [Gh.addTok, if_true]; exact t1.symm)⟩
            · injection h with h; subst h
              exact ⟨kind2 _, _, k1, k2, hbare'⟩
          · rename_i hns
            injection h with h; subst h
            exact still (bare_tok hbare fun xs k nz h => absurd h (hns xs k nz))
        · cases h
      cases out with
      | ret v => exact key.ret
      | pan v => exact key.pan
    · cases h
  · cases h
end Go.Lg
end
