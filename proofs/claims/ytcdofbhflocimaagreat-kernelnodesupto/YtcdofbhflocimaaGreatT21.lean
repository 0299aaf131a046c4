/- Part 21 of the proof: C29 C30 C31 C32 C33 S4 R1 R2 K1. By AI agents; no person has read it. -/
import Derived.Test.YtcdofbhflocimaaGreatT20
import Derived.Test.YtcdofbhflocimaaGreatT14
import Derived.OpenShut
import Derived.Deep.Slices
import Derived.Test.YtcdofbhflocimaaGreatRows
import Derived.Test.YtcdofbhflocimaaGreatT15
import Derived.Test.YtcdofbhflocimaaGreatT17
import Derived.WalkKit
import Derived.ProofKit
import Derived.JoinedCond
import Derived.WideKeyArgs
set_option linter.unusedVariables false
set_option linter.unusedSimpArgs false
set_option linter.unusedSectionVars false
section
set_option linter.unusedSimpArgs false
set_option maxRecDepth 20000
namespace Go.Lg
open Go.Proofs.Tryz
theorem EvW2R {L : Look} {pr : Prim} {B : Nat} {g : FuncId} {fn : FnL} {fs args cs : List LV} {v : LV} {S : LH → Prop} {J : LH → LH → Prop} (hfn : L.fnOf g = some fn) (hpr : ∀ l σ, pr g l σ = none)
    (hcl : LV.refsOK 0 ((fs ++ args ++ cs).map LV.argC) = false) (hA : (fs ++ args ++ cs).map LV.canonA = fs ++ args ++ cs) (hv : v.Good) (hs : ∀ xs k nz, v ≠ .slice xs (.tok k) nz) (hS : ∀ σ ws, S σ → S { σ with ws := ws }) (hB : ∀ σ, S σ → B < σ.len)
    (hJ : ∀ σ ws τ τ', S σ → (∀ b, b < σ.len → τ'.boxes[b]? = τ.boxes[b]?) → J { σ with ws := ws } τ → J σ τ')
    (h : ∀ σ : LH, S σ → σ.ws = [] → ∃ out σ', (∃ n, ∀ m, n ≤ m → runBody L (ev L pr m) fn (fs ++ args ++ cs) σ = some (out, σ')) ∧ out.fin = .ret v ∧ Fw B σ σ' ∧ J σ σ') :
    ∀ σ, S σ → ∃ cr, EvF L pr (.func (.func g) fs cs) args σ cr ∧ cr.out = .ret v ∧ Fb B σ (cr.st σ) ∧ J σ (cr.st σ) := by
  intro σ hσ
  obtain ⟨out, σ', ⟨n, hn⟩, g1, g2, g3⟩ := h { σ with ws := [] } (hS σ [] hσ) rfl
  have hBl : B < σ.boxes.length := hB σ hσ
  have hev : EvF L pr (.func (.func g) fs cs) args σ (finish σ out σ') := EvF.mk n fun m hm => by simp only [stepF, hpr, hfn, closedF, hcl, Bool.false_and, Bool.false_eq_true, if_false, openF, hA, hn m hm]
  refine ⟨_, hev, ?_⟩
  have hl : ({ σ with ws := [] } : LH).len = σ.boxes.length := rfl
  have hlen : σ.boxes.length ≤ σ'.boxes.length := g2.len
  have hb : (LOut.ret v).bare.tokOK σ.toks.length = true := by
    cases v with
    | slice xs own nz =>
      have := hv.tok σ.toks.length
      simp only [LV.tokOK, Bool.and_eq_true] at this
      simp only [LOut.bare, LV.tokOK, Own.ok, Bool.true_and]; exact this.2
    | _ => exact hv.tok _
  by_cases ho : σ'.ws.filter (· < σ.boxes.length) = []
  · have e1 : finish σ out σ' = .still (.ret v) := by
      unfold finish
      simp only [g1, LOut.val]
      rw [if_pos (hv.ref _), if_pos ⟨ho, g2.toks, hb⟩]
      split
      · rename_i xs k nz heq
        injection heq with heq
        exact absurd heq (hs _ _ _)
      · rfl
    rw [e1]
    have hnB : B ∉ σ'.ws := fun hm => by
      have : B ∈ σ'.ws.filter (· < σ.boxes.length) := List.mem_filter.2 ⟨hm, by simpa using hBl⟩
      rw [ho] at this; cases this
    refine ⟨rfl, Fb.refl, ?_⟩
    exact hJ σ [] σ' σ hσ (fun b hb => by
      by_cases e : b = B
      · rw [e]; exact (g2.same.resolve_left hnB).symm
      · exact (g2.box b hb e).symm) g3
  · have e1 : finish σ out σ' = .moved (.ret v) { boxes := σ'.boxes.take σ.boxes.length, toks := σ'.toks, ws := σ'.ws.filter (· < σ.boxes.length) ++ σ.ws } := by
      unfold finish
      simp only [g1, LOut.val]
      rw [if_pos (hv.ref _), if_neg fun h => ho h.1]; rfl
    rw [e1]
    have hold : ∀ w ∈ σ'.ws.filter (· < σ.boxes.length), w = B := fun w hw => by
      obtain ⟨h1, h2⟩ := List.mem_filter.1 hw
      rcases g2.ws w h1 with h3 | h3
      · exact h3
      · have h2 : w < σ.boxes.length := by simpa using h2
        omega
    have hbx : ∀ b, b < σ.boxes.length → (σ'.boxes.take σ.boxes.length)[b]? = σ'.boxes[b]? := fun b hb => List.getElem?_take_of_lt hb
    refine ⟨rfl, ⟨fun w hw => (List.mem_append.1 hw).elim (fun h => .inl (hold w h)) .inr, ?_, g2.toks, ?_, fun b hne => ?_, fun w hw => List.mem_append_right _ hw, fun w hw => ?_⟩, ?_⟩
    · left
      obtain ⟨w, hw2⟩ := List.exists_mem_of_ne_nil _ ho
      rw [hold w hw2] at hw2
      exact List.mem_append_left _ hw2
    · simp only [CR.st, LH.len, List.length_take]; omega
    · simp only [CR.st]
      by_cases hb : b < σ.boxes.length
      · rw [hbx b hb]; exact g2.box b hb hne
      · rw [List.getElem?_eq_none (by rw [List.length_take]; omega), List.getElem?_eq_none (by omega)]
    · simp only [CR.st, List.length_append, Nat.add_sub_cancel, List.take_left] at hw
      exact hold w hw
    · exact hJ σ [] σ' _ hσ (fun b hb => hbx b hb) g3
variable {pr : Prim}
theorem fn51 : look.fnOf 51 = some fl51 := by kernel_rfl
theorem guarded1_ret (e : Nat) (σ : LH) : ∃ n, ∀ m, n ≤ m → stepD look (ev look pr m) 51 [.ptr e 0] .returning σ = some (.returning, σ) := by
  have hr : recovers fl51.body = some (4, match bodyOf f51 with | .seq _ r => r | c => c) := by
    show recovers (bodyOf f51) = _
    simp only [bodyOf, f51]; rfl
  have hsl : SL (enterTmps fl51 [.ptr e 0]) 12 (argSlots 0 [.ptr e 0]) := ⟨fun k hk => enter_has (fn := fl51) hk (Nat.le_of_ble_eq_true rfl), fun k u hu => by
    obtain ⟨i, h1, h2⟩ := argSlots_get [.ptr e 0] 0 k u hu
    rw [Nat.zero_add] at h1; subst h1; exact enter_get (fn := fl51) h2 (Nat.le_of_ble_eq_true rfl) (Nat.le_of_ble_eq_true rfl)⟩
  have hw : WS look pr false 12 [] (match bodyOf f51 with | .seq _ r => r | c => c) ((4, .nilIface) :: argSlots 0 [.ptr e 0]) σ (fun x a σ' => x = .normal ∧ a.defers = [] ∧ σ' = σ) := by
    simp only [bodyOf, f51]
    refine WS_block ?_
    refine WS_reg fun K gs P hK hgs hP => ?_
    refine o_bin (r := .bool true) rfl rfl rfl (by kernel_rfl) ?_
    refine o_nil (hK _ _ ?_); (try clear hK hP hgs K gs P)
    refine WS_cond rfl (fun hb => ?_) (fun hb => by cases hb)
    refine WS_reg1 fun K gs P hK hgs hP => ?_
    refine o_as rfl rfl ?_
    refine o_nil (hK _ _ fun tm ht => ?_)
    simp only [blockQ]
    exact ⟨trivial, trivial, trivial⟩
  obtain ⟨x, a', σ', ⟨n, hn⟩, rfl, hd, rfl⟩ := hw _ (hsl.put (d := 4) (v := .nilIface) rfl)
  refine ⟨n, fun m hm => ?_⟩
  have e1 := hn m hm
  have e2 : (List.map LV.canonA [LV.ptr e 0]) = [LV.ptr e 0] := rfl
  simp only [stepD, fn51, hr, e2, e1, hd]
  have e3 : fl51.results.isEmpty = true := rfl
  rw [if_pos ⟨rfl, e3⟩, show keepB σ'.boxes σ'.boxes.length = σ'.boxes from List.take_length]
theorem fn32 : look.fnOf 32 = some fl32 := by kernel_rfl
theorem guarded_ok (hpr : NoPr pr) {B : Nat} {dv : LV} {S : LH → Prop} {J : LH → LH → Prop} (hd1 : dv.argC.refOK 0 = false) (hd2 : dv.canonA = dv) (hS : ∀ σ σ' : LH, (∀ b, b < σ.len → σ'.boxes[b]? = σ.boxes[b]?) → σ.len ≤ σ'.len → S σ → S σ') (hB : ∀ σ, S σ → B < σ.len)
    (hJ : ∀ (σ : LH) (n : Nat) σ1 τ τ', S σ → n = σ.len → n ≤ σ1.len → (∀ b, b < n → τ'.boxes[b]? = τ.boxes[b]?) → J σ1 τ → J σ τ')
    (hdo : ∀ σ, S σ → ∃ cr, EvF look pr dv [] σ cr ∧ cr.out = .ret (.tuple []) ∧ Fb B σ (cr.st σ) ∧ J σ (cr.st σ)) :
    ∀ σ, S σ → ∃ cr, EvF look pr (.func (.func 32) [] []) [dv] σ cr ∧ cr.out = .ret (.int .i64 0) ∧ Fb B σ (cr.st σ) ∧ J σ (cr.st σ) := by
  intro σ hσ
  refine (EvW2R (L := look) (pr := pr) (B := B) (g := 32) (fn := fl32) (fs := []) (args := [dv]) (cs := []) (v := .int .i64 0) (S := fun σ' => S σ' ∧ σ'.len = σ.len) (J := fun σ' τ => ∀ τ', (∀ b, b < σ.len → τ'.boxes[b]? = τ.boxes[b]?) → J σ τ') fn32 (hpr.at rfl) (by simp [LV.refsOK, hd1]) (by simp [hd2]) good_int (by simp) (fun σ1 ws h => ⟨hS σ1 _ (fun b _ => rfl) (Nat.le_refl _) h.1, h.2⟩) (fun σ1 h => hB σ1 h.1) (fun σ1 ws τ τ' hs h hj τ2 h2 => hj τ2 fun b hb => (h2 b hb).trans (h b (by rw [hs.2]; exact hb))) ?_ σ ⟨hσ, rfl⟩).imp fun cr ⟨h1, h2, h3, h4⟩ => ⟨h1, h2, h3, h4 _ fun b _ => rfl⟩
  rintro σ1 ⟨hS1, hl1⟩ hws
  have hB1 : B < σ1.len := hB σ1 hS1
  have hFw : Fw B σ1 σ1 := Fw.refl hws
  have hsl : SL (enterTmps fl32 [dv]) 6 (argSlots 0 [dv]) := ⟨fun k hk => enter_has (fn := fl32) hk (Nat.le_of_ble_eq_true rfl), fun k u hu => by
    obtain ⟨i, h1, h2⟩ := argSlots_get [dv] 0 k u hu
    rw [Nat.zero_add] at h1; subst h1; exact enter_get (fn := fl32) h2 (Nat.le_of_ble_eq_true rfl) (Nat.le_of_ble_eq_true rfl)⟩
  obtain ⟨cr, c1, c2, c3, c4⟩ := hdo (σ1.push (.cells 34 [.int .i64 0])) (hS σ1 _ (fun b hb => by simp only [LH.push]; rw [List.getElem?_append_left hb]) (by rw [push_len]; omega) hS1)
  have hbe := box_fb (box_push (σ := σ1) (t := 34) (cs := [.int .i64 0])) c3 (by omega)
  have hw : WS look pr false 6 [] (bodyOf f32) (argSlots 0 [dv]) σ1 (fun x a σ' => x = .ret ∧ a.defers = [.fn 51 [.ptr σ1.len 0]] ∧ a.tmps.get 2 = some (.ptr σ1.len 0) ∧ σ' = (cr.st (σ1.push (.cells 34 [.int .i64 0]))).upd σ1.len 34 [.int .i64 0]) := by
    simp only [bodyOf, f32]
    refine WS_reg fun K gs P hK hgs hP => ?_
    refine o_al rfl zr34 rfl rfl ?_
    refine o_nil (hK _ _ ?_); (try clear hK hP hgs K gs P)
    intro tm ht
    refine WC_reg fun K gs P hK hgs hP => ?_
    refine RW_step (OW_makeFunc.2 ⟨[], [.ptr σ1.len 0], rfl, by simp only [opvs, opv, ht.2 2 _ rfl], ?_⟩)
    have ht2 := ht.put (d := 3) (v := .func (.func 51) [] [.ptr σ1.len 0]) rfl
    refine RW_step ?_
    refine ⟨.dfr (.fn 51 ([] ++ [] ++ [.ptr σ1.len 0])) (σ1.push (.cells 34 [.int .i64 0])), ?_, ?_⟩
    · show opStep _ _ _ (tm.put 3 _) _ _ = _
      simp only [opStep, opv, ht2.2 3 _ rfl]
      rfl
    · refine hK _ _ ?_
      clear hK hgs hP K gs P
      refine WS_of (N := 6) (df := [.fn 51 [.ptr σ1.len 0]]) ?_ ht2
      refine WS_reg fun K gs P hK hgs hP => ?_
      refine o_mv rfl rfl ?_
      refine o_callv rfl rfl .nil c1 c2 ?_
      refine o_nil (hK _ _ ?_); (try clear hK hP hgs K gs P)
      refine WS_reg fun K gs P hK hgs hP => ?_
      refine o_st rfl rfl (store_box hbe sz34 rfl (Nat.le_of_ble_eq_true rfl) rfl rfl) ?_
      refine o_nil (hK _ _ ?_); (try clear hK hP hgs K gs P)
      exact WS_ret fun tm ht => ⟨rfl, rfl, ht.2 2 _ rfl, rfl⟩
  obtain ⟨x, a', σ', ⟨n, hn⟩, rfl, hd, ht2, rfl⟩ := hw _ hsl
  obtain ⟨n2, hn2⟩ := guarded1_ret (pr := pr) σ1.len ((cr.st (σ1.push (.cells 34 [.int .i64 0]))).upd σ1.len 34 [.int .i64 0])
  refine ⟨.ret (.int .i64 0), (cr.st (σ1.push (.cells 34 [.int .i64 0]))).upd σ1.len 34 [.int .i64 0], ⟨max n n2, fun m hm => ?_⟩, rfl, ((hFw.push hB1).then c3).upd (b := σ1.len) (Nat.le_refl _) hB1, ?_⟩
  · have e1 := hn m (by omega)
    have e2 := hn2 m (by omega)
    have e3 : loadL look ((cr.st (σ1.push (.cells 34 [.int .i64 0]))).upd σ1.len 34 [.int .i64 0]) 34 (.ptr σ1.len 0) = some (.int .i64 0) := ldb (box_upd' hbe) (pl34.trans rfl)
    have e4 : fl32.results = [.cell 2 34] := rfl
    show runBody look (ev look pr m) fl32 [dv] σ1 = _
    simp only [runBody]
    rw [show fl32.body = bodyOf f32 from rfl, e1]
    simp only [modeOf, hd, leaveL, e2, settleL, e4, resultsL, resultL, ht2, e3]
    rfl
  · intro τ' h2
    exact hJ σ σ.len _ _ τ' hσ rfl (by rw [push_len]; omega) (fun b hb => (h2 b hb).trans (by simp only [LH.upd]; rw [List.getElem?_set_ne (by omega)])) c4
end Go.Lg
end
section
set_option linter.unusedSimpArgs false
set_option maxRecDepth 20000
namespace Go.Lg
open Go.Proofs.Tryz
variable {pr : Prim} {o : Bool} {z : Option Bool}
def instT (l : List Term) (by_ : Int) (t : Term) : Term := if (t.kind == 0) = true then t else replT l by_ t
def i3S (o : Bool) (z : Option Bool) (p : Proof) (l : List Term) (by_ : Int) (bP bR bS bO B2 B3 : Nat) (σ : LH) : Prop := boxOf σ bP = some (30, (encP p).cells) ∧ boxOf σ bR = some (69, [.func (.func 47) [] [.ptr B2 0, .ptr B3 0]]) ∧ boxOf σ bS = some (70, [.func (.func 27) [] []]) ∧ repS o z l by_ B2 B3 σ ∧ ∃ cs, boxOf σ bO = some (30, cs) ∧ cs.length = 10
theorem i3S_low {p : Proof} {l : List Term} {by_ : Int} {bP bR bS bO B2 B3 : Nat} (τ τ' : LH) (h : ∀ b, b < τ.len → τ'.boxes[b]? = τ.boxes[b]?) (hS : i3S o z p l by_ bP bR bS bO B2 B3 τ) : i3S o z p l by_ bP bR bS bO B2 B3 τ' := by
  obtain ⟨h1, h2, h3, h4, cs, h5, h6⟩ := hS
  exact ⟨box_same h1 (h _ (box_lt h1)), box_same h2 (h _ (box_lt h2)), box_same h3 (h _ (box_lt h3)), repS_low τ τ' h h4, cs, box_same h5 (h _ (box_lt h5)), h6⟩
theorem fn33 : look.fnOf 33 = some fl33 := by kernel_rfl
theorem Instance3_ok (hpr : NoPr pr) (p : Proof) (hsm : p.Small) (l : List Term) (by_ : Int) (bP bR bS bO B2 B3 : Nat)
    (hrep : ∀ t ∈ trav p, t.kind ≠ 0 → ∀ σ, repS o z l by_ B2 B3 σ → EvF look pr (.func (.func 47) [] [.ptr B2 0, .ptr B3 0]) [encT t] σ (.still (.ret (encT (replT l by_ t))))) :
    ∀ σ, i3S o z p l by_ bP bR bS bO B2 B3 σ → ∃ cr, EvF look pr (.func (.func 33) [] [.ptr bP 0, .ptr bR 0, .ptr bS 0, .ptr bO 0]) [] σ cr ∧ cr.out = .ret (.tuple []) ∧ Fb bO σ (cr.st σ) ∧ (bO < σ.len → boxOf (cr.st σ) bO = some (30, (encP (rebP (instT l by_) id p)).cells)) := by
  refine EvW2 (L := look) (pr := pr) (B := bO) (g := 33) (fn := fl33) (fs := []) (args := []) (cs := [.ptr bP 0, .ptr bR 0, .ptr bS 0, .ptr bO 0]) (v := .tuple []) (S := i3S o z p l by_ bP bR bS bO B2 B3) (J := fun σ τ => bO < σ.len → boxOf τ bO = some (30, (encP (rebP (instT l by_) id p)).cells)) fn33 (hpr.at rfl) ⟨Nat.le_of_ble_eq_true rfl, Nat.le_of_ble_eq_true rfl⟩ (by simp [LV.refsOK, LV.argC, LV.canonA, LV.disown, LV.refOK]) rfl ⟨fun _ => rfl, fun _ => rfl⟩ (by simp) (fun σ ws h => i3S_low σ _ (fun b _ => rfl) h) (fun σ h => box_lt h.2.2.2.2.choose_spec.1) (fun σ ws τ τ' h hj hb => box_same (hj hb) (h _ hb)) ?_
  rintro σ ⟨h1, h2, h3, h4, cs, h5, h6⟩ hws
  have hFw : Fw bO σ σ := Fw.refl hws
  have hB := box_lt h5
  have hr1 := box_lt h4.1
  have hr2 := box_lt h4.2
  have hr3 := box_lt h2
  have rb : Rb pr σ.len bO (fun (_ : Unit) τ => (boxOf τ bR = some (69, [.func (.func 47) [] [.ptr B2 0, .ptr B3 0]]) ∧ repS o z l by_ B2 B3 τ) ∧ boxOf τ bO = some (30, cs)) (.func (.func 34) [] [.ptr bR 0]) (.func (.func 27) [] []) (instT l by_) id (fun _ _ => ()) (fun t => t ∈ trav p ∧ t.Small) := by
    refine ⟨hB, fun a τ τ' h hS => ⟨⟨box_same hS.1.1 (h _ hr3), box_same hS.1.2.1 (h _ hr1), box_same hS.1.2.2 (h _ hr2)⟩, box_same hS.2 (h _ hB)⟩, fun a t τ ht hM hS => ⟨_, Instance31_ok hpr bR B2 B3 l by_ t ht.2 (hrep t ht.1) τ hS.1, rfl, Fb.refl, hS⟩, fun a n τ hM hS => same_ok hpr n τ, ?_, rfl⟩
    simp [LV.refsOK, LV.argC, LV.canonA, LV.disown, LV.refOK]
  obtain ⟨cr, k1, k2, k3, k4⟩ := rebuilt_ok hpr rb p hsm (fun t ht => ⟨ht, trav_small p hsm t ht⟩) () σ (Nat.le_refl _) ⟨⟨h2, h4⟩, h5⟩
  show WS look pr false 8 [] (bodyOf f33) _ _ _
  simp only [bodyOf, f33]
  refine WS_reg1 fun K gs P hK hgs hP => ?_
  refine o_ld rfl rfl (ldb h1 wP) ?_
  refine o_mkf rfl .nil (.cons rfl .nil) ?_
  refine o_ld rfl rfl (ldb h3 (pl70.trans rfl)) ?_
  refine o_callv rfl rfl (.cons rfl (.cons rfl (.cons rfl .nil))) k1 k2 ?_
  refine o_st rfl rfl (store_box k4.2 sz30 (encP_wd _) (by rw [h6]; exact Nat.le_of_ble_eq_true rfl) fP ((encP_good _).ref _)) ?_
  refine o_nil (hK _ _ fun tm ht => ?_)
  exact ⟨_, .nil, [], rfl, rfl, (hFw.then k3).updB, fun _ => (box_upd' k4.2).trans (by rw [setRange_all (by rw [h6, encP_cells]; rfl)])⟩
end Go.Lg
end
section
set_option linter.unusedSimpArgs false
set_option maxRecDepth 20000
namespace Go.Lg
open Go.Proofs.Tryz
variable {pr : Prim} {o : Bool} {z : Option Bool}
theorem store_boxR {L : Look} {σ : LH} {t bt : TypeId} {b o s : Nat} {cs : List LV} {v : LV} (h : boxOf σ b = some (bt, cs)) (hs : sizeL L t = some s) (hw : v.wd = s) (hl : o + s ≤ cs.length) (hf : v.flat = true) (hr : v.refOK (b + 1) = true) :
    storeL L σ t (.ptr b o) v = some (σ.upd b bt (setRange cs o v.cells)) := by
  simp only [storeL, h, hs]
  rw [if_pos ⟨hw, hl, hf, hr⟩]; rfl
def zeroP : Proof := .mk 0 0 [] (.mk 0 0 ⟨#[]⟩ []) [] [] []
def badP (nb : ByteArray → Bool) (p : Proof) : Bool := (trav p).foldl (badT nb) false
theorem fn9 : look.fnOf 9 = some fl9 := by kernel_rfl
theorem Ret.ofC {L : Look} {pr : Prim} {g : FuncId} {fn : FnL} {args0 args : List LV} {v : LV} (h0 : args0.map LV.argC = args) (hfn : L.fnOf g = some fn) (hpr : ∀ l σ, pr g l σ = none) (hn : args.length ≤ fn.ntmps ∧ fn.ntmps < 511)
    (hg : ∀ x ∈ args, x.Good ∧ x.argC = x) (hv : v.Good) (hs : ∀ xs k nz, v ≠ .slice xs (.tok k) nz)
    (h : WS L pr false fn.ntmps [] fn.body (argSlots 0 args) LH.new (endQ L fn.results fun out σ' => out.fin = .ret v)) : Ret L pr g args0 v := by
  intro σ
  have hm : ([] ++ args0 ++ []).map LV.argC = args := by rw [List.nil_append, List.append_nil]; exact h0
  refine EvF_closed hfn (hpr _ _) ?_ ?_
  · rw [hm, goods_ref (fun x hx => (hg x hx).1), goods_tok (fun x hx => (hg x hx).1)]; rfl
  · rw [hm]
    refine (h _ ⟨fun k hk => enter_has hk hn.2, fun k u hu => ?_⟩).mono fun e a' σ' hq => ?_
    · obtain ⟨i, h1, h2⟩ := argSlots_get args 0 k u hu
      rw [Nat.zero_add] at h1; subst h1; exact enter_get h2 hn.1 hn.2
    have key : ∀ out, out.fin = LOut.ret v → closeF σ out σ' = some (.still (.ret v)) := fun out ho => by
      unfold closeF
      simp only [ho]
      have hb : (LOut.ret v).bare.tokOK 0 = true := by
        cases v with
        | slice xs own nz =>
          have := hv.tok 0
          simp only [LV.tokOK, Bool.and_eq_true] at this
          simp only [LOut.bare, LV.tokOK, Own.ok, Bool.true_and]; exact this.2
        | _ => exact hv.tok 0
      rw [if_pos ⟨hv.ref 0, hb⟩]
      split
      · rename_i xs k nz heq
        injection heq with heq
        exact absurd heq (hs _ _ _)
      · rfl
    cases e with
    | normal => obtain ⟨h1, vs, h2, h3⟩ := hq; exact ⟨h1, vs, h2, key _ h3⟩
    | ret => obtain ⟨h1, vs, h2, h3⟩ := hq; exact ⟨h1, vs, h2, key _ h3⟩
    | panic u => obtain ⟨h1, h2⟩ := hq; exact ⟨h1, key _ h2⟩
    | exit id => exact hq
theorem good_pair {p : Proof} {e : Int} : (LV.tuple [encP p, .int .i64 e]).Good := ⟨fun n => by simp only [LV.refOK, LV.refsOK, (encP_good _).ref n, Bool.and_true], fun n => by simp only [LV.tokOK, LV.toksOK, (encP_good _).tok n, Bool.and_true]⟩
theorem Instance_ok (hpr : NoPr pr) {nb : ByteArray → Bool} (hnb : Names pr nb) (p : Proof) (hsm : p.Small) (hF : FormedP p = 0) (l : List Term) (hl : l.length < 1073741824) (hls : ∀ t ∈ l, t.Small) (by_ : Int) (hR : replacingT nb l by_ = 0)
    (hgo : badP nb p = false → (∀ B2 B3, ∀ t ∈ trav p, t.kind ≠ 0 → ∀ σ, repS o z l by_ B2 B3 σ → EvF look pr (.func (.func 47) [] [.ptr B2 0, .ptr B3 0]) [encT t] σ (.still (.ret (encT (replT l by_ t))))) ∧ (rebP (instT l by_) id p).Small ∧ min (sizeP (rebP (instT l by_) id p) 0) 20001 ≤ 20000)
    {args0 : List LV} (h0 : args0.map LV.argC = [encP p, slcX o z (l.map encT), .int .i64 by_]) :
    Ret look pr 9 args0 (.tuple [encP (if badP nb p = true then zeroP else rebP (instT l by_) id p), .int .i64 (if badP nb p = true then 6 else 0)]) := by
  refine Ret.ofC h0 (fn := fl9) fn9 (hpr.at rfl) ⟨Nat.le_of_ble_eq_true rfl, Nat.le_of_ble_eq_true rfl⟩ (gargs_cons gP (gargs_cons (gslcX encT_good) (gargs_cons gint gargs_nil))) good_pair (by simp) ?_
  show WS look pr false 49 [] (bodyOf f9) _ _ _
  simp only [bodyOf, f9]
  refine WS_reg fun K gs P hK hgs hP => ?_
  refine o_box rfl rfl zP fP rP ?_
  refine o_al rfl zr30 rfl rfl ?_
  refine o_as rfl rfl ?_
  refine o_nil (hK _ _ ?_); (try clear hK hP hgs K gs P)
  refine WS_seq ?_
  refine WS_reg fun K gs P hK hgs hP => ?_
  refine o_ld rfl rfl (ldb (box_push_of (box_push)) wP) ?_
  refine o_call rfl (.cons rfl .nil) (Formed_ok hpr p hsm) ?_
  refine o_as rfl rfl ?_
  refine o_nil (hK _ _ ?_); (try clear hK hP hgs K gs P)
  refine WS_reg fun K gs P hK hgs hP => ?_
  refine o_mv rfl rfl ?_
  refine o_bin rfl rfl rfl neq_int ?_
  refine o_nil (hK _ _ ?_); (try clear hK hP hgs K gs P)
  refine WS_cond rfl (fun hb => by rw [hF] at hb; cases hb) (fun hb => ?_)
  refine WS_skip fun tm ht => ?_
  simp only [thenQ, blockQ, if_true]; refine WS_of ?_ ht; clear ht tm
  refine WS_seq ?_
  refine WS_reg fun K gs P hK hgs hP => ?_
  refine o_mv rfl rfl ?_
  refine o_mv rfl rfl ?_
  refine o_call rfl (.cons rfl (.cons rfl .nil)) (replacing_ok hpr hnb l hl hls by_) ?_
  refine o_as rfl rfl ?_
  refine o_nil (hK _ _ ?_); (try clear hK hP hgs K gs P)
  refine WS_reg fun K gs P hK hgs hP => ?_
  refine o_mv rfl rfl ?_
  refine o_bin rfl rfl rfl neq_int ?_
  refine o_nil (hK _ _ ?_); (try clear hK hP hgs K gs P)
  refine WS_cond rfl (fun hb => by rw [hR] at hb; cases hb) (fun hb => ?_)
  refine WS_skip fun tm ht => ?_
  simp only [thenQ, blockQ, if_true]; refine WS_of ?_ ht; clear ht tm
  refine WS_reg fun K gs P hK hgs hP => ?_
  refine o_al rfl zr70 rfl rfl ?_
  refine o_st rfl rfl (stn sz70 rfl rfl rfl) ?_
  refine o_nil (hK _ _ ?_); (try clear hK hP hgs K gs P)
  refine WS_reg fun K gs P hK hgs hP => ?_
  refine o_al rfl zr4 rfl rfl ?_
  refine o_st rfl rfl (stn sz4 rfl rfl rfl) ?_
  refine o_nil (hK _ _ ?_); (try clear hK hP hgs K gs P)
  refine WS_st (F := fun σ => boxOf σ 0 = some (30, (encP p).cells) ∧ (∃ cs, boxOf σ 1 = some (30, cs) ∧ cs.length = 10) ∧ boxOf σ 2 = some (70, [.func (.func 27) [] []]) ∧ boxOf σ 3 = some (4, [.bool false]) ∧ σ.len = 4) ⟨box_put_of (box_put_of (box_push_of box_push)), ⟨_, box_put_of (box_put_of box_push), rfl⟩, box_put_of box_put, box_put, rfl⟩ ?_
  rintro σ ⟨b0, ⟨c1, b1, hl1⟩, b2, b3, hlen⟩
  have rb : Rb pr 4 3 (fun (bad : Bool) τ => boxOf τ 3 = some (4, [.bool bad])) (.func (.func 28) [] [.ptr 3 0]) (.func (.func 27) [] []) id id (badT nb) Term.Small := by
    refine ⟨by omega, fun a τ τ' h hS => box_same hS (h 3 (by omega)), fun a t τ ht hM hS => Instance2_ok hpr hnb 3 a t ht τ hS, fun a n τ hM hS => same_ok hpr n τ, ?_, rfl⟩
    simp [LV.refsOK, LV.argC, LV.canonA, LV.disown, LV.refOK]
  obtain ⟨cr, k1, k2, k3, k4⟩ := rebuilt_ok hpr rb p hsm (trav_small p hsm) false σ (by omega) b3
  have d0 := box_fb b0 k3 (by omega)
  have d1 := box_fb b1 k3 (by omega)
  have d2 := box_fb b2 k3 (by omega)
  refine WS_reg fun K gs P hK hgs hP => ?_
  refine o_ld rfl rfl (ldb b0 wP) ?_
  refine o_mkf rfl .nil (.cons rfl .nil) ?_
  refine o_ld rfl rfl (ldb b2 (pl70.trans rfl)) ?_
  refine o_callv rfl rfl (.cons rfl (.cons rfl (.cons rfl .nil))) k1 k2 ?_
  refine o_nil (hK _ _ ?_); (try clear hK hP hgs K gs P)
  refine WS_st (F := fun σ => boxOf σ 0 = some (30, (encP p).cells) ∧ boxOf σ 1 = some (30, c1) ∧ boxOf σ 2 = some (70, [.func (.func 27) [] []]) ∧ boxOf σ 3 = some (4, [.bool (badP nb p)]) ∧ σ.len = 4) ⟨d0, d1, d2, k4, k3.len.trans hlen⟩ ?_
  clear d0 d1 d2 k4 k3 k2 k1 cr rb b0 b1 b2 b3 hlen σ
  rintro σ ⟨b0, b1, b2, b3, hlen⟩
  refine WS_seq ?_
  refine WS_reg fun K gs P hK hgs hP => ?_
  refine o_ld rfl rfl (ldb b3 (pl4.trans rfl)) ?_
  refine o_nil (hK _ _ ?_); (try clear hK hP hgs K gs P)
  refine WS_cond rfl (fun hb => ?_) (fun hb => ?_)
  · refine WS_reg fun K gs P hK hgs hP => ?_
    refine o_bld rfl .nil rfl ?_
    refine o_st rfl rfl (store_box b1 sz30 rfl (by rw [hl1]; exact Nat.le_of_ble_eq_true rfl) rfl rfl) ?_
    refine o_as rfl rfl ?_
    refine o_nil (hK _ _ ?_); (try clear hK hP hgs K gs P)
    refine WS_ret fun tm ht => ?_
    (try simp only [thenQ, blockQ]); refine endQ_ct ht rfl (ldb ((box_upd' b1).trans (by rw [setRange_all (by rw [hl1]; rfl)])) (pl30.trans rfl)) rfl ?_
    rw [if_pos hb, if_pos hb, encP_eq]; rfl
  refine WS_skip fun tm ht => ?_
  simp only [thenQ, blockQ, if_true]; refine WS_of ?_ ht; clear ht tm
  obtain ⟨hrep, hsm2, hsz⟩ := hgo hb
  have hc := replacer_call (o := o) (z := z) hpr l by_ σ
  rw [hlen, show ({ boxes := σ.boxes ++ [.cells 23 [slcX o z (l.map encT)], .cells 3 [.int .i64 by_]], toks := σ.toks, ws := σ.ws } : LH) = (σ.push (.cells 23 [slcX o z (l.map encT)])).push (.cells 3 [.int .i64 by_]) from by simp [LH.push]] at hc
  have n5 : (σ.push (.cells 23 [slcX o z (l.map encT)])).len = 5 := by rw [push_len, hlen]
  have n6 : ((σ.push (.cells 23 [slcX o z (l.map encT)])).push (.cells 3 [.int .i64 by_])).len = 6 := by rw [push_len, n5]
  refine WS_reg fun K gs P hK hgs hP => ?_
  refine o_mv rfl rfl ?_
  refine o_mv rfl rfl ?_
  refine o_callv rfl rfl (.cons rfl (.cons rfl .nil)) hc rfl ?_
  refine o_al rfl zr69 rfl rfl ?_
  refine o_st rfl rfl (store_boxR box_push sz69 rfl (Nat.le_of_ble_eq_true rfl) rfl (by simp [LV.refOK, LV.refsOK, CR.st, n6])) ?_
  refine o_nil (hK _ _ ?_); (try clear hK hP hgs K gs P)
  simp only [CR.st, n6]
  refine WS_st (F := fun σ => i3S o z p l by_ 0 6 2 1 4 5 σ) ⟨box_upd_of (box_push_of (box_push_of (box_push_of b0))) (nd rfl), box_upd' (n6 ▸ box_push (σ := (σ.push (.cells 23 [slcX o z (l.map encT)])).push (.cells 3 [.int .i64 by_]))), box_upd_of (box_push_of (box_push_of (box_push_of b2))) (nd rfl), ⟨box_upd_of (box_push_of (box_push_of (hlen ▸ box_push (σ := σ)))) (nd rfl), box_upd_of (box_push_of (n5 ▸ box_push (σ := σ.push (.cells 23 [slcX o z (l.map encT)])))) (nd rfl)⟩, _, box_upd_of (box_push_of (box_push_of (box_push_of b1))) (nd rfl), hl1⟩ ?_
  clear n5 n6 hc b0 b1 b2 b3 hlen σ
  intro σ hi
  obtain ⟨cr, k1, k2, k3, k4⟩ := guarded_ok hpr (B := 1) (dv := .func (.func 33) [] [.ptr 0 0, .ptr 6 0, .ptr 2 0, .ptr 1 0]) (S := i3S o z p l by_ 0 6 2 1 4 5) (J := fun σ τ => 1 < σ.len → boxOf τ 1 = some (30, (encP (rebP (instT l by_) id p)).cells)) (by simp [LV.refsOK, LV.argC, LV.canonA, LV.disown, LV.refOK]) rfl (fun σ σ' h _ hS => i3S_low σ σ' h hS) (fun σ hS => box_lt hS.2.2.2.2.choose_spec.1) (fun σ n σ1 τ τ' hS hn hle h hj h1 => box_same (hj (by omega)) (h 1 (by omega))) (fun σ hS => Instance3_ok hpr p hsm l by_ 0 6 2 1 4 5 (hrep 4 5) σ hS) σ hi
  have d1 := k4 (box_lt hi.2.2.2.2.choose_spec.1)
  refine WS_reg fun K gs P hK hgs hP => ?_
  refine o_mkf rfl .nil (.cons rfl (.cons rfl (.cons rfl (.cons rfl .nil)))) ?_
  refine o_callv rfl rfl (.cons rfl .nil) k1 k2 ?_
  refine o_as rfl rfl ?_
  refine o_nil (hK _ _ ?_); (try clear hK hP hgs K gs P)
  refine WS_seq ?_
  refine WS_regB (l1 := [(6, _), (7, _)]) (sub_cons rfl (sub_cons rfl (sub_nil))) 43 false (fun K gs P hK hgs hP => ?_) ?_
  · have s2 : gs 2 = some 39 := by rw [hgs]; rfl
    refine o_mv rfl rfl ?_
    refine o_bin rfl rfl rfl eql_int ?_
    refine o_mv rfl rfl ?_
    refine o_yes rfl s2 rfl (o_ld rfl rfl (ldb d1 wP) ?_)
    refine o_yes rfl s2 rfl (o_call rfl (.cons rfl .nil) (Size_ok hpr _ hsm2) ?_)
    refine o_yes rfl s2 rfl (o_bin rfl rfl rfl gtr_int ?_)
    rw [show decide ((min (sizeP (rebP (instT l by_) id p) 0) 20001 : Int) > 20000) = false by simp; omega]
    refine o_pick rfl rfl rfl ?_
    exact o_nil (hK _ (by (show some (LV.bool _) = some (LV.bool _); refine congrArg (fun b => some (LV.bool b)) ?_; first | (simp_all; done) | (simp_all; intros; omega))) (sub_cons rfl (sub_cons rfl (sub_nil))))
  refine WS_cond rfl (fun hb => by cases hb) (fun _ => ?_)
  refine WS_skip fun tm ht => ?_
  simp only [thenQ, blockQ, if_true]; refine WS_of ?_ ht; clear ht tm
  refine WS_seq ?_
  refine WS_reg fun K gs P hK hgs hP => ?_
  refine o_mv rfl rfl ?_
  refine o_bin rfl rfl rfl neq_int ?_
  refine o_nil (hK _ _ ?_); (try clear hK hP hgs K gs P)
  refine WS_cond rfl (fun hb => by cases hb) (fun _ => ?_)
  refine WS_skip fun tm ht => ?_
  simp only [thenQ, blockQ, if_true]; refine WS_of ?_ ht; clear ht tm
  refine WS_reg fun K gs P hK hgs hP => ?_
  refine o_ld rfl rfl (ldb d1 wP) ?_
  refine o_st rfl rfl (store_box d1 sz30 (encP_wd _) (by rw [encP_cells]; exact Nat.le_of_ble_eq_true rfl) fP ((encP_good _).ref _)) ?_
  refine o_as rfl rfl ?_
  refine o_nil (hK _ _ ?_); (try clear hK hP hgs K gs P)
  refine WS_ret fun tm ht => ?_
  (try simp only [thenQ, blockQ]); refine endQ_ct ht rfl (ldb ((box_upd' d1).trans (by rw [setRange_all rfl])) wP) rfl ?_
  rw [if_neg (by rw [hb]; simp), if_neg (by rw [hb]; simp)]
  show LOut.ret (.tuple [(encP _).canonT, _]) = _
  rw [encP_canonT]; rfl
end Go.Lg
end
section
set_option linter.unusedSimpArgs false
set_option maxRecDepth 20000
namespace Go.Lg
def Sh (t u : Term) : Prop := (∀ s m lv, nodesT u s m lv = nodesT t s m lv) ∧ (∀ m, deepT u m = deepT t m) ∧ u.args.length = t.args.length
theorem Sh.refl (t : Term) : Sh t t := ⟨fun _ _ _ => rfl, fun _ => rfl, rfl⟩
theorem Sh.trans {t u v : Term} (h : Sh t u) (g : Sh u v) : Sh t v := ⟨fun s m lv => (g.1 s m lv).trans (h.1 s m lv), fun m => (g.2.1 m).trans (h.2.1 m), g.2.2.trans h.2.2⟩
theorem nodesL_map {f : Term → Term} : ∀ (l : List Term), (∀ x ∈ l, Sh x (f x)) → ∀ s m lv, nodesL (l.map f) s m lv = nodesL l s m lv
  | [], _, _, _, _ => rfl
  | x :: l, h, s, m, lv => by
    rw [List.map_cons, nodesL, nodesL, (h x List.mem_cons_self).1, nodesL_map l fun y hy => h y (List.mem_cons_of_mem _ hy)]
theorem Sh.map {t : Term} {k n : Int} {s : ByteArray} {f : Term → Term} (h : ∀ x ∈ t.args, Sh x (f x)) : Sh t (.mk k n s (t.args.map f)) := by
  refine ⟨fun s m lv => ?_, fun m => ?_, by show (t.args.map f).length = _; rw [List.length_map]⟩
  · rw [nodesT_eq, nodesT_eq]; exact nodesL_map _ h _ _ _
  · rw [deepT_eq, deepT_eq]
    show (_ || (t.args.map f).any _) = _
    rw [List.any_map]
    congr 1
    rw [Bool.eq_iff_iff, List.any_eq_true, List.any_eq_true]
    exact ⟨fun ⟨x, hx, e⟩ => ⟨x, hx, by simpa [(h x hx).2.1] using e⟩, fun ⟨x, hx, e⟩ => ⟨x, hx, by simpa [(h x hx).2.1] using e⟩⟩
theorem rehT_sh (a b c : Int) : ∀ t : Term, Sh t (rehT a b c t) := by
  refine Term.ind fun t ih => ?_
  rw [rehT_eq]; exact Sh.map ih
def ParL (l : List Term) : Prop := ∀ x ∈ l, x.kind = 3 ∧ x.args = [] ∧ 0 ≤ x.n ∧ x.n ≤ 255 ∧ x.name = ⟨#[]⟩
theorem walk_sh {l : List Term} (hp : ParL l) : ∀ (t : Term) (k : Int), Sh t (walkT (putHd l) t k) := by
  refine Term.ind fun t ih k => ?_
  rw [walkT_eq]
  have h1 : Sh t (outT (putHd l) t k) := Sh.map fun x hx => ih x hx _
  split
  · exact h1
  · rw [putHd]
    split
    · split
      · rename_i x hx
        have := (hp x (List.mem_of_getElem? hx)).2.1
        rw [this, List.nil_append]
        exact Sh.map (f := fun x => walkT (putHd l) x (innerK t k)) fun x hx => ih x hx _
      · exact h1
    · exact h1
def Okt (t : Term) : Prop := t.fold fun t bs => (t.args.length ≤ 8 ∧ t.name.size < 1073741824 ∧ t.n ≤ 100000 ∧ 0 ≤ t.n ∧ t.kind ≠ 0) ∧ ∀ b ∈ bs, b
theorem okt_iff (t : Term) : Okt t ↔ (t.args.length ≤ 8 ∧ t.name.size < 1073741824 ∧ t.n ≤ 100000 ∧ 0 ≤ t.n ∧ t.kind ≠ 0) ∧ ∀ x ∈ t.args, Okt x := by
  unfold Okt
  rw [Term.fold_eq]
  simp only [List.mem_map, forall_exists_index, and_imp, forall_apply_eq_imp_iff₂]
theorem Okt.mk {k n : Int} {s : ByteArray} {l : List Term} (h : (l.length ≤ 8 ∧ s.size < 1073741824 ∧ n ≤ 100000 ∧ 0 ≤ n ∧ k ≠ 0) ∧ ∀ x ∈ l, Okt x) : Okt (.mk k n s l) := (okt_iff (.mk k n s l)).2 h
theorem Okt.small : ∀ t : Term, Okt t → t.Small := by
  refine Term.ind fun t ih h => ?_
  have h := (okt_iff t).1 h
  exact (Term.small_iff t).2 ⟨⟨by omega, h.1.2.1⟩, fun x hx => ih x hx (h.2 x hx)⟩
theorem Okt.narrow : ∀ t : Term, Okt t → Narrow t := by
  refine Term.ind fun t ih h => ?_
  have h := (okt_iff t).1 h
  exact (narrow_iff t).2 ⟨⟨h.1.1, fun _ => h.1.2.2.2.1⟩, fun x hx => ih x hx (h.2 x hx)⟩
theorem Okt.greatest : ∀ t : Term, Okt t → greatestT t ≤ 100000 := by
  refine Term.ind fun t ih h => ?_
  have h := (okt_iff t).1 h
  rw [greatestT_eq]
  refine foldl_max_le _ _ _ (fun x hx => ?_) h.1.2.2.1
  obtain ⟨y, hy, rfl⟩ := List.mem_map.1 hx
  exact ih y hy (h.2 y hy)
theorem kindBad_okt {nb : ByteArray → Bool} {t : Term} (h : kindBad nb t = false) : t.n ≤ 100000 ∧ 0 ≤ t.n ∧ t.kind ≠ 0 := by
  unfold kindBad at h
  split at h
  · rename_i e; simp at h e; omega
  · split at h
    · rename_i e; simp at h e; omega
    · split at h
      · rename_i e; simp at h e; omega
      · cases h
theorem shaped_okt {nb : ByteArray → Bool} : ∀ t : Term, t.Small → shapedT nb t = true → Okt t := by
  refine Term.ind fun t ih hsm h => ?_
  have hS := (Term.small_iff t).1 hsm
  rw [shapedT_eq] at h
  simp only [Bool.and_eq_true, Bool.not_eq_true', List.all_eq_true, decide_eq_true_eq] at h
  obtain ⟨h1, h2, h3⟩ := h
  have := kindBad_okt h1
  exact (okt_iff t).2 ⟨⟨by omega, hS.1.2, this.1, this.2.1, this.2.2⟩, fun x hx => ih x hx (hS.2 x hx) (h2 x hx)⟩
theorem wrap_le {n : Int} (h0 : 0 ≤ n) (h1 : n ≤ 100000) : IntKind.i64.wrap n = n := wrap_in (by omega) (by omega)
theorem reh34_okt : ∀ t : Term, Okt t → Okt (rehT 3 4 0 t) := by
  refine Term.ind fun t ih h => ?_
  have h := (okt_iff t).1 h
  rw [rehT_eq]
  refine Okt.mk ⟨⟨by rw [List.length_map]; exact h.1.1, h.1.2.1, ?_, ?_, ?_⟩, fun x hx => ?_⟩
  · unfold rehN; split
    · rw [Int.add_zero, wrap_le h.1.2.2.2.1 h.1.2.2.1]; exact h.1.2.2.1
    · exact h.1.2.2.1
  · unfold rehN; split
    · rw [Int.add_zero, wrap_le h.1.2.2.2.1 h.1.2.2.1]; exact h.1.2.2.2.1
    · exact h.1.2.2.2.1
  · unfold rehK; split
    · decide
    · exact h.1.2.2.2.2
  · obtain ⟨y, hy, rfl⟩ := List.mem_map.1 hx
    exact ih y hy (h.2 y hy)
theorem reh34_shaped {nb : ByteArray → Bool} : ∀ t : Term, Okt t → shapedT nb t = true → shapedT nb (rehT 3 4 0 t) = true := by
  refine Term.ind fun t ih ho h => ?_
  have hO := (okt_iff t).1 ho
  rw [shapedT_eq] at h
  simp only [Bool.and_eq_true, Bool.not_eq_true', List.all_eq_true, decide_eq_true_eq] at h
  obtain ⟨h1, h2, h3⟩ := h
  rw [rehT_eq, shapedT_eq]
  simp only [Bool.and_eq_true, Bool.not_eq_true', List.all_eq_true, decide_eq_true_eq, show ∀ k n s l, (Term.mk k n s l).args = l from fun _ _ _ _ => rfl, List.length_map]
  refine ⟨?_, fun x hx => ?_, h3⟩
  · unfold kindBad at h1 ⊢
    have q1 : ∀ k n s l, (Term.mk k n s l).kind = k := fun _ _ _ _ => rfl
    have q2 : ∀ k n s l, (Term.mk k n s l).n = n := fun _ _ _ _ => rfl
    have q3 : ∀ k n s l, (Term.mk k n s l).name = s := fun _ _ _ _ => rfl
    have q4 : ∀ k n s l, (Term.mk k n s l).args = l := fun _ _ _ _ => rfl
    simp only [q1, q2, q3, q4, rehK, rehN] at h1 ⊢
    by_cases e : t.kind = 3
    · have e' : (t.kind == 3) = true := by simpa using e
      rw [if_pos e', if_pos e', Int.add_zero, wrap_le hO.1.2.2.2.1 hO.1.2.2.1]
      simp [e] at h1 ⊢; exact h1
    · have e' : ¬ (t.kind == 3) = true := by simpa using e
      rw [if_neg e', if_neg e', List.length_map]
      exact h1
  · obtain ⟨y, hy, rfl⟩ := List.mem_map.1 hx
    exact ih y hy (hO.2 y hy) (h2 y hy)
theorem walk_okt {l : List Term} (hp : ParL l) : ∀ (t : Term) (k : Int), Okt t → Okt (walkT (putHd l) t k) := by
  refine Term.ind fun t ih k ho => ?_
  have hO := (okt_iff t).1 ho
  have hargs : ∀ x ∈ t.args.map (fun x => walkT (putHd l) x (innerK t k)), Okt x := fun x hx => by
    obtain ⟨y, hy, rfl⟩ := List.mem_map.1 hx
    exact ih y hy _ (hO.2 y hy)
  have h1 : Okt (outT (putHd l) t k) := Okt.mk ⟨⟨by rw [List.length_map]; exact hO.1.1, hO.1.2⟩, hargs⟩
  rw [walkT_eq]
  split
  · exact h1
  · rw [putHd]
    split
    · split
      · rename_i x hx
        obtain ⟨g1, g2, g3, g4, g5⟩ := hp x (List.mem_of_getElem? hx)
        rw [g2, List.nil_append]
        refine Okt.mk ⟨⟨by show (List.map _ _).length ≤ 8; rw [List.length_map]; exact hO.1.1, by rw [g5]; decide, by omega, g3, by omega⟩, hargs⟩
      · exact h1
    · exact h1
theorem rehT_kind {a b c : Int} {t : Term} (hb : b ≠ 0) (ht : t.kind ≠ 0) : (rehT a b c t).kind ≠ 0 := by
  rw [rehT_eq]
  show rehK t a b ≠ 0
  unfold rehK; split
  · exact hb
  · exact ht
theorem none_of {t : Term} (h : t.kind ≠ 0) : t.none = false := by simp [Term.none, h]
theorem nodesL_lv {m : Int} (l : List Term) (ih : ∀ x ∈ l, ∀ s most a b, m - 1 < a → m - 1 < b → nodesT x s most a = nodesT x s most b) : ∀ s most a b, m < a → m < b → 1 < a → 1 < b → nodesL l s most a = nodesL l s most b := by
  induction l with
  | nil => intro s most a b _ _ _ _; rw [nodesL, nodesL]
  | cons x l ihl =>
    intro s most a b ha hb h1 h2
    rw [nodesL, nodesL]
    by_cases hs : s ≤ most
    · rw [if_pos ⟨hs, h1⟩, if_pos ⟨hs, h2⟩, ih x List.mem_cons_self s most (a - 1) (b - 1) (by omega) (by omega)]
      exact ihl (fun y hy => ih y (List.mem_cons_of_mem _ hy)) _ _ _ _ ha hb h1 h2
    · rw [if_neg (fun h => hs h.1), if_neg (fun h => hs h.1)]
theorem nodes_lv : ∀ (t : Term) (s most m a b : Int), deepT t m = false → 0 ≤ m → m < a → m < b → nodesT t s most a = nodesT t s most b := by
  refine Term.ind fun t ih s most m a b hd h0 ha hb => ?_
  rw [deepT_eq] at hd
  simp only [Bool.or_eq_false_iff, beq_eq_false_iff_ne, ne_eq, List.any_eq_false, Bool.not_eq_true] at hd
  rw [nodesT_eq, nodesT_eq]
  exact nodesL_lv (m := m) t.args (fun x hx s most a b ha hb => ih x hx s most (m - 1) a b (hd.2 x hx) (by omega) ha hb) _ _ _ _ ha hb (by omega) (by omega)
theorem replT_law {nb : ByteArray → Bool} {l : List Term} (hp : ParL l) (by_ : Int) {t : Term} (hsm : t.Small) (hk : t.kind ≠ 0) (hraw : rawT nb t = 0) :
    Sh t (replT l by_ t) ∧ (replT l by_ t).none = t.none ∧ Okt (rehT 3 4 0 t) ∧ rawT nb (rehT 3 4 0 t) = 0 ∧ Okt (putT l (rehT 3 4 0 t)) ∧ wholeT (putT l (rehT 3 4 0 t)) = .ret (encT (putT l (rehT 3 4 0 t))) := by
  have hs1 := rehT_sh 3 4 0 t
  have hs2 : Sh (rehT 3 4 0 t) (putT l (rehT 3 4 0 t)) := walk_sh hp _ 0
  have hs3 := rehT_sh 4 3 (IntKind.i64.wrap (by_ - l.length)) (putT l (rehT 3 4 0 t))
  unfold rawT at hraw
  split at hraw
  · cases hraw
  · rename_i r1
    split at hraw
    · cases hraw
    · rename_i r2
      split at hraw
      · cases hraw
      · rename_i r3
        have hsh : shapedT nb t = true := by simpa using r3
        have ho := shaped_okt t hsm hsh
        have ho1 := reh34_okt t ho
        have ho2 : Okt (putT l (rehT 3 4 0 t)) := walk_okt hp _ 0 ho1
        refine ⟨hs1.trans (hs2.trans hs3), ?_, ho1, ?_, ho2, ?_⟩
        · rw [none_of hk]; exact none_of (rehT_kind (a := 4) (b := 3) (by decide) ((okt_iff _).1 ho2).1.2.2.2.2)
        · unfold rawT
          rw [hs1.1, hs1.2.1, if_neg r1, if_neg r2, reh34_shaped t ho hsh]; rfl
        · have hn : nodesT (putT l (rehT 3 4 0 t)) 0 4000 1073741824 ≤ 4000 := by
            rw [hs2.1, hs1.1]
            have hd : deepT t 100 = false := by simpa using r2
            rw [nodes_lv t 0 4000 100 1073741824 101 hd (by omega) (by omega) (by omega)]; omega
          have hg := Okt.greatest _ ho2
          unfold wholeT tooLargeT
          rw [if_neg (by simp; omega), hs2.2.1, hs1.2.1, if_neg r2]
theorem kids_reb (tf : Term → Term) (hf : Int → Int) (p : Proof) : (rebP tf hf p).kids = p.kids.map (rebP tf hf) := by
  rw [rebP_eq]
  show List.flatMap Turn.l (p.spine.map (rebU tf hf)) ++ p.l.map (rebP tf hf) = _
  rw [Proof.kids, List.map_append, List.map_flatMap, List.flatMap_map]; rfl
theorem some1_map {tf : Term → Term} : ∀ l : List Term, (∀ t ∈ l, (tf t).none = t.none) → some1 (l.map tf) = (some1 l).map tf
  | [], _ => rfl
  | t :: l, h => by
    have h1 := h t List.mem_cons_self
    have h2 := some1_map l fun x hx => h x (List.mem_cons_of_mem _ hx)
    simp only [some1, List.map_cons, List.filter_cons, h1] at h2 ⊢
    split <;> simp [h2]
theorem termsN_map {tf : Term → Term} : ∀ (l : List Term), (∀ t ∈ l, Sh t (tf t)) → ∀ s, termsN (l.map tf) s = termsN l s
  | [], _, _ => rfl
  | t :: l, h, s => by
    have h2 := termsN_map l fun x hx => h x (List.mem_cons_of_mem _ hx)
    simp only [termsN, List.map_cons, List.foldl_cons, (h t List.mem_cons_self).1] at h2 ⊢
    exact h2 _
theorem terms_reb {tf : Term → Term} {hf : Int → Int} {p : Proof} (h : ∀ t ∈ trav p, (tf t).none = t.none) : (rebP tf hf p).terms = p.terms.map tf := by
  have e : (rebP tf hf p).all = p.all.map tf := by
    rw [rebP_eq]
    show tf p.term :: (List.map Turn.term (p.spine.map (rebU tf hf)) ++ List.flatMap Move.terms (p.moves.map (rebM tf hf))) = _
    rw [Proof.all, List.map_cons, List.map_append, List.map_map, List.map_map, List.flatMap_map, List.map_flatMap]; rfl
  rw [Proof.terms, e, some1_map]; rfl
  intro t ht
  refine h t ?_
  rw [trav_eq]
  rw [Proof.all] at ht
  rcases List.mem_cons.1 ht with rfl | ht
  · exact List.mem_cons_self
  · rcases List.mem_append.1 ht with ht | ht
    · obtain ⟨u, hu, rfl⟩ := List.mem_map.1 ht
      exact List.mem_cons_of_mem _ (List.mem_append_left _ (List.mem_append_left _ (List.mem_flatMap.2 ⟨u, hu, by rw [travU]; exact List.mem_cons_self⟩)))
    · exact List.mem_cons_of_mem _ (List.mem_append_left _ (List.mem_append_right _ ht))
theorem trav_kid {p x : Proof} (hx : x ∈ p.kids) {t : Term} (ht : t ∈ trav x) : t ∈ trav p := by
  rw [trav_eq]
  rcases List.mem_append.1 hx with hx | hx
  · obtain ⟨u, hu, hx⟩ := List.mem_flatMap.1 hx
    exact List.mem_cons_of_mem _ (List.mem_append_left _ (List.mem_append_left _ (List.mem_flatMap.2 ⟨u, hu, by rw [travU]; exact List.mem_cons_of_mem _ (List.mem_flatMap.2 ⟨x, hx, ht⟩)⟩)))
  · exact List.mem_cons_of_mem _ (List.mem_append_right _ (List.mem_flatMap.2 ⟨x, hx, ht⟩))
theorem terms_trav {p : Proof} {t : Term} (ht : t ∈ p.terms) : t ∈ trav p := by
  have ht : t ∈ p.all := (List.mem_filter.1 ht).1
  rw [trav_eq]
  rw [Proof.all] at ht
  rcases List.mem_cons.1 ht with rfl | ht
  · exact List.mem_cons_self
  · rcases List.mem_append.1 ht with ht | ht
    · obtain ⟨u, hu, rfl⟩ := List.mem_map.1 ht
      exact List.mem_cons_of_mem _ (List.mem_append_left _ (List.mem_append_left _ (List.mem_flatMap.2 ⟨u, hu, by rw [travU]; exact List.mem_cons_self⟩)))
    · exact List.mem_cons_of_mem _ (List.mem_append_left _ (List.mem_append_right _ ht))
theorem sizeP_reb {tf : Term → Term} {hf : Int → Int} : ∀ p : Proof, (∀ t ∈ trav p, Sh t (tf t) ∧ (tf t).none = t.none) → ∀ s, sizeP (rebP tf hf p) s = sizeP p s := by
  refine Proof.ind fun p ih h s => ?_
  rw [sizeP_eq, sizeP_eq, kids_reb, terms_reb fun t ht => (h t ht).2, termsN_map _ fun t ht => (h t (terms_trav ht)).1, List.map_map]
  have e1 : (rebP tf hf p).spine.length = p.spine.length := by rw [rebP_eq]; exact List.length_map _
  have e2 : (rebP tf hf p).moves.length = p.moves.length := by rw [rebP_eq]; exact List.length_map _
  have e3 : p.kids.map (sizeP ∘ rebP tf hf) = p.kids.map sizeP := List.map_congr_left fun x hx => funext fun s => ih x hx (fun t ht => h t (trav_kid hx ht)) s
  rw [e1, e2, e3]
theorem levelsP_reb {tf : Term → Term} {hf : Int → Int} : ∀ p : Proof, ∀ m, levelsP (rebP tf hf p) m = levelsP p m := by
  refine Proof.ind fun p ih m => ?_
  rw [levelsP_eq, levelsP_eq, kids_reb, List.map_map]
  have e3 : p.kids.map (levelsP ∘ rebP tf hf) = p.kids.map levelsP := List.map_congr_left fun x hx => funext fun s => ih x hx s
  rw [e3]
theorem depthP_reb {tf : Term → Term} {hf : Int → Int} : ∀ p : Proof, depthP (rebP tf hf p) = depthP p := by
  refine Proof.ind fun p ih => ?_
  have e1 : (rebP tf hf p).kind = p.kind := by rw [rebP_eq]; rfl
  have e2 : (rebP tf hf p).moves.length = p.moves.length := by rw [rebP_eq]; exact List.length_map _
  have e3 : (rebP tf hf p).spine.flatMap Turn.l = (p.spine.flatMap Turn.l).map (rebP tf hf) := by
    rw [rebP_eq]; show List.flatMap Turn.l (p.spine.map (rebU tf hf)) = _
    rw [List.map_flatMap, List.flatMap_map]; rfl
  have e4 : (rebP tf hf p).l = p.l.map (rebP tf hf) := by rw [rebP_eq]; rfl
  have e5 : (p.spine.flatMap Turn.l).map (depthP ∘ rebP tf hf) = (p.spine.flatMap Turn.l).map depthP := List.map_congr_left fun x hx => ih x (List.mem_append_left _ hx)
  have e6 : p.l.map (depthP ∘ rebP tf hf) = p.l.map depthP := List.map_congr_left fun x hx => ih x (List.mem_append_right _ hx)
  rw [depthP_eq, depthP_eq, e1, e2, e3, e4, dmax, dmax, dmax, dmax, List.map_map, List.map_map, e5, e6]
theorem DepthP_reb {tf : Term → Term} {hf : Int → Int} {p : Proof} (h : ∀ t ∈ trav p, Sh t (tf t) ∧ (tf t).none = t.none) : DepthP (rebP tf hf p) = DepthP p := by
  unfold DepthP
  rw [sizeP_reb p h, levelsP_reb, depthP_reb]
theorem reb_small {tf : Term → Term} {hf : Int → Int} : ∀ p : Proof, p.Small → (∀ t ∈ trav p, (tf t).Small) → (rebP tf hf p).Small := by
  refine Proof.ind fun p ih hsm h => ?_
  have hS := (Proof.small_iff p).1 hsm
  rw [Proof.small_iff, kids_reb]
  refine ⟨?_, fun x hx => ?_⟩
  · rw [rebP_eq]
    refine ⟨by show (List.map _ _).length < _; rw [List.length_map]; exact hS.1.1, h _ (by rw [trav_eq]; exact List.mem_cons_self), by show (List.map _ _).length < _; rw [List.length_map]; exact hS.1.2.2.1, fun u hu => ?_, by show (List.map _ _).length < _; rw [List.length_map]; exact hS.1.2.2.2.2.1, fun m hm => ?_, by show (List.map _ _).length < _; rw [List.length_map]; exact hS.1.2.2.2.2.2.2⟩
    · obtain ⟨v, hv, rfl⟩ := List.mem_map.1 hu
      refine ⟨h _ (by rw [trav_eq]; exact List.mem_cons_of_mem _ (List.mem_append_left _ (List.mem_append_left _ (List.mem_flatMap.2 ⟨v, hv, by rw [travU]; exact List.mem_cons_self⟩)))), ?_⟩
      show (List.map _ _).length < _
      rw [List.length_map]; exact (hS.1.2.2.2.1 v hv).2
    · obtain ⟨v, hv, rfl⟩ := List.mem_map.1 hm
      have hm := hS.1.2.2.2.2.2.1 v hv
      refine ⟨by show (List.map _ _).length < _; rw [List.length_map]; exact hm.1, by show (List.map _ _).length < _; rw [List.length_map]; exact hm.2.1, fun t ht => ?_⟩
      obtain ⟨x, hx, rfl⟩ := List.mem_map.1 ht
      exact h _ (by rw [trav_eq]; exact List.mem_cons_of_mem _ (List.mem_append_left _ (List.mem_append_right _ (List.mem_flatMap.2 ⟨v, hv, hx⟩))))
  · obtain ⟨y, hy, rfl⟩ := List.mem_map.1 hx
    exact ih y hy (hS.2 y hy) fun t ht => h t (trav_kid hy ht)
theorem bad_all {nb : ByteArray → Bool} : ∀ (l : List Term) (b : Bool), l.foldl (badT nb) b = false → b = false ∧ ∀ t ∈ l, hasVarT t = false ∧ (t.kind ≠ 0 → rawT nb t = 0)
  | [], b, h => ⟨h, fun t ht => by cases ht⟩
  | t :: l, b, h => by
    obtain ⟨h1, h2⟩ := bad_all l _ h
    unfold badT at h1
    simp only [Bool.or_eq_false_iff, Bool.and_eq_false_imp, Bool.not_eq_true', beq_eq_false_iff_ne, Bool.not_eq_false', beq_iff_eq] at h1
    refine ⟨h1.1.1, fun x hx => ?_⟩
    rcases List.mem_cons.1 hx with rfl | hx
    · exact ⟨h1.1.2, h1.2⟩
    · exact h2 x hx
end Go.Lg
end
section
set_option linter.unusedSimpArgs false
set_option maxRecDepth 20000
namespace Go.Lg
open Go.Proofs.Tryz
variable {pr : Prim}
def enc8 (n : Int) : LV := .int .u8 n
def Byte (n : Int) : Prop := 0 ≤ n ∧ n ≤ 255
theorem cvB {n : Int} (h : Byte n) : convL look 5 3 (enc8 n) = some (.int .i64 n) := by
  have e : convL look 5 3 (enc8 n) = some (.int .i64 (IntKind.i64.wrap n)) := by kernel_rfl
  rw [e, wrap_in (by have := h.1; omega) (by have := h.2; omega)]
theorem iB {xs : List Int} {x : Int} {i : Nat} (hx : xs[i]? = some x) : indexAddrL look 31 (slc (xs.map enc8)) (.int .i64 i) = some (.ro [enc8 x]) :=
  index_slice (el := 5) (e := enc8 x) ud31 (by rw [List.getElem?_map, hx]; rfl) sz5
theorem lB {xs : List LV} {own : Own} {nz : Option Bool} : lenL look 31 (.slice xs own nz) = some (.int .i64 xs.length) := by simp only [lenL, ud31]
theorem iA0 {b : Nat} : indexAddrL look 32 (.ptr b 0) (.int .i64 0) = some (.ptr b 0) := by kernel_rfl
theorem iA1 {b : Nat} : indexAddrL look 32 (.ptr b 0) (.int .i64 1) = some (.ptr b 1) := by kernel_rfl
def parT (n : Int) : Term := .mk 3 n ⟨#[]⟩ []
theorem bsPar {n : Int} {own : Own} {nz : Option Bool} : buildSliceL look 23 1 [(0, .agg [.int .i64 3, .int .i64 n, .str ⟨#[]⟩, .slice [] own nz])] = some (.slice [encT (parT n)] .exact (some false)) := by
  rw [encT_eq]; kernel_rfl
theorem rem61 {n : Int} (h : Byte n) : binL look .rem 3 (.int .i64 n) (.int .i64 61) = some (.int .i64 (n % 61)) := by
  have e : binL look .rem 3 (.int .i64 n) (.int .i64 61) = some (.int .i64 (n.tmod 61)) := by kernel_rfl
  rw [e, Int.tmod_eq_emod_of_nonneg h.1]
theorem formedP_sizes {p : Proof} (h : FormedP p = 0) : sizeP p 0 ≤ 20000 ∧ levelsP p 2001 ≤ 2000 ∧ DepthP p = depthP p := by
  unfold FormedP at h
  split at h
  · rename_i e; rw [h] at e; cases e
  · rename_i e
    have e : largeP p = 0 := by simpa using e
    unfold largeP at e
    split at e
    · cases e
    · rename_i e1
      split at e
      · cases e
      · rename_i e2
        have e2 : ¬ levelsP p 2001 > 2000 := by simp at e2; omega
        have e1 : sizeP p 0 ≤ 20000 := by omega
        refine ⟨e1, by omega, ?_⟩
        unfold DepthP
        rw [if_neg (by simp; omega)]
theorem weak_law (p : Proof) (f : Int → Int) : sizeP (rebP id f p) 0 = sizeP p 0 ∧ DepthP (rebP id f p) = DepthP p :=
  ⟨sizeP_reb p (fun t _ => ⟨Sh.refl t, rfl⟩) 0, DepthP_reb fun t _ => ⟨Sh.refl t, rfl⟩⟩
theorem parL_map {l : List Int} (h : ∀ x ∈ l, Byte x) : ParL (l.map parT) := fun x hx => by
  obtain ⟨y, hy, rfl⟩ := List.mem_map.1 hx
  exact ⟨rfl, rfl, (h y hy).1, (h y hy).2, rfl⟩
theorem par_small {l : List Int} : ∀ t ∈ l.map parT, t.Small := fun x hx => by
  obtain ⟨y, hy, rfl⟩ := List.mem_map.1 hx
  exact (Term.small_iff _).2 ⟨⟨by show 0 < 1073741824; omega, by show 0 < 1073741824; omega⟩, fun x hx => by cases hx⟩
theorem par_raw {nb : ByteArray → Bool} {n : Int} (h : Byte n) : rawT nb (parT n) = 0 := by
  have h1 := h.1; have h2 := h.2
  unfold rawT
  rw [if_neg (by rw [nodesT_eq]; show ¬ nodesL [] _ _ _ > _; rw [nodesL]; omega), if_neg (by rw [deepT_eq]; simp [parT, Term.args]), if_neg]
  rw [shapedT_eq]
  simp [parT, kindBad, Term.kind, Term.n, Term.args, Term.name]
  exact ⟨decide_eq_false (by show ¬ n < 0; omega), by omega⟩
theorem par_replacing {nb : ByteArray → Bool} {l : List Int} (h : ∀ x ∈ l, Byte x) (hl : l.length ≤ 60) {by_ : Int} (hb : 0 ≤ by_ ∧ by_ ≤ 60) : replacingT nb (l.map parT) by_ = 0 := by
  unfold replacingT
  rw [if_neg (by simp; omega)]
  clear hl
  induction l with
  | nil => rfl
  | cons x l ih =>
    rw [List.map_cons, replL, par_raw (h x List.mem_cons_self), if_neg (by simp)]
    exact ih fun y hy => h y (List.mem_cons_of_mem _ hy)
theorem reh_small {a b c : Int} : ∀ t : Term, Okt t → (rehT a b c t).Small := by
  refine Term.ind fun t ih h => ?_
  have h := (okt_iff t).1 h
  rw [rehT_eq]
  refine (Term.small_iff _).2 ⟨⟨by show (List.map _ _).length < _; rw [List.length_map]; omega, h.1.2.1⟩, fun x hx => ?_⟩
  obtain ⟨y, hy, rfl⟩ := List.mem_map.1 hx
  exact ih y hy (h.2 y hy)
theorem instT_law {nb : ByteArray → Bool} {l : List Term} (hp : ParL l) (by_ : Int) {p : Proof} (hsm : p.Small) (hbad : badP nb p = false) : ∀ t ∈ trav p, (Sh t (instT l by_ t) ∧ (instT l by_ t).none = t.none) ∧ (instT l by_ t).Small := fun t ht => by
  have h := (bad_all _ _ hbad).2 t ht
  have hs := trav_small p hsm t ht
  unfold instT
  split
  · exact ⟨⟨Sh.refl t, rfl⟩, hs⟩
  · rename_i hk
    have hk : t.kind ≠ 0 := by simpa using hk
    obtain ⟨h1, h2, h3, h4, h5, h6⟩ := replT_law hp by_ hs hk (h.2 hk)
    exact ⟨⟨h1, h2⟩, reh_small _ h5⟩
theorem inst_go (hpr : NoPr pr) {nb : ByteArray → Bool} (hnb : Names pr nb) {l : List Term} (hp : ParL l) (hl : l.length < 1073741824) {o : Bool} {z : Option Bool} (by_ : Int) {p : Proof} (hsm : p.Small) (hF : FormedP p = 0) (hbad : badP nb p = false) :
    (∀ B2 B3, ∀ t ∈ trav p, t.kind ≠ 0 → ∀ σ, repS o z l by_ B2 B3 σ → EvF look pr (.func (.func 47) [] [.ptr B2 0, .ptr B3 0]) [encT t] σ (.still (.ret (encT (replT l by_ t))))) ∧ (rebP (instT l by_) id p).Small ∧ min (sizeP (rebP (instT l by_) id p) 0) 20001 ≤ 20000 := by
  refine ⟨fun B2 B3 t ht hk => ?_, reb_small p hsm fun t ht => (instT_law hp by_ hsm hbad t ht).2, ?_⟩
  · have h := (bad_all _ _ hbad).2 t ht
    have hs := trav_small p hsm t ht
    obtain ⟨h1, h2, h3, h4, h5, h6⟩ := replT_law hp by_ hs hk (h.2 hk)
    exact replacer1_ok hpr hnb l hl (fun x hx => ⟨(hp x hx).1, (hp x hx).2.1⟩) by_ B2 B3 t hs (Okt.small _ h3) h4 (Okt.narrow _ h3) (Okt.small _ h5) h6
  · rw [sizeP_reb p (fun t ht => (instT_law hp by_ hsm hbad t ht).1)]
    have := (formedP_sizes hF).1; omega
theorem fn3 : look.fnOf 3 = some fl3 := by kernel_rfl
theorem KernelNodes_ok (hpr : NoPr pr) (hsane : Ret look pr 4 [] (.bool true)) (p : Proof) (hsm : p.Small) (l : List Int) (hl : l.length < 1073741824) (hlb : ∀ x ∈ l, Byte x) (a b : Int) (ha : Byte a) (hb8 : Byte b) :
    Ret look pr 3 [encP p, slc (l.map enc8), .agg [enc8 a, enc8 b]] (.bool true) := by
  obtain ⟨nb, hnb⟩ := names_ex hpr
  refine Ret.of (fn := fl3) fn3 (hpr.at rfl) ⟨Nat.le_of_ble_eq_true rfl, Nat.le_of_ble_eq_true rfl⟩ (gargs_cons gP (gargs_cons (gslc fun _ => good_int) (gargs_cons ⟨⟨fun _ => rfl, fun _ => rfl⟩, rfl⟩ gargs_nil))) good_bool (by simp) ?_
  show WS look pr false 110 [] (bodyOf f3) _ _ _
  simp only [bodyOf, f3]
  refine WS_reg fun K gs P hK hgs hP => ?_
  refine o_box rfl rfl zP fP rP ?_
  refine o_box rfl rfl sz32 rfl rfl ?_
  refine o_as rfl rfl ?_
  refine o_nil (hK _ _ ?_); (try clear hK hP hgs K gs P)
  refine WS_reg fun K gs P hK hgs hP => ?_
  refine o_call rfl .nil hsane ?_
  refine o_as rfl rfl ?_
  refine o_nil (hK _ _ ?_); (try clear hK hP hgs K gs P)
  refine WS_seq ?_
  refine WS_regB (l1 := [(1, _), (3, _), (5, _), (7, _)]) (sub_cons rfl (sub_cons rfl (sub_cons rfl (sub_cons rfl (sub_nil))))) 24 ((!(FormedP p == 0)) || decide ((l.length : Int) > 60)) (fun K gs P hK hgs hP => ?_) ?_
  · have s3 : gs 3 = some 20 := by rw [hgs]; rfl
    refine o_ld rfl rfl (ldb (box_push_of box_push) wP) ?_
    refine o_call rfl (.cons rfl .nil) (Formed_ok hpr p hsm) ?_
    refine o_bin rfl rfl rfl neq_int ?_
    refine o_mv rfl rfl ?_
    refine o_split 20 rfl (fun e20 => ?_) (fun e20 => ?_)
    · refine o_no rfl rfl rfl s3 rfl ?_
      refine o_no rfl rfl rfl s3 rfl ?_
      refine o_no rfl rfl rfl s3 rfl ?_
      refine o_pick rfl rfl rfl ?_
      exact o_nil (hK _ (by (show some (LV.bool _) = some (LV.bool _); refine congrArg (fun b => some (LV.bool b)) ?_; first | (simp_all; done) | (simp_all; intros; omega))) (sub_cons rfl (sub_cons rfl (sub_cons rfl (sub_cons rfl (sub_nil))))))
    · refine o_yes rfl s3 rfl (o_mv rfl rfl ?_)
      refine o_yes rfl s3 rfl (o_len rfl rfl rfl lB ?_)
      refine o_yes rfl s3 rfl (o_bin rfl rfl rfl gtr_int ?_)
      refine o_pick rfl rfl rfl ?_
      exact o_nil (hK _ (by rw [List.length_map]; (show some (LV.bool _) = some (LV.bool _); refine congrArg (fun b => some (LV.bool b)) ?_; first | (simp_all; done) | (simp_all; intros; omega))) (sub_cons rfl (sub_cons rfl (sub_cons rfl (sub_cons rfl (sub_nil))))))
  refine WS_cond rfl (fun hb => ?_) (fun hb => ?_)
  · refine WS_reg fun K gs P hK hgs hP => ?_
    refine o_mv rfl rfl ?_
    refine o_as rfl rfl ?_
    refine o_nil (hK _ _ ?_); (try clear hK hP hgs K gs P)
    refine WS_ret fun tm ht => ?_
    (try simp only [thenQ, blockQ]); exact endQ_tmp ht rfl rfl
  have hF : FormedP p = 0 := by simp at hb; exact hb.1
  have hl60 : l.length ≤ 60 := by simp at hb; omega
  obtain ⟨hz1, hz2, hz3⟩ := formedP_sizes hF
  have hdep : depthP p ≤ sizeP p 0 := Int.le_trans (depthP_le p) (cntP_size p hz1)
  refine WS_skip fun tm ht => ?_
  simp only [thenQ, blockQ, if_true]; refine WS_of ?_ ht; clear ht tm
  refine WS_reg fun K gs P hK hgs hP => ?_
  refine o_ld rfl rfl (ldb (box_push_of box_push) wP) ?_
  refine o_call rfl (.cons rfl .nil) (Size_ok hpr p hsm) ?_
  refine o_as rfl rfl ?_
  refine o_nil (hK _ _ ?_); (try clear hK hP hgs K gs P)
  refine WS_reg fun K gs P hK hgs hP => ?_
  refine o_ld rfl rfl (ldb (box_push_of box_push) wP) ?_
  refine o_call rfl (.cons rfl .nil) (Depth_ok hpr p hsm) ?_
  refine o_as rfl rfl ?_
  refine o_nil (hK _ _ ?_); (try clear hK hP hgs K gs P)
  refine WS_seq ?_
  refine WS_reg fun K gs P hK hgs hP => ?_
  refine o_mv rfl rfl ?_
  refine o_mv rfl rfl ?_
  refine o_bin rfl rfl rfl gtr_int ?_
  refine o_nil (hK _ _ ?_); (try clear hK hP hgs K gs P)
  refine WS_cond rfl (fun hb => by rw [hz3] at hb; simp at hb; omega) (fun _ => ?_)
  refine WS_skip fun tm ht => ?_
  simp only [thenQ, blockQ, if_true]; refine WS_of ?_ ht; clear ht tm
  have ha' := ha
  obtain ⟨wl1, wl2⟩ := weak_law p (weakN a b)
  have wsm : (rebP id (weakN a b) p).Small := reb_small p hsm fun t ht => trav_small p hsm t ht
  refine WS_reg fun K gs P hK hgs hP => ?_
  refine o_ld rfl rfl (ldb (box_push_of box_push) wP) ?_
  refine o_ia rfl rfl rfl iA0 ?_
  refine o_ld rfl rfl (ldb box_push (pl5.trans rfl)) ?_
  refine o_conv rfl rfl (cvB ha) ?_
  refine o_ia rfl rfl rfl iA1 ?_
  refine o_ld rfl rfl (ldb box_push (pl5.trans rfl)) ?_
  refine o_conv rfl rfl (cvB hb8) ?_
  refine o_call rfl (.cons rfl (.cons rfl (.cons rfl .nil))) (Weaken_ok hpr p hsm hF a b ⟨ha.1, by have := ha.2; omega⟩ ⟨hb8.1, by have := hb8.2; omega⟩) ?_
  refine o_mv rfl rfl ?_
  refine o_ext rfl rfl rfl ?_
  refine o_ext rfl rfl rfl ?_
  refine o_al rfl zr30 rfl rfl ?_
  refine o_st rfl rfl stP ?_
  refine o_as rfl rfl ?_
  refine o_nil (hK _ _ ?_); (try clear hK hP hgs K gs P)
  refine WS_seq ?_
  refine WS_regB (l1 := [(1, _), (3, _), (5, _), (7, _), (8, _), (9, _)]) (sub_cons rfl (sub_cons rfl (sub_cons rfl (sub_cons rfl (sub_cons rfl (sub_cons rfl (sub_nil))))))) 57 false (fun K gs P hK hgs hP => ?_) ?_
  · have s2 : gs 2 = some 46 := by rw [hgs]; rfl
    have s8 : gs 8 = some 52 := by rw [hgs]; rfl
    refine o_mv rfl rfl ?_
    refine o_bin rfl rfl rfl neq_int ?_
    refine o_mv rfl rfl ?_
    refine o_yes rfl s2 rfl (o_ld rfl rfl (ldb box_put wP) ?_)
    refine o_yes rfl s2 rfl (o_call rfl (.cons rfl .nil) (Size_ok hpr _ wsm) ?_)
    refine o_yes rfl s2 rfl (o_mv rfl rfl ?_)
    refine o_yes rfl s2 rfl (o_bin rfl rfl rfl neq_int ?_)
    rw [wl1, beq_self_eq_true]
    refine o_pick rfl rfl rfl ?_
    refine o_mv rfl rfl ?_
    refine o_yes rfl s8 rfl (o_ld rfl rfl (ldb box_put wP) ?_)
    refine o_yes rfl s8 rfl (o_call rfl (.cons rfl .nil) (Depth_ok hpr _ wsm) ?_)
    refine o_yes rfl s8 rfl (o_mv rfl rfl ?_)
    refine o_yes rfl s8 rfl (o_bin rfl rfl rfl neq_int ?_)
    rw [wl2, beq_self_eq_true]
    refine o_pick rfl rfl rfl ?_
    exact o_nil (hK _ (by (show some (LV.bool _) = some (LV.bool _); refine congrArg (fun b => some (LV.bool b)) ?_; first | (simp_all; done) | (simp_all; intros; omega))) (sub_cons rfl (sub_cons rfl (sub_cons rfl (sub_cons rfl (sub_cons rfl (sub_cons rfl (sub_nil))))))))
  refine WS_cond rfl (fun hb => by cases hb) (fun _ => ?_)
  refine WS_skip fun tm ht => ?_
  simp only [thenQ, blockQ, if_true]; refine WS_of ?_ ht; clear ht tm
  refine WS_reg fun K gs P hK hgs hP => ?_
  refine o_as rfl rfl ?_
  refine o_nil (hK _ _ ?_); (try clear hK hP hgs K gs P)
  refine WS_seq ?_
  refine WS_reg fun K gs P hK hgs hP => ?_
  refine o_as rfl rfl ?_
  refine o_nil (hK _ _ ?_); (try clear hK hP hgs K gs P)
  refine WS_block ?_
  refine WS.weaken (l0 := [(1, _), (3, _), (5, _), (7, _), (8, _), (9, _), (12, _), (13, _)]) (sub_cons rfl (sub_cons rfl (sub_cons rfl (sub_cons rfl (sub_cons rfl (sub_cons rfl (sub_cons rfl (sub_cons rfl (sub_nil))))))))) ?_
  refine WS_loop (fun k ll σ => ∃ (i : Nat) (ow : Own) (nz : Option Bool), k = l.length - i ∧ ll = [(1, slc (l.map enc8)), (3, .ptr 0 0), (5, .ptr 1 0), (7, .bool true), (8, .int .i64 (min (sizeP p 0) 20001)), (9, .int .i64 (DepthP p)), (12, .slice (((l.take i).map parT).map encT) ow nz), (13, .int .i64 i)] ∧ i ≤ l.length ∧ App σ ow ∧ (ow = .exact ∨ ∃ k, ow = .tok k) ∧ boxOf σ 0 = some (30, (encP p).cells) ∧ boxOf σ 1 = some (32, [enc8 a, enc8 b])) ?_ l.length _ _ ⟨0, _, _, rfl, rfl, Nat.zero_le _, app_exact, .inl rfl, box_put_of (box_push_of box_push), box_put_of box_push⟩
  rintro k ll σ ⟨i, ow, nz, rfl, rfl, hi, hap, how, b0, b1⟩
  refine WS_seq ?_
  refine WS_reg fun K gs P hK hgs hP => ?_
  refine o_mv rfl rfl ?_
  refine o_mv rfl rfl ?_
  refine o_len rfl rfl rfl lB ?_
  rw [List.length_map]
  refine o_bin rfl rfl rfl lss_int ?_
  refine o_nil (hK _ _ ?_); (try clear hK hP hgs K gs P)
  refine WS_cond rfl (fun hb => ?_) (fun hb => ?_)
  · have hlt : i < l.length := by simp at hb; omega
    obtain ⟨x, hx, hmem, htake, _⟩ := take_one hlt
    refine WS_skip fun tm ht => ?_
    simp only [thenQ, blockQ, if_true]; refine WS_of ?_ ht; clear ht tm
    refine WS_seq ?_
    refine WS_block ?_
    refine WS_reg1 fun K gs P hK hgs hP => ?_
    refine o_mv rfl rfl ?_
    refine o_mv rfl rfl ?_
    refine o_mv rfl rfl ?_
    refine o_ia rfl rfl rfl (iB hx) ?_
    refine o_ld rfl rfl (ldr (pl5.trans rfl)) ?_
    refine o_conv rfl rfl (cvB (hlb x hmem)) ?_
    refine o_bld rfl (.cons rfl (.cons rfl .nil)) (r := .agg [.int .i64 3, .int .i64 x, .str ⟨#[]⟩, .slice [] .exact (some true)]) (by kernel_rfl) ?_
    refine o_bsl rfl (.cons rfl .nil) bsPar ?_
    refine o_app rfl (.cons rfl (.cons rfl .nil)) rfl (apT (by rw [List.length_map, List.length_take]; omega) hap) ?_
    refine o_as rfl rfl ?_
    refine o_nil (hK _ _ fun tm ht => ?_); (try clear hK hP hgs K gs P)
    simp only [thenQ, blockQ, if_true]; refine WS_of ?_ ht; clear ht tm
    refine WS_reg1 fun K gs P hK hgs hP => ?_
    refine o_mv rfl rfl ?_
    refine o_bin rfl rfl rfl add_int ?_
    rw [show IntKind.i64.wrap ((i : Int) + 1) = ((i + 1 : Nat) : Int) by rw [wrap_in (by omega) (by omega)]; omega]
    refine o_as rfl rfl ?_
    refine o_nil (hK _ _ fun tm ht => ?_); (try clear hK hP hgs K gs P)
    rw [show (l.take i).map parT ++ [parT x] = (l.take (i + 1)).map parT by rw [htake, List.map_append]; rfl] at ht
    (try simp only [thenQ, blockQ]); exact RoundTo.mk ht (l' := [(1, _), (3, _), (5, _), (7, _), (8, _), (9, _), (12, _), (13, _)]) (sub_cons rfl (sub_cons rfl (sub_cons rfl (sub_cons rfl (sub_cons rfl (sub_cons rfl (sub_cons rfl (sub_cons rfl (sub_nil))))))))) ⟨_, by omega, i + 1, _, _, rfl, rfl, by omega, app_own, .inr ⟨_, rfl⟩, box_own_of b0, box_own_of b1⟩
  have hil : i = l.length := by simp at hb; omega
  rw [hil, List.take_length]
  refine WS_exit fun tm ht => ?_
  simp only [thenQ, blockQ, if_true]; refine WS_of ?_ ht; clear ht tm
  have hpar := parL_map hlb
  have hby : 0 ≤ a % 61 ∧ a % 61 ≤ 60 := by omega
  refine WS_reg fun K gs P hK hgs hP => ?_
  refine o_ld rfl rfl (ldb b0 wP) ?_
  refine o_mv rfl rfl ?_
  refine o_ia rfl rfl rfl iA0 ?_
  refine o_ld rfl rfl (ldb b1 (pl5.trans rfl)) ?_
  refine o_conv rfl rfl (cvB ha) ?_
  refine o_bin rfl rfl rfl (rem61 ha) ?_
  have hI : Ret look pr 9 [encP p, .slice ((l.map parT).map encT) ow nz, .int .i64 (a % 61)] (.tuple [encP (if badP nb p = true then zeroP else rebP (instT (l.map parT) (a % 61)) id p), .int .i64 (if badP nb p = true then 6 else 0)]) := by
    have hll : (l.map parT).length < 1073741824 := by rw [List.length_map]; exact hl
    rcases how with rfl | ⟨k, rfl⟩
    · exact Instance_ok hpr hnb p hsm hF _ hll par_small _ (par_replacing hlb hl60 hby) (fun hbad => inst_go hpr hnb hpar hll (o := true) (z := nz) _ hsm hF hbad) (by simp only [List.map_cons, List.map_nil, gP.2]; rfl)
    · exact Instance_ok hpr hnb p hsm hF _ hll par_small _ (par_replacing hlb hl60 hby) (fun hbad => inst_go hpr hnb hpar hll (o := false) (z := nz) _ hsm hF hbad) (by simp only [List.map_cons, List.map_nil, gP.2]; rfl)
  refine o_call rfl (.cons rfl (.cons rfl (.cons rfl .nil))) hI ?_
  refine o_mv rfl rfl ?_
  refine o_ext rfl rfl rfl ?_
  refine o_ext rfl rfl rfl ?_
  refine o_al rfl zr30 rfl rfl ?_
  refine o_st rfl rfl stP ?_
  refine o_as rfl rfl ?_
  refine o_nil (hK _ _ ?_); (try clear hK hP hgs K gs P)
  refine WS_seq ?_
  refine WS_reg fun K gs P hK hgs hP => ?_
  refine o_mv rfl rfl ?_
  refine o_bin rfl rfl rfl neq_int ?_
  refine o_nil (hK _ _ ?_); (try clear hK hP hgs K gs P)
  refine WS_cond rfl (fun hb => ?_) (fun hb => ?_)
  · have hbad : badP nb p = true := by
      cases hh : badP nb p with
      | true => rfl
      | false => rw [hh] at hb; cases hb
    simp only [hbad, if_true]
    refine WS_regB (l1 := []) sub_nil 6 true (fun K gs P hK hgs hP => ?_) ?_
    · have s1 : gs 1 = some 86 := by rw [hgs]; rfl
      have s5 : gs 5 = some 90 := by rw [hgs]; rfl
      have s7 : gs 7 = some 92 := by rw [hgs]; rfl
      refine o_mv rfl rfl ?_
      refine o_mv rfl rfl ?_
      refine o_yes rfl s1 rfl (o_mv rfl rfl ?_)
      refine o_yes rfl s1 rfl (o_bin rfl rfl rfl eql_int ?_)
      rw [show ((6 : Int) == 6) = true from rfl]
      refine o_pick rfl rfl rfl ?_
      refine o_mv rfl rfl ?_
      refine o_no rfl rfl rfl s5 rfl ?_
      refine o_no rfl rfl rfl s5 rfl ?_
      refine o_not rfl rfl rfl s7 rfl ?_
      refine o_not rfl rfl rfl s7 rfl ?_
      refine o_no rfl rfl rfl s5 rfl ?_
      refine o_pick rfl rfl rfl ?_
      refine o_as rfl rfl ?_
      exact o_nil (hK _ rfl sub_nil)
    refine WS_ret fun tm ht => ?_
    (try simp only [thenQ, blockQ]); exact endQ_tmp ht rfl rfl
  have hbad : badP nb p = false := by
    cases hh : badP nb p with
    | false => rfl
    | true => rw [hh] at hb; cases hb
  have hne : ¬ badP nb p = true := by rw [hbad]; simp
  simp only [hbad, Bool.false_eq_true, if_false]
  have hlaw := instT_law hpar (a % 61) hsm hbad
  have isz : sizeP (rebP (instT (l.map parT) (a % 61)) id p) 0 = sizeP p 0 := sizeP_reb p (fun t ht => (hlaw t ht).1) 0
  have idp : DepthP (rebP (instT (l.map parT) (a % 61)) id p) = DepthP p := DepthP_reb fun t ht => (hlaw t ht).1
  have ism : (rebP (instT (l.map parT) (a % 61)) id p).Small := reb_small p hsm fun t ht => (hlaw t ht).2
  refine WS_skip fun tm ht => ?_
  simp only [thenQ, blockQ, if_true]; refine WS_of ?_ ht; clear ht tm
  refine WS_regB (l1 := []) sub_nil 6 true (fun K gs P hK hgs hP => ?_) ?_
  · have s1 : gs 1 = some 98 := by rw [hgs]; rfl
    have s7 : gs 7 = some 104 := by rw [hgs]; rfl
    refine o_mv rfl rfl ?_
    refine o_mv rfl rfl ?_
    refine o_yes rfl s1 rfl (o_ld rfl rfl (ldb box_put wP) ?_)
    refine o_yes rfl s1 rfl (o_call rfl (.cons rfl .nil) (Size_ok hpr _ ism) ?_)
    refine o_yes rfl s1 rfl (o_mv rfl rfl ?_)
    refine o_yes rfl s1 rfl (o_bin rfl rfl rfl eql_int ?_)
    rw [isz, beq_self_eq_true]
    refine o_pick rfl rfl rfl ?_
    refine o_mv rfl rfl ?_
    refine o_yes rfl s7 rfl (o_ld rfl rfl (ldb box_put wP) ?_)
    refine o_yes rfl s7 rfl (o_call rfl (.cons rfl .nil) (Depth_ok hpr _ ism) ?_)
    refine o_yes rfl s7 rfl (o_mv rfl rfl ?_)
    refine o_yes rfl s7 rfl (o_bin rfl rfl rfl eql_int ?_)
    rw [idp, beq_self_eq_true]
    refine o_pick rfl rfl rfl ?_
    refine o_as rfl rfl ?_
    exact o_nil (hK _ rfl sub_nil)
  refine WS_ret fun tm ht => ?_
  (try simp only [thenQ, blockQ]); exact endQ_tmp ht rfl rfl
end Go.Lg
end
section
namespace Go.Lg
open Go.Proofs.Tryz
theorem keepL {w0 w1 : World} {G : Gh} {lim : Nat → Nat} {σ0 : LH} (hw0 : WR G σ0 w0) (hsz : w0.heap.size ≤ w1.heap.size) (hold : ∀ B, B < w0.heap.size → w1.heap[B]? = w0.heap[B]?) (hlim : ∀ B, B < w0.heap.size → lim B = G.lim B) (hfr : ∀ B, w1.heap.size ≤ B → lim B = 0) (hnt : Nt w0 w1) :
    WR { G with lim := lim } σ0 w1 ∧ Ext w0 G w1 { G with lim := lim } := by
  have e : Ext w0 G w1 { G with lim := lim } := by
    refine ⟨⟨fun b B h => h, fun k p h => h, fun B => ?_, fun B o ho => ?_, fun B s hs => ?_, Nat.le_refl _, fun B hB => hold B (Nat.lt_of_lt_of_le hB hw0.fixh), fun B hB => hlim B (Nat.lt_of_lt_of_le hB hw0.fixh), hnt⟩, Nat.le_refl _, fun b B h => .inl h⟩
    · rcases Nat.lt_or_ge B w0.heap.size with h | h
      · show _ ≤ lim B; rw [hlim B h]; exact Nat.le_refl _
      · rw [hw0.fresh B h]; exact Nat.zero_le _
    · exact cell?_get (hold B (lim_lt hw0.toWR0 ho))
    · exact (shape?_get (hold B (shape?_lt hs))).trans hs
  refine ⟨⟨⟨fun b B hb => ?_, hw0.inj, fun b B hb => ?_, hw0.ref, hfr, fun k hk => ?_, hw0.tokinj, hw0.tokdom, hw0.top, hw0.fixm, hw0.fixt, Nat.le_trans hw0.fixh hsz⟩, hw0.full⟩, e⟩
  · obtain ⟨o, ho, hr⟩ := hw0.box b B hb
    exact ⟨o, ho, hr.ext e (hold B (hw0.low b B hb).2)⟩
  · have := hw0.low b B hb
    exact ⟨(hlim B this.2).trans this.1, by omega⟩
  · obtain ⟨B, x, h1, h2, h3, c, t, h4⟩ := hw0.tok k hk
    exact ⟨B, x, h1, (hlim B (heap_lt h4)).trans h2, h3, c, t, (hold B (heap_lt h4)).trans h4⟩
noncomputable def prS : Prim := fun g l σ => match Nat.beq g 4, l with
  | true, [] => some (.still (.ret (.bool true)))
  | _, _ => prC g l σ
theorem prS_no : NoPr prS := fun g hg l σ => by
  rw [Bool.or_eq_false_iff] at hg
  unfold prS
  rw [hg.1]
  simp only [prC, hg.2]
theorem prS_ok : PrimOK look prS := by
  intro g args σ cr h
  unfold prS at h
  split at h
  · rename_i hg
    have hg := Nat.eq_of_beq_eq_true hg
    subst hg
    injection h with h; subst h
    refine ⟨Mod.refl _, fun w G avs hw hv => ?_⟩
    have ha : avs = #[] := by
      have := hv.1
      exact Array.toList_eq_nil_iff.1 (List.length_eq_zero_iff.1 this.symm)
    subst ha
    refine ⟨?_, call4 #[] w⟩
    refine CallsIn.mono (sane_calls w G hw.fresh) fun en w' hR => ?_
    obtain ⟨rfl, lim, h1, h2, h3, h4, h5⟩ := hR
    obtain ⟨k1, k2⟩ := keepL hw h1 h2 h3 h4 h5
    exact ⟨_, rfl, _, k1, k2, .bool true⟩
  · exact prC_ok (a := fun _ _ => false) (b := fun _ => false) _ _ _ _ h
theorem sane_ret : Ret look prS 4 [] (.bool true) := fun σ => EvF.mk 0 fun m _ => by
  have : prS 4 ([] ++ [] ++ []) σ = some (.still (.ret (.bool true))) := rfl
  simp only [stepF, this]
def rowLim (w : World) (B : Nat) : Nat := match w.heap[B]? with
  | some (.cells c _ _) => c.size
  | _ => 0
def G1 (w : World) : Gh := { mu := fun _ => none, lim := rowLim w, tok := fun _ => none, top := 0, fix := w.heap.size }
theorem nodes_calls (p : Proof) (hsm : p.Small) (l : List Int) (hl : l.length < 1073741824) (hlb : ∀ x ∈ l, Byte x) (a b : Int) (ha : Byte a) (hb : Byte b) (w : World) (avs : Array Value) (hv : VRs w (G1 w) [encP p, slc (l.map enc8), .agg [enc8 a, enc8 b]] avs.toList) :
    CallsIn Fence.wide 0 prog 3 avs w (fun en w' => en = .returned (.bool true) ∧ w.heap.size ≤ w'.heap.size ∧ (∀ B, B < w.heap.size → w'.heap[B]? = w.heap[B]?) ∧ Nt w w') := by
  obtain ⟨n, hn⟩ := KernelNodes_ok prS_no sane_ret p hsm l hl hlb a b ha hb LH.new
  have hS := ((ev_sound (L := look) (lookOK _ _) prS_ok n).2 _ _ _ _ (hn n (Nat.le_refl _))).2
  have hw0 : WR (G1 w) LH.new w :=
    ⟨⟨fun b B hb => by (cases hb), fun b b' B hb => by (cases hb), fun b B hb => by (cases hb), fun b o ho => by simp [LH.new] at ho, fun B hB => by simp only [G1, rowLim]; rw [Array.getElem?_eq_none hB], fun k hk => by simp [LH.new] at hk, fun k k' B x x' hk => by simp [LH.new] at hk, fun k p hp => by (cases hp), Nat.le_refl _, fun b B hb => by (cases hb), fun k B x hk => by simp [LH.new] at hk, Nat.le_refl _⟩, fun b hb => by simp [LH.new] at hb⟩
  obtain ⟨nx, w1, hrun, hm⟩ := hS w (G1 w) (.func (.func 3) #[] #[]) avs hw0 (.func 3 [] [] #[] #[] rfl rfl (fun j x v hx => by simp at hx) (fun j x v hx => by simp at hx)) hv
  have hr2 : (callSem (.func (.func 3) #[] #[]) avs).run prog w = .ok (.enter 3 (#[] ++ avs ++ #[])) w := call_run (fs' := #[]) (cs' := #[]) (call3 _ w)
  have : (callSem (.func (.func 3) #[] #[]) avs).run prog w = .ok nx w1 := hrun
  rw [hr2] at this
  injection this with e1 e2
  subst e1; subst e2
  have ea : (#[] ++ avs ++ #[] : Array Value) = avs := by simp
  simp only [ea] at hm
  refine CallsIn.mono hm fun en w' hR => ?_
  cases en with
  | returned u =>
    obtain ⟨v, e1, G', h1, h2, h3⟩ := hR
    injection e1 with e1; subst e1
    cases h3
    exact ⟨rfl, Nat.le_trans h2.fix h1.fixh, fun B hB => h2.old B hB, h2.nat⟩
  | panicked chain => obtain ⟨v, u, e1, _⟩ := hR; cases e1
  | outgrown => exact hR.elim
end Go.Lg
end
section
namespace Go.Lg
open Go.Proofs.Tryz
open Go.Proofs.YtcdofbhflocimaaGreat.Rows (uptoBulk uptoBulkAll)
section
variable {H : Type} {enc : TypeId × Value → H} {P : Program} {w : World} {G : Gh} {hd : Bool}
theorem cells_get {base n : Nat} {a : Addr} {cs : List Value} (h : w.cells? base a n = some cs) : cs.length = n ∧ ∀ j, j < n → w.cell? (a.add j) = cs[j]? := by
  exact ⟨(World.cells?_some h).2.1, (World.cells?_some h).2.2⟩
def Rd (enc : TypeId × Value → H) (P : Program) (w : World) (G : Gh) (hd : Bool) (n : Nat) (t : TypeId) {α : Type} (f : α → List LV) (Q : α → Prop) : Prop :=
  ∀ cs d ps, DataW.trod enc P w 0 (fun _ => true) hd n t cs = some (d, ps) → ∃ y, VRs w G (f y) cs ∧ (uptoBulk d ≤ 1048576 → Q y)
theorem vrs_one {x : LV} {v : Value} (h : VR w G x v) : VRs w G [x] [v] := ⟨rfl, fun j a b ha hb => by
  cases j with
  | zero => simp at ha hb; subst ha; subst hb; exact h
  | succ j => simp at ha⟩
theorem vrs_app {xs ys : List LV} {us vs : List Value} (h : VRs w G xs us) (h' : VRs w G ys vs) : VRs w G (xs ++ ys) (us ++ vs) := by
  refine ⟨by simp [h.1, h'.1], fun j x v hx hv => ?_⟩
  rw [List.getElem?_append] at hx hv
  rw [h.1] at hx
  by_cases hj : j < us.length
  · rw [if_pos hj] at hx hv; exact h.2 j x v hx hv
  · rw [if_neg hj] at hx hv; exact h'.2 _ x v hx hv
theorem rd_int {n : Nat} {t : TypeId} {k : IntKind} (ht : P.underlying t = some (.int k)) : Rd enc P w G hd n t (fun x : Int => [.int k x]) (fun x => (Lit.int k x).wf = true) := by
  intro cs d ps h
  obtain ⟨x, rfl, h2, h3⟩ := DataW.trod_int ht h
  exact ⟨x, vrs_one (.int k x), fun _ => h3⟩
theorem rd_str {n : Nat} {t : TypeId} (ht : P.underlying t = some .string) : Rd enc P w G hd n t (fun x : ByteArray => [.str x]) (fun x => x.size < 1073741824) := by
  intro cs d ps h
  obtain ⟨s, rfl, h2, h3⟩ := DataW.trod_string ht h
  injection h2 with h2 h4
  refine ⟨s, vrs_one (.str s), fun hb => ?_⟩
  rw [h2] at hb
  simp only [uptoBulk, Array.length_toList] at hb
  have : s.size = s.data.size := rfl
  omega
theorem Rd.map {α β : Type} {n : Nat} {t : TypeId} {f : α → List LV} {g : β → List LV} {Q : α → Prop} {R : β → Prop} (h : Rd enc P w G hd n t f Q) (m : α → β) (he : ∀ x, g (m x) = f x) (hq : ∀ x, Q x → R (m x)) : Rd enc P w G hd n t g R := by
  intro cs d ps hh
  obtain ⟨y, h1, h2⟩ := h cs d ps hh
  exact ⟨m y, he y ▸ h1, fun hb => hq _ (h2 hb)⟩
theorem bulk_mem {d : DataW H} {l : List (DataW H)} (h : d ∈ l) : uptoBulk d ≤ uptoBulkAll l := by
  induction l with
  | nil => cases h
  | cons x r ih =>
    simp only [uptoBulkAll]
    rcases List.mem_cons.1 h with e | e
    · subst e; omega
    · have := ih e; omega
theorem bulk_pos (d : DataW H) : 1 ≤ uptoBulk d := by
  cases d with
  | lit l => cases l <;> simp [uptoBulk]
  | nil => simp [uptoBulk]
  | ptr d => simp [uptoBulk]
  | slice elems spare => simp [uptoBulk]
  | agg parts => simp [uptoBulk]
  | iface t d => simp [uptoBulk]
  | map entries => simp [uptoBulk]
  | held h => simp [uptoBulk]
theorem bulk_len (l : List (DataW H)) : l.length ≤ uptoBulkAll l := by
  induction l with
  | nil => simp [uptoBulkAll]
  | cons x r ih => have := bulk_pos x; simp only [uptoBulkAll, List.length_cons]; omega
theorem choose_list {α : Type} (n : Nat) {p : Nat → α → Prop} (h : ∀ i, i < n → ∃ y, p i y) : ∃ l : List α, l.length = n ∧ ∀ (i : Nat) (y : α), l[i]? = some y → p i y := by
  induction n with
  | zero => exact ⟨[], rfl, fun i y hy => by simp at hy⟩
  | succ n ih =>
    obtain ⟨l, h1, h2⟩ := ih fun i hi => h i (by omega)
    obtain ⟨y, hy⟩ := h n (by omega)
    refine ⟨l ++ [y], by simp [h1], fun i z hz => ?_⟩
    rw [List.getElem?_append] at hz
    by_cases hi : i < l.length
    · rw [if_pos hi] at hz; exact h2 i z hz
    · rw [if_neg hi] at hz
      have : i - l.length = 0 := by
        rcases Nat.eq_zero_or_pos (i - l.length) with e | e
        · exact e
        · rw [List.getElem?_eq_none (by simp; omega)] at hz; cases hz
      rw [this] at hz
      simp at hz
      subst hz
      have : i = n := by omega
      exact this ▸ hy
theorem rd_slice {α : Type} {n : Nat} {t e : TypeId} {s : Nat} {g : α → LV} {Q : α → Prop} (hlim : ∀ a v, w.cell? a = some v → a.off < G.lim a.block) (ht : P.underlying t = some (.slice e)) (hs : P.cellsOf e = s) (hpos : 0 < s) (hg : ∀ y, (g y).wd = s ∧ (g y).flat = true)
    (he : ∀ m, m < n → Rd enc P w G hd m e (fun y => (g y).cells) Q) : Rd enc P w G hd n t (fun l : List α => [slc (l.map g)]) (fun l => l.length < 1073741824 ∧ ∀ y ∈ l, Q y) := by
  intro cs d ps h
  rcases DataW.trod_slice ht h with ⟨rfl, h2⟩ | ⟨a, len, m, elems, rest, n', hn, rfl, h4, h0, h1, h2, hlen, hel, hsp, hns⟩
  · refine ⟨[], vrs_one ?_, fun _ => ⟨by simp, fun y hy => by cases hy⟩⟩
    exact .slice [] .none none none 0 s (fun _ _ => .nilIface) (Nat.le_refl _) (fun b hb => by cases hb) (fun _ => ⟨rfl, rfl⟩) (fun A hA => by cases hA) (fun x hx => by cases hx) trivial (fun A i x j c hA => by cases hA) (fun i x j c hx => by simp at hx)
  · obtain ⟨h4, _⟩ := Prod.mk.inj h4
    have hsp := hsp rfl
    have cellA : ∀ {i : Nat} {x : DataW H × List MemPlace}, (w.cells? 0 (a.add (i * P.cellsOf e)) (P.cellsOf e)).bind (DataW.trod enc P w 0 (fun _ => true) hd n' e) = some x → ∃ cs', w.cells? 0 (a.add (i * s)) s = some cs' ∧ DataW.trod enc P w 0 (fun _ => true) hd n' e cs' = some x := fun {i x} hh => by
      rw [hs] at hh
      exact Option.bind_eq_some_iff.1 hh
    obtain ⟨l, hl, hl2⟩ := choose_list len (p := fun i y => ∃ cs' D, elems[i]? = some D ∧ w.cells? 0 (a.add (i * s)) s = some cs' ∧ VRs w G (g y).cells cs' ∧ (uptoBulk D.1 ≤ 1048576 → Q y)) fun i hi => by
      have := hel i hi
      rw [List.getElem?_eq_getElem (by omega)] at this
      obtain ⟨cs', k1, k2⟩ := cellA this
      obtain ⟨y, k3, k4⟩ := he n' (by omega) _ _ _ k2
      exact ⟨y, cs', elems[i], List.getElem?_eq_getElem (by omega), k1, k3, k4⟩
    have spotA : ∀ {i : Nat} {cs' : List Value}, w.cells? 0 (a.add (i * s)) s = some cs' → (a.add (i * s)).spot = none := fun {i cs'} k1 => by
      obtain ⟨k3, k4⟩ := cells_get k1
      have := k4 0 (by omega)
      have e1 : (a.add (i * s)).add 0 = a.add (i * s) := by simp [Addr.add]
      rw [e1] at this
      have hs0 : cs'[0]? ≠ none := by rw [List.getElem?_eq_getElem (by omega)]; simp
      rw [← this] at hs0
      unfold World.cell? at hs0
      split at hs0
      · split at hs0
        · exact absurd rfl hs0
        · rename_i hh; simpa using hh
      · exact absurd rfl hs0
    have hsp : m = 0 ∨ a.spot = none := by
      rcases Nat.eq_zero_or_pos m with e0 | e0
      · exact .inl e0
      · right
        have h00 : a.add (0 * s) = a := by simp [Addr.add]
        rcases Nat.eq_zero_or_pos len with e1 | e1
        · have := hsp.2 0 (by omega)
          rw [e1, Nat.zero_add, List.getElem?_eq_getElem (by omega)] at this
          obtain ⟨cs', k1, _⟩ := cellA this
          exact h00 ▸ spotA k1
        · have := hel 0 e1
          rw [List.getElem?_eq_getElem (by omega)] at this
          obtain ⟨cs', k1, _⟩ := cellA this
          exact h00 ▸ spotA k1
    refine ⟨l, vrs_one ?_, fun hb => ?_⟩
    · have key : ∀ (i : Nat) (x : LV) (j : Nat) (c : LV), (l.map g)[i]? = some x → x.cells[j]? = some c → ∃ u, w.cell? ⟨a.block, a.off + i * s + j, none⟩ = some u ∧ VR w G c u := by
        intro i x j c hx hc
        rw [List.getElem?_map] at hx
        obtain ⟨y, hy, rfl⟩ := Option.map_eq_some_iff.1 hx
        obtain ⟨cs', _, _, k1, k2, _⟩ := hl2 i y hy
        obtain ⟨k3, k4⟩ := cells_get k1
        have hj : j < cs'.length := by rw [← k2.1]; exact (List.getElem?_eq_some_iff.1 hc).1
        have hsp' : a.spot = none := by
          rcases hsp with e | e
          · have := (List.getElem?_eq_some_iff.1 hy).1; omega
          · exact e
        refine ⟨cs'[j], ?_, k2.2 j c _ hc (by simp [hj])⟩
        rw [addr_add hsp'] at k4
        have := k4 j (by omega)
        rw [addr_add rfl] at this
        rw [this]; simp [hj]
      let fv : Nat → Nat → Value := fun i j => (w.cell? ⟨a.block, a.off + i * s + j, none⟩).getD .nilIface
      have : VR w G (.slice (l.map g) .none none) (.slice (some a) (l.map g).length m) := by
        refine .slice (l.map g) .none none (some a) m s fv (by simp [hl]; omega) (fun b hb => by cases hb) (fun hA => by cases hA) (fun A hA => by injection hA with hA; subst hA; exact hsp) (fun x hx => ?_) trivial (fun A i x j c hA hx hc => ?_) (fun i x j c hx hc => ?_)
        · obtain ⟨y, _, rfl⟩ := List.mem_map.1 hx; exact hg y
        · injection hA with hA; subst hA
          obtain ⟨u, k1, k2⟩ := key i x j c hx hc
          exact ⟨hlim _ _ k1, by rw [k1]; simp [fv, k1]⟩
        · obtain ⟨u, k1, k2⟩ := key i x j c hx hc
          simpa [fv, k1] using k2
      simpa [slc, hl] using this
    · rw [h4] at hb
      simp only [uptoBulk] at hb
      have hbl := bulk_len (elems.map (·.1))
      rw [List.length_map] at hbl
      refine ⟨by omega, fun y hy => ?_⟩
      obtain ⟨i, hi⟩ := List.mem_iff_getElem?.1 hy
      obtain ⟨cs', D, k0, _, _, k⟩ := hl2 i y hi
      refine k ?_
      have := bulk_mem (List.mem_map.2 ⟨D, List.mem_of_getElem? k0, rfl⟩ : D.1 ∈ elems.map (·.1))
      omega
def RdF (enc : TypeId × Value → H) (P : Program) (w : World) (G : Gh) (hd : Bool) (n : Nat) (N o : Nat) (fs : List Field) {α : Type} (f : α → List LV) (Q : α → Prop) : Prop :=
  ∀ (cs : List Value) (xs : List (DataW H × List MemPlace)), cs.length = N → xs.length = fs.length → (∀ (i : Nat) (fd : Field), fs[i]? = some fd → DataW.trod enc P w 0 (fun _ => true) hd n fd.type ((cs.drop fd.offset).take (P.cellsOf fd.type)) = xs[i]?) →
    ∃ y, VRs w G (f y) (cs.drop o) ∧ (uptoBulkAll (xs.map (·.1)) ≤ 1048576 → Q y)
theorem rdf_nil {n N : Nat} : RdF enc P w G hd n N N [] (fun _ : Unit => []) (fun _ => True) := by
  intro cs xs hl hx h
  refine ⟨(), ?_, fun _ => trivial⟩
  rw [List.drop_eq_nil_of_le (by omega)]
  exact ⟨rfl, fun j x v hx => by simp at hx⟩
theorem rdf_cons {α β : Type} {n N o s : Nat} {fd : Field} {fs : List Field} {f : α → List LV} {Q : α → Prop} {g : β → List LV} {R : β → Prop} (ho : fd.offset = o) (hs : P.cellsOf fd.type = s) (h1 : Rd enc P w G hd n fd.type f Q) (h2 : RdF enc P w G hd n N (o + s) fs g R) :
    RdF enc P w G hd n N o (fd :: fs) (fun z : α × β => f z.1 ++ g z.2) (fun z => Q z.1 ∧ R z.2) := by
  intro cs xs hl hx h
  match xs, hx with
  | x :: xs, hx =>
    have e0 := h 0 fd rfl
    rw [List.getElem?_cons_zero, ho, hs] at e0
    obtain ⟨y, k1, k2⟩ := h1 _ x.1 x.2 e0
    obtain ⟨z, k3, k4⟩ := h2 cs xs hl (by simpa using hx) fun i fd' hi => by simpa using h (i + 1) fd' hi
    refine ⟨(y, z), ?_, fun hb => ?_⟩
    · have : cs.drop o = (cs.drop o).take s ++ cs.drop (o + s) := by rw [← List.drop_drop]; exact (List.take_append_drop _ _).symm
      rw [this]
      exact vrs_app k1 k3
    · simp only [List.map_cons, uptoBulkAll] at hb
      exact ⟨k2 (by omega), k4 (by omega)⟩
theorem rd_struct {α : Type} {n N : Nat} {t : TypeId} {fs : Array Field} {f : α → List LV} {Q : α → Prop} (ht : P.underlying t = some (.struct fs)) (hN : P.cellsOf t = N) (h : ∀ m, m < n → RdF enc P w G hd m N 0 fs.toList f Q) : Rd enc P w G hd n t f Q := by
  intro cs d ps hh
  obtain ⟨xs, m, hm, h2, hl, hlen, hf⟩ := DataW.trod_struct ht hh
  obtain ⟨h2, _⟩ := Prod.mk.inj h2
  obtain ⟨y, k1, k2⟩ := h m (by omega) cs xs (by omega) (by simpa using hlen) (by simpa using hf)
  refine ⟨y, by simpa using k1, fun hb => k2 ?_⟩
  rw [h2] at hb
  simp only [uptoBulk] at hb
  omega
end
end Go.Lg
end
section
set_option maxRecDepth 100000
namespace Go.Lg
open Go.Proofs.Tryz
open Go.Proofs.YtcdofbhflocimaaGreat.Rows (uptoBulk uptoBulkAll)
theorem co3 : prog.cellsOf 3 = 1 := by kernel_rfl
theorem co5 : prog.cellsOf 5 = 1 := by kernel_rfl
theorem co9 : prog.cellsOf 9 = 1 := by kernel_rfl
theorem co22 : prog.cellsOf 22 = 1 := by kernel_rfl
theorem co23 : prog.cellsOf 23 = 1 := by kernel_rfl
theorem co25 : prog.cellsOf 25 = 4 := by kernel_rfl
theorem co26 : prog.cellsOf 26 = 1 := by kernel_rfl
theorem co27 : prog.cellsOf 27 = 1 := by kernel_rfl
theorem co28 : prog.cellsOf 28 = 1 := by kernel_rfl
theorem co30 : prog.cellsOf 30 = 10 := by kernel_rfl
theorem co32 : prog.cellsOf 32 = 2 := by kernel_rfl
theorem co62 : prog.cellsOf 62 = 3 := by kernel_rfl
theorem co64 : prog.cellsOf 64 = 6 := by kernel_rfl
section
variable {H : Type} {enc : TypeId × Value → H} {w : World} {G : Gh} {hd : Bool}
theorem rd_num {n : Nat} : Rd enc prog w G hd n 3 (fun x : Int => [encN x]) (fun _ => True) := (rd_int underlying3).map id (fun _ => rfl) fun _ _ => trivial
theorem rd_nums {n : Nat} (hlim : ∀ a v, w.cell? a = some v → a.off < G.lim a.block) : Rd enc prog w G hd n 22 (fun x : List Int => [slc (x.map encN)]) (fun l => l.length < 1073741824) :=
  (rd_slice (g := encN) hlim underlying22 co3 (by omega) (fun y => ⟨rfl, rfl⟩) fun m _ => rd_num).map id (fun _ => rfl) fun _ h => h.1
theorem rd_term (hlim : ∀ a v, w.cell? a = some v → a.off < G.lim a.block) : ∀ n, Rd enc prog w G hd n 25 (fun x : Term => (encT x).cells) Term.Small := by
  intro n
  induction n using Nat.strongRecOn with
  | ind n ih =>
    refine Rd.map (rd_struct underlying25 co25 fun m hm => rdf_cons rfl co3 rd_num (rdf_cons rfl co3 rd_num (rdf_cons rfl co9 (rd_str underlying9) (rdf_cons rfl co23 (rd_slice (g := encT) hlim underlying23 co25 (by omega) (fun y => ⟨encT_wd y, encT_flat y⟩) fun k hk => ih k (by omega)) rdf_nil)))) (fun z => .mk z.1 z.2.1 z.2.2.1 z.2.2.2.1) (fun z => ?_) fun z hz => ?_
    · rw [encT_cells]; rfl
    · exact (Term.small_iff _).2 ⟨⟨hz.2.2.2.1.1, hz.2.2.1⟩, hz.2.2.2.1.2⟩
theorem rd_terms {n : Nat} (hlim : ∀ a v, w.cell? a = some v → a.off < G.lim a.block) : Rd enc prog w G hd n 23 (fun x : List Term => [slc (x.map encT)]) (fun l => l.length < 1073741824 ∧ ∀ t ∈ l, t.Small) :=
  rd_slice (g := encT) hlim underlying23 co25 (by omega) (fun y => ⟨encT_wd y, encT_flat y⟩) fun k hk => rd_term hlim k
theorem rd_move {n : Nat} (hlim : ∀ a v, w.cell? a = some v → a.off < G.lim a.block) : Rd enc prog w G hd n 62 (fun x : Move => (encM x).cells) Move.Small :=
  Rd.map (rd_struct underlying62 co62 fun m hm => rdf_cons rfl co3 rd_num (rdf_cons rfl co23 (rd_terms hlim) (rdf_cons rfl co22 (rd_nums hlim) rdf_nil))) (fun z => .mk z.1 z.2.1 z.2.2.1) (fun z => rfl) fun z hz => ⟨hz.2.1.1, hz.2.2.1, hz.2.1.2⟩
theorem rd_proof (hlim : ∀ a v, w.cell? a = some v → a.off < G.lim a.block) : ∀ n, Rd enc prog w G hd n 30 (fun x : Proof => (encP x).cells) Proof.Small := by
  intro n
  induction n using Nat.strongRecOn with
  | ind n ih =>
    have hL : ∀ m, m ≤ n → Rd enc prog w G hd m 28 (fun x : List Proof => [slc (x.map encP)]) (fun l => l.length < 1073741824 ∧ ∀ p ∈ l, p.Small) := fun m hm =>
      rd_slice (g := encP) hlim underlying28 co30 (by omega) (fun y => ⟨encP_wd y, encP_flat y⟩) fun k hk => ih k (by omega)
    have hU : ∀ m, m ≤ n → Rd enc prog w G hd m 64 (fun x : Turn => (encU x).cells) (fun u => u.term.Small ∧ u.l.length < 1073741824 ∧ ∀ p ∈ u.l, p.Small) := fun m hm =>
      Rd.map (rd_struct underlying64 co64 fun k hk => rdf_cons rfl co3 rd_num (rdf_cons rfl co25 (rd_term hlim k) (rdf_cons rfl co28 (hL k (by omega)) rdf_nil))) (fun z => .mk z.1 z.2.1 z.2.2.1) (fun z => by rw [encU_eq, encT_cells]; rfl) fun z hz => ⟨hz.2.1, hz.2.2.1.1, hz.2.2.1.2⟩
    refine Rd.map (rd_struct underlying30 co30 fun m hm => rdf_cons rfl co3 rd_num (rdf_cons rfl co3 rd_num (rdf_cons rfl co22 (rd_nums hlim) (rdf_cons rfl co25 (rd_term hlim m) (rdf_cons rfl co26
      (rd_slice (g := encU) hlim underlying26 co64 (by omega) (fun y => ⟨by rw [encU_eq]; rfl, by rw [encU_eq]; rfl⟩) fun k hk => hU k (by omega)) (rdf_cons rfl co27 (rd_slice (g := encM) hlim underlying27 co62 (by omega) (fun y => ⟨rfl, rfl⟩) fun k hk => rd_move hlim)
      (rdf_cons rfl co28 (hL m (by omega)) rdf_nil)))))))
      (fun z => .mk z.1 z.2.1 z.2.2.1 z.2.2.2.1 z.2.2.2.2.1 z.2.2.2.2.2.1 z.2.2.2.2.2.2.1) (fun z => ?_) fun z hz => ?_
    · rw [encP_cells, encT_cells]; rfl
    · obtain ⟨-, -, h3, h4, ⟨h5, h5'⟩, ⟨h6, h6'⟩, ⟨h7, h7'⟩, -⟩ := hz
      refine (Proof.small_iff _).2 ⟨⟨h3, h4, h5, fun u hu => ⟨(h5' u hu).1, (h5' u hu).2.1⟩, h6, h6', h7⟩, fun x hx => ?_⟩
      rcases List.mem_append.1 hx with hx | hx
      · obtain ⟨u, hu, hx⟩ := List.mem_flatMap.1 hx
        exact (h5' u hu).2.2 x hx
      · exact h7' x hx
theorem wf_u8 {x : Int} (h : (Lit.int .u8 x).wf = true) : 0 ≤ x ∧ x ≤ 255 := by simpa [Lit.wf, IntKind.min, IntKind.max, IntKind.signed, IntKind.bits] using h
theorem rd_byte {n : Nat} : Rd enc prog w G hd n 5 (fun x : Int => [.int .u8 x]) (fun x => 0 ≤ x ∧ x ≤ 255) := (rd_int underlying5).map id (fun _ => rfl) fun _ h => wf_u8 h
theorem rd_bytes {n : Nat} (hlim : ∀ a v, w.cell? a = some v → a.off < G.lim a.block) : Rd enc prog w G hd n 31 (fun x : List Int => [slc (x.map fun n => .int .u8 n)]) (fun l => l.length < 1073741824 ∧ ∀ x ∈ l, 0 ≤ x ∧ x ≤ 255) :=
  rd_slice (g := fun n => .int .u8 n) hlim underlying31 co5 (by omega) (fun y => ⟨rfl, rfl⟩) fun m _ => rd_byte
theorem rd_two {n : Nat} : Rd enc prog w G hd n 32 (fun x : Int × Int => [.int .u8 x.1, .int .u8 x.2]) (fun x => (0 ≤ x.1 ∧ x.1 ≤ 255) ∧ 0 ≤ x.2 ∧ x.2 ≤ 255) := by
  intro cs d ps h
  obtain ⟨xs, m, _, h2, hl, hlen, hf⟩ := DataW.trod_array underlying32 h
  rw [co32] at hl
  match cs, hl with
  | [c0, c1], _ =>
    match xs, hlen with
    | [x0, x1], _ =>
      have e0 := hf 0 (by omega)
      have e1 := hf 1 (by omega)
      simp only [co5, Nat.zero_mul, List.drop_zero, Nat.one_mul, List.drop_succ_cons, List.take_succ_cons, List.take_zero, List.getElem?_cons_zero, List.getElem?_cons_succ] at e0 e1
      obtain ⟨a, k1, _, k3⟩ := DataW.trod_int underlying5 e0
      obtain ⟨b, l1, _, l3⟩ := DataW.trod_int underlying5 e1
      injection k1 with k1; injection l1 with l1
      subst k1; subst l1
      exact ⟨(a, b), vrs_app (vrs_one (.int _ a)) (vrs_one (.int _ b)), fun _ => ⟨wf_u8 k3, wf_u8 l3⟩⟩
end
end Go.Lg
end
section
namespace Go.Proofs.YtcdofbhflocimaaGreat.kernelNodes
open Go.ChangeShapes Go.WideShapes Go.ChangeAt Go.RowKit Go.Lg
theorem own : ownKnob Tryz.prog.godebug = none := by kernel_rfl
theorem laid : laidOutB Tryz.prog = true := by kernel_rfl
theorem rr30 : Tryz.prog.readableRec 30 = true := by kernel_rfl
theorem rr31 : Tryz.prog.readableRec 31 = true := by kernel_rfl
theorem rr32 : Tryz.prog.readableRec 32 = true := by kernel_rfl
theorem lt30 : 30 < Tryz.prog.types.size := of_decide_eq_true (by kernel_rfl)
theorem lt31 : 31 < Tryz.prog.types.size := of_decide_eq_true (by kernel_rfl)
theorem lt32 : 32 < Tryz.prog.types.size := of_decide_eq_true (by kernel_rfl)
theorem row_lim (w : World) : ∀ a v, w.cell? a = some v → a.off < (G1 w).lim a.block := by
  intro a v h
  simp only [G1, rowLim]
  unfold World.cell? at h
  split at h
  · rename_i c t f hh
    rw [hh]
    split at h
    · cases h
    · exact (Array.getElem?_eq_some_iff.1 h).1
  · cases h
theorem kept {w w' : World} (hsz : w.heap.size ≤ w'.heap.size) (hold : ∀ B, B < w.heap.size → w'.heap[B]? = w.heap[B]?) (hn : Nt w w') (may : MemPlace → Prop) : w.keptBut w' may := by
  refine ⟨hn.1, hn.2.1, fun i hi => ?_⟩
  rw [hold i hi]
  split
  · rename_i h1 h2
    rw [h1] at h2; injection h2 with h2; injection h2 with a b c
    subst a; subst b; subst c
    exact ⟨rfl, rfl, rfl, fun _ _ => rfl⟩
  · rename_i h1 h2
    rw [h1] at h2; injection h2 with h2; injection h2 with a b
    subst a; subst b
    exact .inr ⟨rfl, rfl⟩
  · rfl
end Go.Proofs.YtcdofbhflocimaaGreat.kernelNodes
end
