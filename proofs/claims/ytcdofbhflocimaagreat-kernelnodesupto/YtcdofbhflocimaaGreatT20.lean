/- Part 20 of the proof: C22 C23 C24 C25 C26 C27 C28. By AI agents; no person has read it. -/
import Derived.Test.YtcdofbhflocimaaGreatT19
import Derived.Test.YtcdofbhflocimaaGreatT16
set_option linter.unusedVariables false
set_option linter.unusedSimpArgs false
set_option linter.unusedSectionVars false
section
set_option linter.unusedSimpArgs false
set_option maxRecDepth 20000
namespace Go.Lg
open Go.Proofs.Tryz
variable {pr : Prim} {o : Bool} {z : Option Bool}
theorem fn50 : look.fnOf 50 = some fl50 := by kernel_rfl
def redS (b : Nat) (τ : LH) : Prop := ∃ y, boxOf τ b = some y
theorem redS_low {b : Nat} (τ τ' : LH) (h : ∀ b, b < τ.len → τ'.boxes[b]? = τ.boxes[b]?) (hS : redS b τ) : redS b τ' := hS.imp fun y hy => box_same hy (h _ (box_lt hy))
def putT (l : List Term) (t : Term) : Term := walkT (putHd l) t 0
theorem put_ok (hpr : NoPr pr) (l : List Term) (hl : l.length < 1073741824) (hpar : ∀ x ∈ l, x.kind = 3 ∧ x.args = []) (b : Nat) (t : Term) (hnar : Narrow t) : ∀ σ, redS b σ →
    EvF look pr (.func (.func 50) [] []) [.ptr b 0, encT t, slcX o z (l.map encT)] σ (.still (.ret (encT (putT l t)))) := by
  refine EvO (L := look) (pr := pr) (g := 50) (fn := fl50) (fs := []) (args := [.ptr b 0, encT t, slcX o z (l.map encT)]) (cs := []) (v := encT (putT l t)) (S := redS b) fn50 (hpr.at rfl) ⟨Nat.le_of_ble_eq_true rfl, Nat.le_of_ble_eq_true rfl⟩ (by simp [LV.refsOK, LV.argC, LV.canonA, LV.disown, LV.refOK]) (by rw [encT_eq]; rfl) (encT_good _) (by rw [encT_eq]; simp) (fun σ ws h => redS_low σ _ (fun b _ => rfl) h) ?_
  intro σ0 hS0 hws
  have hFo : Fo σ0 σ0 := Fo.refl hws
  obtain ⟨y, hy⟩ := hS0
  have hb : b < σ0.len + 1 := Nat.lt_succ_of_lt (box_lt hy)
  generalize hfin : (endM look fl50.results fun out σ' => out.fin = .ret (encT (putT l t)) ∧ Fo σ0 σ') = QQ
  show WS look pr false 11 [] (bodyOf f50) _ _ _
  simp only [bodyOf, f50]
  refine WS_reg fun K gs P hK hgs hP => ?_
  refine o_boxR rfl rfl sz104 rfl (by simp [LV.refOK, hb]) ?_
  refine o_box rfl rfl zT fT rT ?_
  refine o_box rfl rfl sz23 rfl (refS encT_good) ?_
  refine o_al rfl zr25 rfl rfl ?_
  refine o_nil (hK _ _ ?_); (try clear hK hP hgs K gs P)
  refine WS_reg fun K gs P hK hgs hP => ?_
  refine o_ld rfl rfl (ldb (box_push_of (box_push_of (box_push_of (box_push)))) (pl104.trans rfl)) ?_
  refine o_ld rfl rfl (ldb (box_push_of (box_push_of (box_push))) wT) ?_
  refine o_mkf rfl .nil (.cons rfl (.cons rfl .nil)) ?_
  refine o_callv rfl rfl (.cons rfl (.cons rfl (.cons rfl (.cons rfl .nil)))) (walk_ok hpr b (hpr.at rfl) (S := putS o z l b _ _) rfl putS_low (fun t k σ ha hn hS => put1_ok hpr l hpar b _ _ t k ha hn σ hS) t hnar 0 _ ⟨box_push_of box_push, box_push_of (box_push_of (box_push_of box_push))⟩) rfl ?_
  refine o_st rfl rfl (store_box box_push sz25 (encT_wd _) (Nat.le_of_ble_eq_true rfl) (encT_flat _) rT) ?_
  refine o_nil (hK _ _ ?_); (try clear hK hP hgs K gs P)
  refine WS_ret fun tm ht => ?_
  (try simp only [thenQ, blockQ]); rw [← hfin]
  refine endM_cell ht rfl .nil (ldb (box_upd' box_push) (show partL look 25 _ _ = some (encT (putT l t)) by rw [pl25, encT_cells, encT_eq]; rfl)) ⟨by rw [encT_eq]; rfl, hFo.push.push.push.push.upd (by simp only [push_len]; omega)⟩
end Go.Lg
end
section
set_option linter.unusedSimpArgs false
set_option maxRecDepth 20000
namespace Go.Lg
open Go.Proofs.Tryz
variable {pr : Prim} {o : Bool} {z : Option Bool}
theorem fn31 : look.fnOf 31 = some fl31 := by kernel_rfl
theorem replacer_call (hpr : NoPr pr) (l : List Term) (by_ : Int) (σ : LH) :
    EvF look pr (.func (.func 31) [] []) [slcX o z (l.map encT), .int .i64 by_] σ (.moved (.ret (.func (.func 47) [] [.ptr σ.len 0, .ptr (σ.len + 1) 0])) { boxes := σ.boxes ++ [.cells 23 [slcX o z (l.map encT)], .cells 3 [.int .i64 by_]], toks := σ.toks, ws := σ.ws }) := by
  refine EvF_clo (fn := fl31) (fcs := fun n => [.ptr n 0, .ptr (n + 1) 0]) (os := [.cells 23 [slcX o z (l.map encT)], .cells 3 [.int .i64 by_]]) fn31 (hpr.at rfl) ⟨Nat.le_of_ble_eq_true rfl, Nat.le_of_ble_eq_true rfl⟩ (fun x hx => by
    simp only [List.mem_cons, List.not_mem_nil, or_false] at hx
    rcases hx with rfl | rfl
    · exact ⟨(gslcX encT_good).1, (gslcX encT_good).2, rfl⟩
    · exact ⟨good_int, rfl, rfl⟩) (fun n => by simp [LV.refsOK, LV.refOK]) ?_ σ
  intro σ hws
  show WS look pr false 6 [] (bodyOf f31) _ _ _
  simp only [bodyOf, f31]
  refine WS_reg fun K gs P hK hgs hP => ?_
  refine o_box rfl rfl sz23 rfl (refS encT_good) ?_
  refine o_box rfl rfl sz3 rfl rfl ?_
  refine o_as rfl rfl ?_
  refine o_nil (hK _ _ ?_); (try clear hK hP hgs K gs P)
  refine WS_reg fun K gs P hK hgs hP => ?_
  refine o_mkf rfl .nil (.cons rfl (.cons rfl .nil)) ?_
  refine o_as rfl rfl ?_
  refine o_nil (hK _ _ ?_); (try clear hK hP hgs K gs P)
  refine WS_ret fun tm ht => ?_
  (try simp only [thenQ, blockQ]); refine endQ_tmp ht rfl ⟨by rw [push_len], ?_⟩
  simp only [LH.push, hws, List.append_assoc]; rfl
theorem fn47 : look.fnOf 47 = some fl47 := by kernel_rfl
def repS (o : Bool) (z : Option Bool) (l : List Term) (by_ : Int) (B1 B2 : Nat) (τ : LH) : Prop := boxOf τ B1 = some (23, [slcX o z (l.map encT)]) ∧ boxOf τ B2 = some (3, [.int .i64 by_])
theorem repS_low {l : List Term} {by_ : Int} {B1 B2 : Nat} (τ τ' : LH) (h : ∀ b, b < τ.len → τ'.boxes[b]? = τ.boxes[b]?) (hS : repS o z l by_ B1 B2 τ) : repS o z l by_ B1 B2 τ' := ⟨box_same hS.1 (h _ (box_lt hS.1)), box_same hS.2 (h _ (box_lt hS.2))⟩
def replT (l : List Term) (by_ : Int) (t : Term) : Term := rehT 4 3 (IntKind.i64.wrap (by_ - l.length)) (putT l (rehT 3 4 0 t))
theorem replacer1_ok (hpr : NoPr pr) {nb : ByteArray → Bool} (hnb : Names pr nb) (l : List Term) (hl : l.length < 1073741824) (hpar : ∀ x ∈ l, x.kind = 3 ∧ x.args = []) (by_ : Int) (B1 B2 : Nat) (t : Term)
    (hsm : t.Small) (hsm1 : (rehT 3 4 0 t).Small) (hraw : rawT nb (rehT 3 4 0 t) = 0) (hnar : Narrow (rehT 3 4 0 t)) (hsm2 : (putT l (rehT 3 4 0 t)).Small) (hwh : wholeT (putT l (rehT 3 4 0 t)) = .ret (encT (putT l (rehT 3 4 0 t)))) : ∀ σ, repS o z l by_ B1 B2 σ →
    EvF look pr (.func (.func 47) [] [.ptr B1 0, .ptr B2 0]) [encT t] σ (.still (.ret (encT (replT l by_ t)))) := by
  have hwhole : Ret look pr 49 [encT (putT l (rehT 3 4 0 t))] (encT (putT l (rehT 3 4 0 t))) := Out.ret (by rw [← hwh]; exact whole_ok hpr _ hsm2)
  refine EvO (L := look) (pr := pr) (g := 47) (fn := fl47) (fs := []) (args := [encT t]) (cs := [.ptr B1 0, .ptr B2 0]) (v := encT (replT l by_ t)) (S := repS o z l by_ B1 B2) fn47 (hpr.at rfl) ⟨Nat.le_of_ble_eq_true rfl, Nat.le_of_ble_eq_true rfl⟩ (by simp [LV.refsOK, LV.argC, LV.canonA, LV.disown, LV.refOK]) (by rw [encT_eq]; rfl) (encT_good _) (by rw [encT_eq]; simp) (fun σ ws h => repS_low σ _ (fun b _ => rfl) h) ?_
  intro σ0 hS0 hws
  have hFo : Fo σ0 σ0 := Fo.refl hws
  have h1 := hS0.1
  have h2 := hS0.2
  have hlt1 := box_ltt h1
  have hlt2 := box_ltt h2
  generalize hfin : (endM look fl47.results fun out σ' => out.fin = .ret (encT (replT l by_ t)) ∧ Fo σ0 σ') = QQ
  show WS look pr false 28 [] (bodyOf f47) _ _ _
  simp only [bodyOf, f47]
  have hset : ∀ u v : Term, setRange (encT u).cells 0 (encT v).cells = (encT v).cells := fun u v => by rw [encT_cells, encT_cells]; rfl
  have hw1 : ∀ {u v : Term}, partL look 25 (setRange (encT u).cells 0 (encT v).cells) 0 = some (encT v) := fun {u v} => by rw [hset]; exact wT
  refine WS_reg fun K gs P hK hgs hP => ?_
  refine o_box rfl rfl zT fT rT ?_
  refine o_al rfl zr25 rfl rfl ?_
  refine o_nil (hK _ _ ?_); (try clear hK hP hgs K gs P)
  refine WS_reg fun K gs P hK hgs hP => ?_
  refine o_ld rfl rfl (ldb (box_push_of (box_push)) wT) ?_
  refine o_call rfl (.cons rfl (.cons rfl (.cons rfl (.cons rfl .nil)))) (reheaded_ok hpr 3 4 0 t hsm) ?_
  refine o_st rfl rfl (store_box (box_push_of (box_push)) sz25 (encT_wd _) (by rw [encT_cells]; exact Nat.le_of_ble_eq_true rfl) (encT_flat _) rT) ?_
  refine o_nil (hK _ _ ?_); (try clear hK hP hgs K gs P)
  refine WS_seq ?_
  refine WS_reg fun K gs P hK hgs hP => ?_
  refine o_ld rfl rfl (ldb (box_upd' (box_push_of (box_push))) hw1) ?_
  refine o_call rfl (.cons rfl .nil) (rawTerm_ok hpr hnb _ hsm1) ?_
  refine o_as rfl rfl ?_
  refine o_nil (hK _ _ ?_); (try clear hK hP hgs K gs P)
  refine WS_reg fun K gs P hK hgs hP => ?_
  refine o_mv rfl rfl ?_
  refine o_bin rfl rfl rfl neq_int ?_
  refine o_nil (hK _ _ ?_); (try clear hK hP hgs K gs P)
  refine WS_cond rfl (fun hb => by rw [hraw] at hb; cases hb) (fun hb => ?_)
  ·
    refine WS_skip fun tm ht => ?_
    simp only [thenQ, blockQ, if_true]; refine WS_of ?_ ht; clear ht tm
    refine WS_reg fun K gs P hK hgs hP => ?_
    refine o_bld rfl .nil rfl ?_
    refine o_box rfl rfl sz106 rfl rfl ?_
    refine o_as rfl rfl ?_
    refine o_nil (hK _ _ ?_); (try clear hK hP hgs K gs P)
    refine WS_draw rfl fun K gs P hK hgs => ?_
    refine d_p rfl rfl rfl (fun _ => rfl) (o_mv rfl rfl (o_nil ?_))
    refine d_ld rfl (o_ld rfl rfl (ldb (box_push_of (box_upd' (box_push_of (box_push)))) hw1) (o_nil ?_))
    refine d_ld rfl (o_ld rfl rfl (ldb (box_push_of (box_upd_of (box_push_of (box_push_of h1)) (by omega))) (pl23.trans rfl)) (o_nil ?_))
    refine d_callv rfl rfl (.cons rfl (.cons rfl (.cons rfl .nil))) (put_ok hpr l hl hpar _ _ hnar _ ⟨_, box_push⟩) ?_
    refine d_call rfl (.cons rfl .nil) hwhole ?_
    refine d_ld rfl (o_ld rfl rfl (ldb (box_push_of (box_upd_of (box_push_of (box_push_of h2)) (by omega))) (pl3.trans rfl)) (o_nil ?_))
    refine d_ld rfl (o_ld rfl rfl (ldb (box_push_of (box_upd_of (box_push_of (box_push_of h1)) (by omega))) (pl23.trans rfl)) (o_nil ?_))
    refine d_p rfl rfl rfl (fun _ => rfl) (o_len rfl rfl rfl lT (o_nil ?_))
    refine d_p rfl rfl rfl (fun _ => rfl) (o_bin rfl rfl rfl sub_int (o_nil ?_))
    refine d_call rfl (.cons rfl (.cons rfl (.cons rfl (.cons rfl .nil)))) (reheaded_ok hpr 4 3 _ _ hsm2) ?_
    refine d_st rfl (o_st rfl rfl (store_box (box_push_of (box_upd_of (box_push) (by rw [push_len]; omega))) sz25 (encT_wd _) (Nat.le_of_ble_eq_true rfl) (encT_flat _) rT) (o_nil ?_))
    refine d_nil (hK _ _ _ (by kernel_rfl) ?_); (try clear hK hgs K gs P)
    refine WS_ret fun tm ht => ?_
    (try simp only [thenQ, blockQ]); rw [← hfin]
    refine endM_cell ht rfl .nil (ldb (box_upd' (box_push_of (box_upd_of box_push (by rw [push_len]; omega)))) (show partL look 25 _ _ = some (encT (replT l by_ t)) by rw [pl25, encT_cells, encT_eq]; rfl)) ⟨by rw [encT_eq]; rfl, ((hFo.push.push.upd (Nat.le_refl _)).push).upd (by rw [push_len]; omega)⟩
end Go.Lg
end
section
set_option linter.unusedSimpArgs false
set_option maxRecDepth 20000
namespace Go.Lg
open Go.Proofs.Tryz
variable {pr : Prim} {o : Bool} {z : Option Bool}
theorem fn25 : look.fnOf 25 = some fl25 := by kernel_rfl
def weakS (from_ by_ : Int) (B1 B2 : Nat) (τ : LH) : Prop := boxOf τ B1 = some (3, [.int .i64 from_]) ∧ boxOf τ B2 = some (3, [.int .i64 by_])
theorem weakS_low {from_ by_ : Int} {B1 B2 : Nat} (τ τ' : LH) (h : ∀ b, b < τ.len → τ'.boxes[b]? = τ.boxes[b]?) (hS : weakS from_ by_ B1 B2 τ) : weakS from_ by_ B1 B2 τ' := ⟨box_same hS.1 (h _ (box_lt hS.1)), box_same hS.2 (h _ (box_lt hS.2))⟩
def weakN (from_ by_ n : Int) : Int := if n ≥ from_ then IntKind.i64.wrap (n + by_) else n
theorem Weaken1_ok (hpr : NoPr pr) (from_ by_ : Int) (B1 B2 : Nat) (n : Int) : ∀ σ, weakS from_ by_ B1 B2 σ →
    EvF look pr (.func (.func 25) [] [.ptr B1 0, .ptr B2 0]) [.int .i64 n] σ (.still (.ret (.int .i64 (weakN from_ by_ n)))) := by
  refine EvO (L := look) (pr := pr) (g := 25) (fn := fl25) (fs := []) (args := [.int .i64 n]) (cs := [.ptr B1 0, .ptr B2 0]) (v := .int .i64 (weakN from_ by_ n)) (S := weakS from_ by_ B1 B2) fn25 (hpr.at rfl) ⟨Nat.le_of_ble_eq_true rfl, Nat.le_of_ble_eq_true rfl⟩ (by simp [LV.refsOK, LV.argC, LV.canonA, LV.disown, LV.refOK]) rfl good_int (by simp) (fun σ ws h => weakS_low σ _ (fun b _ => rfl) h) ?_
  intro σ0 hS0 hws
  have hFo : Fo σ0 σ0 := Fo.refl hws
  have h1 := hS0.1
  have h2 := hS0.2
  generalize hfin : (endM look fl25.results fun out σ' => out.fin = .ret (.int .i64 (weakN from_ by_ n)) ∧ Fo σ0 σ') = QQ
  show WS look pr false 12 [] (bodyOf f25) _ _ _
  simp only [bodyOf, f25]
  refine WS_reg fun K gs P hK hgs hP => ?_
  refine o_as rfl rfl ?_
  refine o_nil (hK _ _ ?_); (try clear hK hP hgs K gs P)
  refine WS_seq ?_
  refine WS_reg fun K gs P hK hgs hP => ?_
  refine o_mv rfl rfl ?_
  refine o_ld rfl rfl (ldb h1 (pl3.trans rfl)) ?_
  refine o_bin rfl rfl rfl geq_int ?_
  refine o_nil (hK _ _ ?_); (try clear hK hP hgs K gs P)
  refine WS_cond rfl (fun hb => ?_) (fun hb => ?_)
  ·
    refine WS_reg fun K gs P hK hgs hP => ?_
    refine o_mv rfl rfl ?_
    refine o_ld rfl rfl (ldb h2 (pl3.trans rfl)) ?_
    refine o_bin rfl rfl rfl add_int ?_
    refine o_as rfl rfl ?_
    refine o_nil (hK _ _ ?_); (try clear hK hP hgs K gs P)
    refine WS_ret fun tm ht => ?_
    (try simp only [thenQ, blockQ]); rw [← hfin]
    exact endM_tmp ht rfl .nil ⟨by rw [weakN, if_pos (of_decide_eq_true hb)]; rfl, hFo⟩
  ·
    refine WS_skip fun tm ht => ?_
    simp only [thenQ, blockQ, if_true]; refine WS_of ?_ ht; clear ht tm
    refine WS_reg fun K gs P hK hgs hP => ?_
    refine o_mv rfl rfl ?_
    refine o_as rfl rfl ?_
    refine o_nil (hK _ _ ?_); (try clear hK hP hgs K gs P)
    refine WS_ret fun tm ht => ?_
    (try simp only [thenQ, blockQ]); rw [← hfin]
    exact endM_tmp ht rfl .nil ⟨by rw [weakN, if_neg (of_decide_eq_false hb)]; rfl, hFo⟩
theorem fn27 : look.fnOf 27 = some fl27 := by kernel_rfl
theorem same_ok (hpr : NoPr pr) (n : Int) : Ret look pr 27 [.int .i64 n] (.int .i64 n) := by
  refine Ret.of (fn := fl27) fn27 (hpr.at rfl) ⟨Nat.le_of_ble_eq_true rfl, Nat.le_of_ble_eq_true rfl⟩ (gargs_cons gint gargs_nil) good_int (by simp) ?_
  show WS look pr false 4 [] (bodyOf f27) _ _ _
  simp only [bodyOf, f27]
  refine WS_reg fun K gs P hK hgs hP => ?_
  refine o_as rfl rfl ?_
  refine o_nil (hK _ _ ?_); (try clear hK hP hgs K gs P)
  refine WS_reg fun K gs P hK hgs hP => ?_
  refine o_mv rfl rfl ?_
  refine o_as rfl rfl ?_
  refine o_nil (hK _ _ ?_); (try clear hK hP hgs K gs P)
  refine WS_ret fun tm ht => ?_
  (try simp only [thenQ, blockQ]); refine endQ_tmp ht rfl rfl
theorem fn34 : look.fnOf 34 = some fl34 := by kernel_rfl
theorem Instance31_ok (hpr : NoPr pr) (B1 B2 B3 : Nat) (l : List Term) (by_ : Int) (t : Term) (hsm : t.Small) (hrep : t.kind ≠ 0 → ∀ σ, repS o z l by_ B2 B3 σ → EvF look pr (.func (.func 47) [] [.ptr B2 0, .ptr B3 0]) [encT t] σ (.still (.ret (encT (replT l by_ t))))) :
    ∀ σ, (boxOf σ B1 = some (69, [.func (.func 47) [] [.ptr B2 0, .ptr B3 0]]) ∧ repS o z l by_ B2 B3 σ) → EvF look pr (.func (.func 34) [] [.ptr B1 0]) [encT t] σ (.still (.ret (encT (if (t.kind == 0) = true then t else replT l by_ t)))) := by
  refine EvO (L := look) (pr := pr) (g := 34) (fn := fl34) (fs := []) (args := [encT t]) (cs := [.ptr B1 0]) (v := encT (if (t.kind == 0) = true then t else replT l by_ t)) (S := fun σ => boxOf σ B1 = some (69, [.func (.func 47) [] [.ptr B2 0, .ptr B3 0]]) ∧ repS o z l by_ B2 B3 σ) fn34 (hpr.at rfl) ⟨Nat.le_of_ble_eq_true rfl, Nat.le_of_ble_eq_true rfl⟩ (by simp [LV.refsOK, LV.argC, LV.canonA, LV.disown, LV.refOK]) (by rw [encT_eq]; rfl) (encT_good _) (by rw [encT_eq]; simp) (fun σ ws h => ⟨box_same h.1 rfl, repS_low σ _ (fun b _ => rfl) h.2⟩) ?_
  intro σ0 hS0 hws
  have hFo : Fo σ0 σ0 := Fo.refl hws
  have h1 := hS0.1
  generalize hfin : (endM look fl34.results fun out σ' => out.fin = .ret (encT (if (t.kind == 0) = true then t else replT l by_ t)) ∧ Fo σ0 σ') = QQ
  show WS look pr false 12 [] (bodyOf f34) _ _ _
  simp only [bodyOf, f34]
  refine WS_reg fun K gs P hK hgs hP => ?_
  refine o_box rfl rfl zT fT rT ?_
  refine o_al rfl zr25 rfl rfl ?_
  refine o_nil (hK _ _ ?_); (try clear hK hP hgs K gs P)
  refine WS_seq ?_
  refine WS_reg fun K gs P hK hgs hP => ?_
  refine o_fa rfl rfl fa25_0 ?_
  refine o_ld rfl rfl (ldb (box_push_of (box_push)) (pl3.trans cT0)) ?_
  refine o_bin rfl rfl rfl eql_int ?_
  refine o_nil (hK _ _ ?_); (try clear hK hP hgs K gs P)
  refine WS_cond rfl (fun hb => ?_) (fun hb => ?_)
  ·
    refine WS_reg fun K gs P hK hgs hP => ?_
    refine o_ld rfl rfl (ldb (box_push_of (box_push)) wT) ?_
    refine o_call rfl (.cons rfl .nil) (copyTerm_ok (hpr.at rfl) t hsm) ?_
    refine o_st rfl rfl (store_box box_push sz25 (encT_wd _) (Nat.le_of_ble_eq_true rfl) (encT_flat _) rT) ?_
    refine o_nil (hK _ _ ?_); (try clear hK hP hgs K gs P)
    refine WS_ret fun tm ht => ?_
    (try simp only [thenQ, blockQ]); rw [← hfin]
    refine endM_cell ht rfl .nil (ldb (box_upd' box_push) (show partL look 25 _ _ = some (encT t) by rw [pl25, encT_cells, encT_eq]; rfl)) ⟨by rw [if_pos hb, encT_eq]; rfl, hFo.push.push.upd (by rw [push_len]; omega)⟩
  ·
    refine WS_skip fun tm ht => ?_
    simp only [thenQ, blockQ, if_true]; refine WS_of ?_ ht; clear ht tm
    refine WS_reg fun K gs P hK hgs hP => ?_
    refine o_ld rfl rfl (ldb (box_push_of (box_push_of h1)) (pl69.trans rfl)) ?_
    refine o_ld rfl rfl (ldb (box_push_of (box_push)) wT) ?_
    refine o_callv rfl rfl (.cons rfl .nil) (hrep (by simpa using hb) _ (repS_low _ _ (fun b hb => hFo.push.push.box b hb) hS0.2)) rfl ?_
    refine o_st rfl rfl (store_box box_push sz25 (encT_wd _) (Nat.le_of_ble_eq_true rfl) (encT_flat _) rT) ?_
    refine o_nil (hK _ _ ?_); (try clear hK hP hgs K gs P)
    refine WS_ret fun tm ht => ?_
    (try simp only [thenQ, blockQ]); rw [← hfin]
    refine endM_cell ht rfl .nil (ldb (box_upd' box_push) (show partL look 25 _ _ = some (encT (replT l by_ t)) by rw [pl25, encT_cells, encT_eq]; rfl)) ⟨by rw [if_neg (by rw [hb]; simp), encT_eq]; rfl, hFo.push.push.upd (by rw [push_len]; omega)⟩
end Go.Lg
end
section
set_option linter.unusedSimpArgs false
set_option maxRecDepth 20000
namespace Go.Lg
open Go.Proofs.Tryz
variable {pr : Prim}
theorem fn28 : look.fnOf 28 = some fl28 := by kernel_rfl
def badT (nb : ByteArray → Bool) (bad : Bool) (t : Term) : Bool := (bad || hasVarT t) || ((!(t.kind == 0)) && (!(rawT nb t == 0)))
theorem Instance2_ok (hpr : NoPr pr) {nb : ByteArray → Bool} (hnb : Names pr nb) (B : Nat) (bad : Bool) (t : Term) (hsm : t.Small) :
    ∀ σ, boxOf σ B = some (4, [.bool bad]) → ∃ cr, EvF look pr (.func (.func 28) [] [.ptr B 0]) [encT t] σ cr ∧ cr.out = .ret (encT t) ∧ Fb B σ (cr.st σ) ∧ boxOf (cr.st σ) B = some (4, [.bool (badT nb bad t)]) := by
  refine EvW (L := look) (pr := pr) (B := B) (g := 28) (fn := fl28) (fs := []) (args := [encT t]) (cs := [.ptr B 0]) (v := encT t) (S := fun σ => boxOf σ B = some (4, [.bool bad])) (J := fun _ σ' => boxOf σ' B = some (4, [.bool (badT nb bad t)])) fn28 (hpr.at rfl) ⟨Nat.le_of_ble_eq_true rfl, Nat.le_of_ble_eq_true rfl⟩ (by simp [LV.refsOK, LV.argC, LV.canonA, LV.disown, LV.refOK]) (by rw [encT_eq]; rfl) (encT_good _) (by rw [encT_eq]; simp) (fun σ ws h => box_same h rfl) (fun σ h => box_ltt h) (fun σ ws τ τ' h hj => box_same hj h) ?_
  intro σ0 h1 hws
  have hFo : Fw B σ0 σ0 := Fw.refl hws
  have hB := box_ltt h1
  generalize hfin : (endM look fl28.results fun out σ' => out.fin = .ret (encT t) ∧ Fw B σ0 σ' ∧ boxOf σ' B = some (4, [.bool (badT nb bad t)])) = QQ
  show WS look pr false 20 [] (bodyOf f28) _ _ _
  simp only [bodyOf, f28]
  refine WS_reg fun K gs P hK hgs hP => ?_
  refine o_box rfl rfl zT fT rT ?_
  refine o_al rfl zr25 rfl rfl ?_
  refine o_nil (hK _ _ ?_); (try clear hK hP hgs K gs P)
  refine WS_regM [(2, .ptr σ0.len 0), (3, .ptr (σ0.push (.cells 25 (encT t).cells)).len 0)] (((σ0.push (.cells 25 (encT t).cells)).push (.cells 25 (LV.agg [.int .i64 0, .int .i64 0, .str ⟨#[]⟩, .slice [] .exact (some true)]).cells)).upd B 4 [.bool (badT nb bad t)]) ?_ (fun K gs P hK hgs hP => ?_)
  case refine_2 =>
    have s1 : gs 1 = some 5 := by rw [hgs]; rfl
    have s5 : gs 5 = some 9 := by rw [hgs]; rfl
    have s9 : gs 9 = some 13 := by rw [hgs]; rfl
    refine o_ld rfl rfl (ldb (box_push_of (box_push_of h1)) (pl4.trans rfl)) ?_
    refine o_mv rfl rfl ?_
    refine o_split 5 rfl (fun e5 => ?_) (fun e5 => ?_)
    ·
      refine o_no rfl rfl rfl s1 rfl ?_
      refine o_no rfl rfl rfl s1 rfl ?_
      refine o_pick rfl rfl rfl ?_
      refine o_mv rfl rfl ?_
      refine o_no rfl rfl rfl s5 rfl ?_
      refine o_no rfl rfl rfl s5 rfl ?_
      refine o_no rfl rfl rfl s5 rfl ?_
      refine o_no rfl rfl rfl s5 rfl ?_
      refine o_not rfl rfl rfl s9 rfl ?_
      refine o_not rfl rfl rfl s9 rfl ?_
      refine o_not rfl rfl rfl s9 rfl ?_
      refine o_no rfl rfl rfl s5 rfl ?_
      refine o_pick rfl rfl rfl ?_
      refine o_st rfl rfl (store_box (box_push_of (box_push_of h1)) sz4 rfl (Nat.le_of_ble_eq_true rfl) rfl rfl) ?_
      have hc : badT nb bad t = true := by unfold badT; simp_all
      rw [hc] at hK
      exact o_nil (hK _ (sub_cons rfl (sub_cons rfl sub_nil)))
    ·
      refine o_yes rfl s1 rfl (o_ld rfl rfl (ldb (box_push_of (box_push)) wT) ?_)
      refine o_yes rfl s1 rfl (o_call rfl (.cons rfl .nil) (hasVar_ok hpr t hsm) ?_)
      refine o_pick rfl rfl rfl ?_
      refine o_mv rfl rfl ?_
      refine o_split 9 rfl (fun e9 => ?_) (fun e9 => ?_)
      ·
        refine o_no rfl rfl rfl s5 rfl ?_
        refine o_no rfl rfl rfl s5 rfl ?_
        refine o_no rfl rfl rfl s5 rfl ?_
        refine o_no rfl rfl rfl s5 rfl ?_
        refine o_not rfl rfl rfl s9 rfl ?_
        refine o_not rfl rfl rfl s9 rfl ?_
        refine o_not rfl rfl rfl s9 rfl ?_
        refine o_no rfl rfl rfl s5 rfl ?_
        refine o_pick rfl rfl rfl ?_
        refine o_st rfl rfl (store_box (box_push_of (box_push_of h1)) sz4 rfl (Nat.le_of_ble_eq_true rfl) rfl rfl) ?_
        have hc : badT nb bad t = true := by unfold badT; simp_all
        rw [hc] at hK
        exact o_nil (hK _ (sub_cons rfl (sub_cons rfl sub_nil)))
      ·
        refine o_yes rfl s5 rfl (o_fa rfl rfl fa25_0 ?_)
        refine o_yes rfl s5 rfl (o_ld rfl rfl (ldb (box_push_of (box_push)) (pl3.trans cT0)) ?_)
        refine o_yes rfl s5 rfl (o_bin rfl rfl rfl neq_int ?_)
        refine o_yes rfl s5 rfl (o_mv rfl rfl ?_)
        refine o_split 13 rfl (fun e13 => ?_) (fun e13 => ?_)
        ·
          refine o_yes rfl s9 rfl (o_ld rfl rfl (ldb (box_push_of (box_push)) wT) ?_)
          refine o_yes rfl s9 rfl (o_call rfl (.cons rfl .nil) (rawTerm_ok hpr hnb t hsm) ?_)
          refine o_yes rfl s9 rfl (o_bin rfl rfl rfl neq_int ?_)
          refine o_yes rfl s5 rfl (o_pick rfl rfl rfl ?_)
          refine o_pick rfl rfl rfl ?_
          refine o_st rfl rfl (store_box (box_push_of (box_push_of h1)) sz4 rfl (Nat.le_of_ble_eq_true rfl) rfl rfl) ?_
          have hc : badT nb bad t = (!(rawT nb t == 0)) := by unfold badT; simp_all
          rw [hc] at hK
          exact o_nil (hK _ (sub_cons rfl (sub_cons rfl sub_nil)))
        ·
          refine o_no rfl rfl rfl s9 rfl ?_
          refine o_no rfl rfl rfl s9 rfl ?_
          refine o_no rfl rfl rfl s9 rfl ?_
          refine o_yes rfl s5 rfl (o_pick rfl rfl rfl ?_)
          refine o_pick rfl rfl rfl ?_
          refine o_st rfl rfl (store_box (box_push_of (box_push_of h1)) sz4 rfl (Nat.le_of_ble_eq_true rfl) rfl rfl) ?_
          have hc : badT nb bad t = false := by unfold badT; simp_all
          rw [hc] at hK
          exact o_nil (hK _ (sub_cons rfl (sub_cons rfl sub_nil)))
  case refine_1 =>
    refine WS_reg fun K gs P hK hgs hP => ?_
    refine o_ld rfl rfl (ldb (box_upd_of (box_push_of (box_push)) (by omega)) wT) ?_
    refine o_st rfl rfl (store_box (box_upd_of (box_push) (by rw [push_len]; omega)) sz25 (encT_wd _) (Nat.le_of_ble_eq_true rfl) (encT_flat _) rT) ?_
    refine o_nil (hK _ _ ?_); (try clear hK hP hgs K gs P)
    refine WS_ret fun tm ht => ?_
    (try simp only [thenQ, blockQ]); rw [← hfin]
    refine endM_cell ht rfl .nil (ldb (box_upd' (box_upd_of box_push (by rw [push_len]; omega))) (show partL look 25 _ _ = some (encT t) by rw [pl25, encT_cells, encT_eq]; rfl)) ⟨by rw [encT_eq]; rfl, ((hFo.push hB).push hB).updB.upd (by rw [push_len]; omega) hB, box_upd_of (box_upd' (box_push_of (box_push_of h1))) (by rw [push_len]; omega)⟩
end Go.Lg
end
section
set_option linter.unusedSimpArgs false
set_option maxRecDepth 20000
namespace Go.Lg
open Go.Proofs.Tryz
variable {pr : Prim}
def rebM (tf : Term → Term) (hf : Int → Int) (m : Move) : Move := ⟨hf m.n, m.terms.map tf, m.uses.map hf⟩
def rebP (tf : Term → Term) (hf : Int → Int) (p : Proof) : Proof := p.fold fun p us bs =>
  .mk p.kind (if (p.kind == 1) = true then hf p.n else 0) (p.uses.map hf) (tf p.term) ((p.spine.zip us).map fun (u, x) => .mk u.kind (tf u.term) x) (p.moves.map (rebM tf hf)) bs
def rebU (tf : Term → Term) (hf : Int → Int) (u : Turn) : Turn := .mk u.kind (tf u.term) (u.l.map (rebP tf hf))
theorem zip_map_self {α β γ : Type} (f : α → β) (g : α × β → γ) : ∀ l : List α, (l.zip (l.map f)).map g = l.map fun x => g (x, f x)
  | [] => rfl
  | x :: l => by rw [List.map_cons, List.zip_cons_cons, List.map_cons, zip_map_self f g l]; rfl
theorem rebP_eq (tf : Term → Term) (hf : Int → Int) (p : Proof) : rebP tf hf p = .mk p.kind (if (p.kind == 1) = true then hf p.n else 0) (p.uses.map hf) (tf p.term) (p.spine.map (rebU tf hf)) (p.moves.map (rebM tf hf)) (p.l.map (rebP tf hf)) := by
  conv => lhs; unfold rebP
  rw [Proof.fold_eq, zip_map_self]; rfl
def trav (p : Proof) : List Term := p.fold fun p us bs => p.term :: ((p.spine.zip us).flatMap (fun (u, x) => u.term :: x.flatten) ++ p.moves.flatMap Move.terms ++ bs.flatten)
def travU (u : Turn) : List Term := u.term :: u.l.flatMap trav
theorem zip_flat_self {α β γ : Type} (f : α → β) (g : α × β → List γ) : ∀ l : List α, (l.zip (l.map f)).flatMap g = l.flatMap fun x => g (x, f x)
  | [] => rfl
  | x :: l => by rw [List.map_cons, List.zip_cons_cons, List.flatMap_cons, zip_flat_self f g l]; rfl
theorem trav_eq (p : Proof) : trav p = p.term :: (p.spine.flatMap travU ++ p.moves.flatMap Move.terms ++ p.l.flatMap trav) := by
  conv => lhs; unfold trav
  rw [Proof.fold_eq, zip_flat_self]; rfl
theorem bsU' {k : Int} {t : Term} {xs : List LV} {own : Own} {nz : Option Bool} : buildSliceL look 26 1 [(0, .agg [.int .i64 k, .int .i64 t.kind, .int .i64 t.n, .str t.name, slc (t.args.map encT), .slice xs own nz])] = some (.slice [.agg [.int .i64 k, .int .i64 t.kind, .int .i64 t.n, .str t.name, slc (t.args.map encT), slc xs]] .exact (some false)) := by kernel_rfl
theorem bsM' {n : Int} {xs ys : List LV} {own own' : Own} {nz nz' : Option Bool} : buildSliceL look 27 1 [(0, .agg [.int .i64 n, .slice xs own nz, .slice ys own' nz'])] = some (.slice [.agg [.int .i64 n, slc xs, slc ys]] .exact (some false)) := by kernel_rfl
end Go.Lg
end
section
set_option linter.unusedSimpArgs false
set_option maxRecDepth 20000
namespace Go.Lg
open Go.Proofs.Tryz
variable {pr : Prim}
theorem fn23 : look.fnOf 23 = some fl23 := by kernel_rfl
theorem bldP {k : Int} {t : Term} : buildL look 30 [(0, .int .i64 k), (3, encT t)] = some (.agg [.int .i64 k, .int .i64 0, .slice [] .exact (some true), .int .i64 t.kind, .int .i64 t.n, .str t.name, slc (t.args.map encT), .slice [] .exact (some true), .slice [] .exact (some true), .slice [] .exact (some true)]) := by rw [encT_eq]; kernel_rfl
theorem bldU {k : Int} {t : Term} : buildL look 64 [(0, .int .i64 k), (1, encT t)] = some (.agg [.int .i64 k, .int .i64 t.kind, .int .i64 t.n, .str t.name, slc (t.args.map encT), .slice [] .exact (some true)]) := by rw [encT_eq]; kernel_rfl
theorem own_upd_box {σ : LH} {w : Own} {b b' : Nat} {t : TypeId} {cs : List LV} (h : b' ≠ b) : ((σ.own w).upd b t cs).boxes[b']? = σ.boxes[b']? := by
  simp only [LH.upd]; rw [List.getElem?_set_ne (Ne.symm h)]; cases w <;> rfl
theorem WS_st {L : Look} {pr : Prim} {rnd : Bool} {N : Nat} {df : List LDef} {l : List (Nat × LV)} {σ : LH} {Q : LExit → LAct → LH → Prop} {c : Code} {F : LH → Prop} (hF : F σ) (h : ∀ τ, F τ → WS L pr rnd N df c l τ Q) : WS L pr rnd N df c l σ Q := h σ hF
def Tk (T : List Bool) (τ : LH) : Prop := τ.toks.take T.length = T
theorem Tk.refl {τ : LH} : Tk τ.toks τ := List.take_length
theorem Tk.le {T : List Bool} {τ : LH} (h : Tk T τ) : T.length ≤ τ.toks.length := by
  have := congrArg List.length h
  rw [List.length_take] at this; omega
theorem Tk.fb {T : List Bool} {B : Nat} {τ τ' : LH} (h : Tk T τ) (hb : Fb B τ τ') : Tk T τ' := by
  have := congrArg (List.take T.length) hb.toks
  rw [List.take_take, Nat.min_eq_left h.le] at this; exact this.trans h
theorem Tk.own {T : List Bool} {τ : LH} {w : Own} (h : Tk T τ) (hw : Own1 T.length w) : Tk T (τ.own w) ∧ Own1 T.length (.tok τ.toks.length) := by
  have hT := h.le
  refine ⟨?_, hT⟩
  cases w with
  | tok k => show List.take _ _ = _; simp only [LH.own]; rw [List.take_append_of_le_length (by rw [List.length_set]; exact hT), List.take_set, List.set_eq_of_length_le (by rw [List.length_take]; have : T.length ≤ k := hw; omega)]; exact h
  | none => show List.take _ _ = _; simp only [LH.own]; rw [List.take_append_of_le_length hT]; exact h
  | exact => show List.take _ _ = _; simp only [LH.own]; rw [List.take_append_of_le_length hT]; exact h
theorem App.tk {τ0 τ : LH} {w : Own} (h : App τ0 w) (hk : Tk τ0.toks τ) : App τ w := by
  cases w with
  | none => exact h
  | exact => exact h
  | tok k =>
    simp only [App] at h ⊢
    have hlt : k < τ0.toks.length := (List.getElem?_eq_some_iff.1 h).1
    have e := congrArg (·[k]?) hk
    simp only [List.getElem?_take_of_lt hlt] at e
    rw [e]; exact h
theorem Tk.len' {B : Nat} {σ τ : LH} (h : Fw B σ τ) : Tk σ.toks τ := h.toks
theorem Own1.mono {a b : Nat} {w : Own} (h : Own1 b w) (hab : a ≤ b) : Own1 a w := by
  cases w with
  | tok k => exact Nat.le_trans hab h
  | _ => trivial
structure Rb (pr : Prim) {A : Type} (M B : Nat) (S : A → LH → Prop) (tv hv : LV) (tf : Term → Term) (hf : Int → Int) (step : A → Term → A) (okT : Term → Prop) : Prop where
  lt : B < M
  low : ∀ a τ τ', (∀ b, b < M → τ'.boxes[b]? = τ.boxes[b]?) → S a τ → S a τ'
  onT : ∀ a t σ, okT t → M ≤ σ.len → S a σ → ∃ cr, EvF look pr tv [encT t] σ cr ∧ cr.out = .ret (encT (tf t)) ∧ Fb B σ (cr.st σ) ∧ S (step a t) (cr.st σ)
  onH : ∀ a n σ, M ≤ σ.len → S a σ → EvF look pr hv [.int .i64 n] σ (.still (.ret (.int .i64 (hf n))))
  refs : (LV.refsOK 0 [tv.argC, hv.argC]) = false
  canon : [tv, hv].map LV.canonA = [tv, hv]
theorem rebuilt_ok (hpr : NoPr pr) {A : Type} {M B : Nat} {S : A → LH → Prop} {tv hv : LV} {tf : Term → Term} {hf : Int → Int} {step : A → Term → A} {okT : Term → Prop} (rb : Rb pr M B S tv hv tf hf step okT) :
    ∀ p : Proof, p.Small → (∀ t ∈ trav p, okT t) → ∀ a σ, M ≤ σ.len → S a σ → ∃ cr, EvF look pr (.func (.func 23) [] []) [encP p, tv, hv] σ cr ∧ cr.out = .ret (encP (rebP tf hf p)) ∧ Fb B σ (cr.st σ) ∧ S ((trav p).foldl step a) (cr.st σ) := by
  refine Proof.ind fun p ih hsm hok a σ hM hSa => ?_
  have hS := (Proof.small_iff p).1 hsm
  refine EvW2 (L := look) (pr := pr) (B := B) (g := 23) (fn := fl23) (fs := []) (args := [encP p, tv, hv]) (cs := []) (v := encP (rebP tf hf p)) (S := fun σ => M ≤ σ.len ∧ S a σ) (J := fun σ σ' => M ≤ σ.len → S ((trav p).foldl step a) σ') fn23 (hpr.at rfl) ⟨Nat.le_of_ble_eq_true rfl, Nat.le_of_ble_eq_true rfl⟩ (by
      have := rb.refs
      simp only [List.nil_append, List.append_nil, List.map_cons, List.map_nil, LV.refsOK] at this ⊢
      rw [this, Bool.and_false]) (by
      have := rb.canon
      simp only [List.nil_append, List.append_nil, List.map_cons, List.map_nil, encP_canonA] at this ⊢
      rw [this]) (encP_good _) (by rw [encP_eq]; simp) (fun σ ws h => ⟨h.1, rb.low a σ _ (fun b _ => rfl) h.2⟩) (fun σ h => Nat.lt_of_lt_of_le rb.lt h.1)
      (fun σ ws τ τ' h hj hM => rb.low _ τ τ' (fun b hb => h b (Nat.lt_of_lt_of_le hb hM)) (hj hM)) ?_ σ ⟨hM, hSa⟩ |>.imp fun cr ⟨h1, h2, h3, h4⟩ => ⟨h1, h2, h3, h4 hM⟩
  clear hSa hM σ
  rintro σ0 ⟨hM, hSa⟩ hws
  have hB : B < σ0.len := Nat.lt_of_lt_of_le rb.lt hM
  have hFw : Fw B σ0 σ0 := Fw.refl hws
  generalize hfin : (endM look fl23.results fun out σ' => out.fin = .ret (encP (rebP tf hf p)) ∧ Fw B σ0 σ' ∧ (M ≤ σ0.len → S ((trav p).foldl step a) σ')) = QQ
  show WS look pr false 162 [] (bodyOf f23) _ _ _
  simp only [bodyOf, f23]
  refine WS_reg fun K gs P hK hgs hP => ?_
  refine o_box rfl rfl zP fP rP ?_
  refine o_al rfl zr30 rfl rfl ?_
  refine o_nil (hK _ _ ?_); (try clear hK hP hgs K gs P)
  refine WS_draw (by simp only [hoist, zr30]; rfl) fun K gs P hK hgs => ?_
  refine d_p rfl rfl rfl (fun _ => rfl) (o_fa rfl rfl fa30_0 (o_nil ?_))
  refine d_ld rfl (o_ld rfl rfl (ldb (box_push_of (box_push_of (box_push))) (pl3.trans cP0)) (o_nil ?_))
  refine d_p rfl rfl rfl (fun _ => rfl) (o_mv rfl rfl (o_nil ?_))
  refine d_p rfl rfl rfl (fun _ => rfl) (o_fa rfl rfl fa30_3 (o_nil ?_))
  refine d_ld rfl (o_ld rfl rfl (ldb (box_push_of (box_push_of (box_push))) tP) (o_nil ?_))
  have hfw1 := ((hFw.push (o := .cells 30 (encP p).cells) hB).push (o := .cells 30 (LV.agg [.int .i64 0, .int .i64 0, .slice [] .exact (some true), .int .i64 0, .int .i64 0, .str ⟨#[]⟩, .slice [] .exact (some true), .slice [] .exact (some true), .slice [] .exact (some true), .slice [] .exact (some true)]).cells) hB).push (o := .cells 30 (LV.agg [.int .i64 0, .int .i64 0, .slice [] .exact (some true), .int .i64 0, .int .i64 0, .str ⟨#[]⟩, .slice [] .exact (some true), .slice [] .exact (some true), .slice [] .exact (some true), .slice [] .exact (some true)]).cells) hB
  obtain ⟨cr1, c1, c2, c3, c4⟩ := rb.onT a p.term _ (hok p.term (by rw [trav_eq]; simp)) (Nat.le_trans hM hfw1.len) (rb.low a σ0 _ (fun b hb => by
    simp only [LH.push]
    rw [List.getElem?_append_left (by simp only [List.length_append]; have : σ0.len = σ0.boxes.length := rfl; omega), List.getElem?_append_left (by simp only [List.length_append]; have : σ0.len = σ0.boxes.length := rfl; omega), List.getElem?_append_left (by have : σ0.len = σ0.boxes.length := rfl; omega)]) hSa)
  refine d_callw rfl rfl (.cons rfl .nil) c1 c2 c3 fun kd hkd => ?_
  refine d_p rfl rfl rfl (fun _ => rfl) (o_bld rfl (.cons rfl (.cons rfl .nil)) bldP (o_nil ?_))
  have hfw := hfw1.then c3
  have e3 := box_same (box_push_of (box_push_of box_push)) (c3.box σ0.len (by omega))
  have e6 := box_same (box_push_of box_push) (c3.box ((σ0.push (.cells 30 (encP p).cells)).len) (by rw [push_len]; omega))
  have e7 := box_same box_push (c3.box (((σ0.push (.cells 30 (encP p).cells)).push (.cells 30 (LV.agg [.int .i64 0, .int .i64 0, .slice [] .exact (some true), .int .i64 0, .int .i64 0, .str ⟨#[]⟩, .slice [] .exact (some true), .slice [] .exact (some true), .slice [] .exact (some true), .slice [] .exact (some true)]).cells)).len) (by rw [push_len, push_len]; omega))
  refine d_al rfl ?_
  refine d_st rfl (o_st rfl rfl (store_box e7 sz30 rfl (Nat.le_of_ble_eq_true rfl) rfl (refA (refs_cons rfl (refs_cons rfl (refs_cons rfl (refs_cons rfl (refs_cons rfl (refs_cons rfl (refs_cons (refS encT_good) rfl)))))))) ) (o_nil ?_))
  refine d_nil (hK _ _ _ ?dok ?_); (try clear hK hgs K gs P)
  case dok =>
    have n7 : ((((σ0.push (.cells 30 (encP p).cells)).push (.cells 30 (LV.agg [.int .i64 0, .int .i64 0, .slice [] .exact (some true), .int .i64 0, .int .i64 0, .str ⟨#[]⟩, .slice [] .exact (some true), .slice [] .exact (some true), .slice [] .exact (some true), .slice [] .exact (some true)]).cells)).len == B)) = false := by rw [push_len, push_len]; simp; omega
    have n3 : (σ0.len == B) = false := by simp; omega
    generalize (((σ0.push (.cells 30 (encP p).cells)).push (.cells 30 (LV.agg [.int .i64 0, .int .i64 0, .slice [] .exact (some true), .int .i64 0, .int .i64 0, .str ⟨#[]⟩, .slice [] .exact (some true), .slice [] .exact (some true), .slice [] .exact (some true), .slice [] .exact (some true)]).cells)).len) = k7 at n7 ⊢
    refine drawOK_w (B := B) (rs1 := [⟨0, .pure⟩, ⟨1, .load σ0.len⟩, ⟨2, .pure⟩, ⟨3, .pure⟩, ⟨4, .load σ0.len⟩]) (rs2 := [⟨6, .pure⟩, ⟨7, .alloc k7⟩, ⟨8, .move [k7]⟩]) hkd (by kernel_rfl) ?_ ?_
    · have h8 : normR B ⟨8, .move [k7]⟩ = ⟨8, .move [k7]⟩ := by simp [normR, n7]
      have hm : ([⟨6, .pure⟩, ⟨7, .alloc k7⟩, ⟨8, .move [k7]⟩] : List Rec).map (normR B) = [⟨6, .pure⟩, ⟨7, .alloc k7⟩, ⟨8, .move [k7]⟩] := by simp only [List.map_cons, List.map_nil, h8]; rfl
      rw [hm]
      clear hm h8
      show drawOK _ _ _ = true
      kernel_rfl
    · intro r hr
      simp only [List.cons_append, List.nil_append, List.mem_cons, List.not_mem_nil, or_false] at hr
      rcases hr with rfl | rfl | rfl | rfl | rfl | rfl | rfl | rfl <;> simp [noB, n3, n7, bne]
  have hn6 : (σ0.push (.cells 30 (encP p).cells)).len = σ0.len + 1 := push_len
  have hn7 : ((σ0.push (.cells 30 (encP p).cells)).push (.cells 30 (LV.agg [.int .i64 0, .int .i64 0, .slice [] .exact (some true), .int .i64 0, .int .i64 0, .str ⟨#[]⟩, .slice [] .exact (some true), .slice [] .exact (some true), .slice [] .exact (some true), .slice [] .exact (some true)]).cells)).len = σ0.len + 2 := by rw [push_len, push_len]
  have hfw2 := hfw.upd (b := ((σ0.push (.cells 30 (encP p).cells)).push (.cells 30 (LV.agg [.int .i64 0, .int .i64 0, .slice [] .exact (some true), .int .i64 0, .int .i64 0, .str ⟨#[]⟩, .slice [] .exact (some true), .slice [] .exact (some true), .slice [] .exact (some true), .slice [] .exact (some true)]).cells)).len) (t := 30) (cs := setRange (LV.agg [.int .i64 0, .int .i64 0, .slice [] .exact (some true), .int .i64 0, .int .i64 0, .str ⟨#[]⟩, .slice [] .exact (some true), .slice [] .exact (some true), .slice [] .exact (some true), .slice [] .exact (some true)]).cells 0 (LV.agg [.int .i64 p.kind, .int .i64 0, .slice [] .exact (some true), .int .i64 (tf p.term).kind, .int .i64 (tf p.term).n, .str (tf p.term).name, slc ((tf p.term).args.map encT), .slice [] .exact (some true), .slice [] .exact (some true), .slice [] .exact (some true)]).cells) (by omega) hB
  have hS2 : S (step a p.term) ((cr1.st _).upd ((σ0.push (.cells 30 (encP p).cells)).push (.cells 30 (LV.agg [.int .i64 0, .int .i64 0, .slice [] .exact (some true), .int .i64 0, .int .i64 0, .str ⟨#[]⟩, .slice [] .exact (some true), .slice [] .exact (some true), .slice [] .exact (some true), .slice [] .exact (some true)]).cells)).len 30 (setRange (LV.agg [.int .i64 0, .int .i64 0, .slice [] .exact (some true), .int .i64 0, .int .i64 0, .str ⟨#[]⟩, .slice [] .exact (some true), .slice [] .exact (some true), .slice [] .exact (some true), .slice [] .exact (some true)]).cells 0 (LV.agg [.int .i64 p.kind, .int .i64 0, .slice [] .exact (some true), .int .i64 (tf p.term).kind, .int .i64 (tf p.term).n, .str (tf p.term).name, slc ((tf p.term).args.map encT), .slice [] .exact (some true), .slice [] .exact (some true), .slice [] .exact (some true)]).cells)) := rb.low _ _ _ (fun b hb => by simp only [LH.upd]; rw [List.getElem?_set_ne (by omega)]) c4
  have f3 := box_upd_of (b := ((σ0.push (.cells 30 (encP p).cells)).push (.cells 30 (LV.agg [.int .i64 0, .int .i64 0, .slice [] .exact (some true), .int .i64 0, .int .i64 0, .str ⟨#[]⟩, .slice [] .exact (some true), .slice [] .exact (some true), .slice [] .exact (some true), .slice [] .exact (some true)]).cells)).len) (t := 30) (cs := setRange (LV.agg [.int .i64 0, .int .i64 0, .slice [] .exact (some true), .int .i64 0, .int .i64 0, .str ⟨#[]⟩, .slice [] .exact (some true), .slice [] .exact (some true), .slice [] .exact (some true), .slice [] .exact (some true)]).cells 0 (LV.agg [.int .i64 p.kind, .int .i64 0, .slice [] .exact (some true), .int .i64 (tf p.term).kind, .int .i64 (tf p.term).n, .str (tf p.term).name, slc ((tf p.term).args.map encT), .slice [] .exact (some true), .slice [] .exact (some true), .slice [] .exact (some true)]).cells) e3 (by omega)
  have f6 := box_upd_of (b := ((σ0.push (.cells 30 (encP p).cells)).push (.cells 30 (LV.agg [.int .i64 0, .int .i64 0, .slice [] .exact (some true), .int .i64 0, .int .i64 0, .str ⟨#[]⟩, .slice [] .exact (some true), .slice [] .exact (some true), .slice [] .exact (some true), .slice [] .exact (some true)]).cells)).len) (t := 30) (cs := setRange (LV.agg [.int .i64 0, .int .i64 0, .slice [] .exact (some true), .int .i64 0, .int .i64 0, .str ⟨#[]⟩, .slice [] .exact (some true), .slice [] .exact (some true), .slice [] .exact (some true), .slice [] .exact (some true)]).cells 0 (LV.agg [.int .i64 p.kind, .int .i64 0, .slice [] .exact (some true), .int .i64 (tf p.term).kind, .int .i64 (tf p.term).n, .str (tf p.term).name, slc ((tf p.term).args.map encT), .slice [] .exact (some true), .slice [] .exact (some true), .slice [] .exact (some true)]).cells) e6 (by omega)
  have f7 := box_upd' (t := 30) (cs := setRange (LV.agg [.int .i64 0, .int .i64 0, .slice [] .exact (some true), .int .i64 0, .int .i64 0, .str ⟨#[]⟩, .slice [] .exact (some true), .slice [] .exact (some true), .slice [] .exact (some true), .slice [] .exact (some true)]).cells 0 (LV.agg [.int .i64 p.kind, .int .i64 0, .slice [] .exact (some true), .int .i64 (tf p.term).kind, .int .i64 (tf p.term).n, .str (tf p.term).name, slc ((tf p.term).args.map encT), .slice [] .exact (some true), .slice [] .exact (some true), .slice [] .exact (some true)]).cells) e7
  clear hfw1 hfw c1 c2 c3 c4 e3 e6 e7
  refine WS.weaken (l0 := [(1, tv), (2, hv), (3, .ptr σ0.len 0), (6, .ptr (σ0.push (.cells 30 (encP p).cells)).len 0), (7, .ptr ((σ0.push (.cells 30 (encP p).cells)).push (.cells 30 (LV.agg [.int .i64 0, .int .i64 0, .slice [] .exact (some true), .int .i64 0, .int .i64 0, .str ⟨#[]⟩, .slice [] .exact (some true), .slice [] .exact (some true), .slice [] .exact (some true), .slice [] .exact (some true)]).cells)).len 0)]) (sub_cons rfl (sub_cons rfl (sub_cons rfl (sub_cons rfl (sub_cons rfl sub_nil))))) ?_
  refine (show ∀ (n6 n7 : Nat) (τ : LH), n6 = σ0.len + 1 → n7 = σ0.len + 2 → Fw B σ0 τ → S (step a p.term) τ → boxOf τ σ0.len = some (30, (encP p).cells) → (∃ cs6, boxOf τ n6 = some (30, cs6) ∧ cs6.length = 10) →
      boxOf τ n7 = some (30, [.int .i64 p.kind, .int .i64 0, .slice [] .exact (some true), .int .i64 (tf p.term).kind, .int .i64 (tf p.term).n, .str (tf p.term).name, slc ((tf p.term).args.map encT), .slice [] .exact (some true), .slice [] .exact (some true), .slice [] .exact (some true)]) →
      WS look pr false 162 [] _ [(1, tv), (2, hv), (3, .ptr σ0.len 0), (6, .ptr n6 0), (7, .ptr n7 0)] τ QQ from ?_) _ _ _ hn6 hn7 hfw2 hS2 f3 ⟨_, f6, rfl⟩ f7
  clear hn6 hn7 hfw2 hS2 f3 f6 f7
  intro n6 n7 τ hn6 hn7 hfw hSt b3 b6 b7
  refine WS_seqI (l1 := [(1, _), (2, _), (3, _), (6, _), (7, _)]) (sub_cons rfl (sub_cons rfl (sub_cons rfl (sub_cons rfl (sub_cons rfl sub_nil))))) (fun τ => Fw B σ0 τ ∧ S (step a p.term) τ ∧ boxOf τ σ0.len = some (30, (encP p).cells) ∧ (∃ cs6, boxOf τ n6 = some (30, cs6) ∧ cs6.length = 10) ∧
      boxOf τ n7 = some (30, [.int .i64 p.kind, .int .i64 (if (p.kind == 1) = true then hf p.n else 0), .slice [] .exact (some true), .int .i64 (tf p.term).kind, .int .i64 (tf p.term).n, .str (tf p.term).name, slc ((tf p.term).args.map encT), .slice [] .exact (some true), .slice [] .exact (some true), .slice [] .exact (some true)])) ?_ ?_
  case refine_2 =>
    refine WS_reg fun K gs P hK hgs hP => ?_
    refine o_fa rfl rfl fa30_0 ?_
    refine o_ld rfl rfl (ldb b3 (pl3.trans cP0)) ?_
    refine o_bin rfl rfl rfl eql_int ?_
    refine o_nil (hK _ _ ?_); (try clear hK hP hgs K gs P)
    refine WS_cond rfl (fun hb => ?_) (fun hb => ?_)
    · refine WS_reg1 fun K gs P hK hgs hP => ?_
      refine o_mv rfl rfl ?_
      refine o_fa rfl rfl fa30_1 ?_
      refine o_ld rfl rfl (ldb b3 (pl3.trans cP1)) ?_
      refine o_callv rfl rfl (.cons rfl .nil) (rb.onH _ p.n τ (Nat.le_trans hM hfw.len) hSt) rfl ?_
      refine o_fa rfl rfl fa30_1 ?_
      refine o_st rfl rfl (store_box b7 sz3 rfl (Nat.le_of_ble_eq_true rfl) rfl rfl) ?_
      refine o_nil (hK _ _ fun tm ht => ?_); (try clear hK hP hgs K gs P)
      simp only [thenQ, blockQ]
      exact ⟨trivial, ht.sub (sub_cons rfl (sub_cons rfl (sub_cons rfl (sub_cons rfl (sub_cons rfl sub_nil))))), hfw.upd (by omega) hB, rb.low _ τ _ (fun b hb => by simp only [LH.upd, CR.st]; rw [List.getElem?_set_ne (by omega)]) hSt, box_upd_of b3 (by omega), ⟨_, box_upd_of b6.choose_spec.1 (by omega), b6.choose_spec.2⟩, by rw [if_pos hb]; exact box_upd' b7⟩
    · refine WS_skip fun tm ht => ?_
      simp only [thenQ, blockQ]
      exact ⟨trivial, ht.sub (sub_cons rfl (sub_cons rfl (sub_cons rfl (sub_cons rfl (sub_cons rfl sub_nil))))), hfw, hSt, b3, b6, by rw [if_neg (by rw [hb]; simp)]; exact b7⟩
  case refine_1 =>
    clear b7 b6 b3 hSt hfw τ
    rintro τ ⟨hfw, hSt, b3, b6, b7⟩
    refine WS_seqI (l1 := [(1, _), (2, _), (3, _), (6, _), (7, _)]) (sub_cons rfl (sub_cons rfl (sub_cons rfl (sub_cons rfl (sub_cons rfl sub_nil))))) (fun τ => ∃ o2 z2, Fw B σ0 τ ∧ S (step a p.term) τ ∧ boxOf τ σ0.len = some (30, (encP p).cells) ∧ (∃ cs6, boxOf τ n6 = some (30, cs6) ∧ cs6.length = 10) ∧
      boxOf τ n7 = some (30, [.int .i64 p.kind, .int .i64 (if (p.kind == 1) = true then hf p.n else 0), .slice ((p.uses.map hf).map encN) o2 z2, .int .i64 (tf p.term).kind, .int .i64 (tf p.term).n, .str (tf p.term).name, slc ((tf p.term).args.map encT), .slice [] .exact (some true), .slice [] .exact (some true), .slice [] .exact (some true)])) ?_ ?_
    case refine_2 =>
      refine WS_reg fun K gs P hK hgs hP => ?_
      refine o_fa rfl rfl fa30_2 ?_
      refine o_ld rfl rfl (ldb b3 (pl22.trans cP2)) ?_
      refine o_len rfl rfl rfl lN ?_
      refine o_mv rfl rfl ?_
      refine o_nil (hK _ _ ?_); (try clear hK hP hgs K gs P)
      refine WS_block ?_
      refine WS.weaken (l0 := [(42, _), (41, _), (1, _), (2, _), (3, _), (6, _), (7, _), (40, _)]) (sub_cons rfl (sub_cons rfl (sub_cons rfl (sub_cons rfl (sub_cons rfl (sub_cons rfl (sub_cons rfl (sub_cons rfl (sub_nil))))))))) ?_
      refine WS_range (n := p.uses.length) (fun i l τ => l = [(42, .int .i64 i), (41, .int .i64 (p.uses.length : Nat)), (1, tv), (2, hv), (3, .ptr σ0.len 0), (6, .ptr n6 0), (7, .ptr n7 0), (40, slc (p.uses.map encN))] ∧ ∃ o2 z2, Fw B σ0 τ ∧ S (step a p.term) τ ∧ boxOf τ σ0.len = some (30, (encP p).cells) ∧ (∃ cs6, boxOf τ n6 = some (30, cs6) ∧ cs6.length = 10) ∧
        boxOf τ n7 = some (30, [.int .i64 p.kind, .int .i64 (if (p.kind == 1) = true then hf p.n else 0), .slice (((p.uses.take i).map hf).map encN) o2 z2, .int .i64 (tf p.term).kind, .int .i64 (tf p.term).n, .str (tf p.term).name, slc ((tf p.term).args.map encT), .slice [] .exact (some true), .slice [] .exact (some true), .slice [] .exact (some true)]) ∧ App τ o2 ∧ Own1 σ0.toks.length o2) (fun i l σ h => by obtain ⟨rfl, h⟩ := h; exact ⟨rfl, rfl⟩) rfl rfl rfl rfl (by have := hS.1.1; omega) ?_ ?_ p.uses.length 0 _ _ (by omega) ⟨rfl, _, _, hfw, hSt, b3, b6, b7, app_exact, trivial⟩
      · rintro i l τ hi ⟨rfl, o2, z2, hfw, hSt, b3, b6, b7, happ, hown⟩
        obtain ⟨x, hx, hmem, htake, _⟩ := take_one hi
        have hl := hS.1.1
        have he : (p.uses.take (i + 1)).map hf = (p.uses.take i).map hf ++ [hf x] := by rw [htake, List.map_append]; rfl
        refine WS_block ?_
        refine WS_reg fun K gs P hK hgs hP => ?_
        refine o_ia rfl rfl rfl (iN hx) ?_
        refine o_ld rfl rfl (ldr (pl3.trans rfl)) ?_
        refine o_as rfl rfl ?_
        refine o_nil (hK _ _ ?_); (try clear hK hP hgs K gs P)
        refine WS_draw1 rfl fun K gs P hK hgs => ?_
        refine d_p rfl rfl rfl (fun _ => rfl) (o_fa rfl rfl fa30_2 (o_nil ?_))
        refine d_ld rfl (o_ld rfl rfl (ldb b7 (pl22.trans rfl)) (o_nil ?_))
        refine d_p rfl rfl rfl (fun _ => rfl) (o_mv rfl rfl (o_nil ?_))
        refine d_p rfl rfl rfl (fun _ => rfl) (o_mv rfl rfl (o_nil ?_))
        refine d_callv rfl rfl (.cons rfl .nil) (rb.onH _ x τ (Nat.le_trans hM hfw.len) hSt) ?_
        refine d_p rfl rfl rfl (fun _ => rfl) (o_bsl rfl (.cons rfl .nil) (bsN (x := hf x)) (o_nil ?_))
        refine d_m rfl rfl rfl (fun _ => rfl) (o_app rfl (.cons rfl (.cons rfl .nil)) rfl (apN (x := hf x) (by rw [List.length_map, List.length_take]; omega) happ) (o_nil ?_))
        refine d_p rfl rfl rfl (fun _ => rfl) (o_fa rfl rfl fa30_2 (o_nil ?_))
        refine d_st rfl (o_st rfl rfl (store_box (box_own_of b7) sz22 rfl (Nat.le_of_ble_eq_true rfl) rfl (refS fun x => encN_good)) (o_nil ?_))
        refine d_nil (hK _ _ _ (by kernel_rfl) fun tm ht => ?_); (try clear hK hgs K gs P)
        (try simp only [thenQ, blockQ]); exact RoundTo.mk ht (l' := [(42, _), (41, _), (1, _), (2, _), (3, _), (6, _), (7, _), (40, _)]) (sub_cons rfl (sub_cons rfl (sub_cons rfl (sub_cons rfl (sub_cons rfl (sub_cons rfl (sub_cons rfl (sub_cons rfl (sub_nil))))))))) ⟨rfl, _, sub_cons rfl (sub_cons rfl (sub_cons rfl (sub_cons rfl (sub_cons rfl (sub_cons rfl (sub_cons rfl (sub_cons rfl (sub_nil)))))))), rfl, _, _, (hfw.own hown).1.upd (by omega) hB, rb.low _ τ _ (fun b hb => (own_upd_box (by omega))) hSt, box_upd_of (box_own_of b3) (by omega), ⟨_, box_upd_of (box_own_of b6.choose_spec.1) (by omega), b6.choose_spec.2⟩, (by rw [he]; exact box_upd' (box_own_of b7)), app_upd.2 app_own, (hfw.own hown).2⟩
      · rintro l τ ⟨rfl, o2, z2, hfw, hSt, b3, b6, b7, happ, hown⟩ tm ht
        rw [List.take_length] at b7
        simp only [thenQ, blockQ, if_true]
        exact ⟨trivial, ht.sub (sub_cons rfl (sub_cons rfl (sub_cons rfl (sub_cons rfl (sub_cons rfl sub_nil))))), o2, z2, hfw, hSt, b3, b6, b7⟩
    case refine_1 =>
      clear b7 b6 b3 hSt hfw τ
      rintro τ ⟨o2, z2, hfw, hSt, b3, b6, b7⟩
      refine WS_seqI (l1 := [(1, _), (2, _), (3, _), (6, _), (7, _)]) (sub_cons rfl (sub_cons rfl (sub_cons rfl (sub_cons rfl (sub_cons rfl sub_nil))))) (fun τ => ∃ o2 z2 o4 z4, Fw B σ0 τ ∧ S ((p.term :: p.spine.flatMap travU).foldl step a) τ ∧ boxOf τ σ0.len = some (30, (encP p).cells) ∧ (∃ cs6, boxOf τ n6 = some (30, cs6) ∧ cs6.length = 10) ∧ boxOf τ n7 = some (30, [.int .i64 p.kind, .int .i64 (if (p.kind == 1) = true then hf p.n else 0), .slice ((p.uses.map hf).map encN) o2 z2, .int .i64 (tf p.term).kind, .int .i64 (tf p.term).n, .str (tf p.term).name, slc ((tf p.term).args.map encT), .slice ((p.spine.map (rebU tf hf)).map encU) o4 z4, .slice [] .exact (some true), .slice [] .exact (some true)])) ?_ ?_
      case refine_2 =>
        refine WS_reg fun K gs P hK hgs hP => ?_
        refine o_fa rfl rfl fa30_4 ?_
        refine o_ld rfl rfl (ldb b3 (pl26.trans cP4)) ?_
        refine o_len rfl rfl rfl lU ?_
        refine o_mv rfl rfl ?_
        refine o_nil (hK _ _ ?_); (try clear hK hP hgs K gs P)
        refine WS_block ?_
        refine WS.weaken (l0 := [(58, _), (57, _), (1, _), (2, _), (3, _), (6, _), (7, _), (56, _)]) (sub_cons rfl (sub_cons rfl (sub_cons rfl (sub_cons rfl (sub_cons rfl (sub_cons rfl (sub_cons rfl (sub_cons rfl (sub_nil))))))))) ?_
        refine WS_range (n := p.spine.length) (fun i l τ => l = [(58, .int .i64 i), (57, .int .i64 (p.spine.length : Nat)), (1, tv), (2, hv), (3, .ptr σ0.len 0), (6, .ptr n6 0), (7, .ptr n7 0), (56, slc (p.spine.map encU))] ∧ ∃ o4 z4, Fw B σ0 τ ∧ S ((p.term :: (p.spine.take i).flatMap travU).foldl step a) τ ∧ boxOf τ σ0.len = some (30, (encP p).cells) ∧ (∃ cs6, boxOf τ n6 = some (30, cs6) ∧ cs6.length = 10) ∧
          boxOf τ n7 = some (30, [.int .i64 p.kind, .int .i64 (if (p.kind == 1) = true then hf p.n else 0), .slice ((p.uses.map hf).map encN) o2 z2, .int .i64 (tf p.term).kind, .int .i64 (tf p.term).n, .str (tf p.term).name, slc ((tf p.term).args.map encT), .slice (((p.spine.take i).map (rebU tf hf)).map encU) o4 z4, .slice [] .exact (some true), .slice [] .exact (some true)]) ∧ App τ o4 ∧ Own1 σ0.toks.length o4) (fun i l σ h => by obtain ⟨rfl, h⟩ := h; exact ⟨rfl, rfl⟩) rfl rfl rfl rfl (by have := hS.1.2.2.1; omega) ?_ ?_ p.spine.length 0 _ _ (by omega) ⟨rfl, _, _, hfw, by simpa using hSt, b3, b6, b7, app_exact, trivial⟩
        · rintro i l τ hi ⟨rfl, o4, z4, hfw, hSt, b3, b6, b7, happ, hown⟩
          obtain ⟨u, hu, hmem, htake, _⟩ := take_one hi
          have hl := hS.1.2.2.1
          have he : (p.spine.take (i + 1)).map (rebU tf hf) = (p.spine.take i).map (rebU tf hf) ++ [rebU tf hf u] := by rw [htake, List.map_append]; rfl
          refine WS_block ?_
          refine WS_reg fun K gs P hK hgs hP => ?_
          refine o_ia rfl rfl rfl (iU hu) ?_
          refine o_ld rfl rfl (ldr wU) ?_
          refine o_al rfl zr64 rfl rfl ?_
          refine o_st rfl rfl stU ?_
          refine o_nil (hK _ _ ?_); (try clear hK hP hgs K gs P)
          have hfw1 := hfw.put (t := 64) (cs := (encU u).cells) hB
          have hlen := hfw.len
          have g3 := box_put_of (t := 64) (cs := (encU u).cells) b3
          have g6 := box_put_of (t := 64) (cs := (encU u).cells) b6.choose_spec.1
          have g7 := box_put_of (t := 64) (cs := (encU u).cells) b7
          have gu := box_put (σ := τ) (t := 64) (cs := (encU u).cells)
          have hS1 := rb.low _ τ (τ.put 64 (encU u).cells) (fun b hb => by simp only [LH.put]; rw [List.getElem?_append_left (by show b < τ.len; omega)]) hSt
          have hap1 := (app_put (t := 64) (cs := (encU u).cells)).2 happ
          have hnn : (τ.put 64 (encU u).cells).len = τ.len + 1 := put_len
          generalize τ.put 64 (encU u).cells = τ1 at *
          have hoku : okT u.term := hok u.term (by rw [trav_eq]; exact List.mem_cons_of_mem _ (List.mem_append_left _ (List.mem_append_left _ (List.mem_flatMap.2 ⟨u, hmem, by rw [travU]; simp⟩))))
          have hfw2 := hfw1.push (o := .cells 64 (LV.agg [.int .i64 0, .int .i64 0, .int .i64 0, .str ⟨#[]⟩, .slice [] .exact (some true), .slice [] .exact (some true)]).cells) hB
          obtain ⟨cr1, c1, c2, c3, c4⟩ := rb.onT _ u.term (τ1.push (.cells 64 (LV.agg [.int .i64 0, .int .i64 0, .int .i64 0, .str ⟨#[]⟩, .slice [] .exact (some true), .slice [] .exact (some true)]).cells)) hoku (Nat.le_trans hM hfw2.len) (rb.low _ τ1 _ (fun b hb => by simp only [LH.push]; rw [List.getElem?_append_left (by show b < τ1.len; omega)]) hS1)
          refine WS_draw (by simp only [hoist, zr64]; rfl) fun K gs P hK hgs => ?_
          refine d_p rfl rfl rfl (fun _ => rfl) (o_fa rfl rfl fa64_0 (o_nil ?_))
          refine d_ld rfl (o_ld rfl rfl (ldb (box_push_of gu) (pl3.trans cU0)) (o_nil ?_))
          refine d_p rfl rfl rfl (fun _ => rfl) (o_mv rfl rfl (o_nil ?_))
          refine d_p rfl rfl rfl (fun _ => rfl) (o_fa rfl rfl fa64_1 (o_nil ?_))
          refine d_ld rfl (o_ld rfl rfl (ldb (box_push_of gu) tU) (o_nil ?_))
          refine d_callw rfl rfl (.cons rfl .nil) c1 c2 c3 fun kd hkd => ?_
          have hfw3 := hfw2.then c3
          have hn12 : τ1.len ≠ B := by omega
          have d12 := box_fb box_push c3 hn12
          refine d_p rfl rfl rfl (fun _ => rfl) (o_bld rfl (.cons rfl (.cons rfl .nil)) bldU (o_nil ?_))
          refine d_al rfl ?_
          refine d_st rfl (o_st rfl rfl (store_box d12 sz64 rfl (Nat.le_of_ble_eq_true rfl) rfl (refA (refs_cons rfl (refs_cons rfl (refs_cons rfl (refs_cons rfl (refs_cons (refS encT_good) (refs_cons rfl rfl)))))))) (o_nil ?_))
          refine d_nil (hK _ _ _ ?dok ?_); (try clear hK hgs K gs P)
          case dok =>
            have q7 : (τ1.len == B) = false := by simp; omega
            have q3 : (τ.len == B) = false := by simp; omega
            refine drawOK_w (B := B) (rs1 := [⟨0, .pure⟩, ⟨1, .load τ.len⟩, ⟨2, .pure⟩, ⟨3, .pure⟩, ⟨4, .load τ.len⟩]) (rs2 := [⟨6, .pure⟩, ⟨7, .alloc τ1.len⟩, ⟨8, .move [τ1.len]⟩]) hkd (by kernel_rfl) ?_ ?_
            · have h8 : normR B ⟨8, .move [τ1.len]⟩ = ⟨8, .move [τ1.len]⟩ := by simp [normR, q7]
              have hm : ([⟨6, .pure⟩, ⟨7, .alloc τ1.len⟩, ⟨8, .move [τ1.len]⟩] : List Rec).map (normR B) = [⟨6, .pure⟩, ⟨7, .alloc τ1.len⟩, ⟨8, .move [τ1.len]⟩] := by simp only [List.map_cons, List.map_nil, h8]; rfl
              rw [hm]
              clear hm h8
              show drawOK _ _ _ = true
              kernel_rfl
            · intro r hr
              simp only [List.cons_append, List.nil_append, List.mem_cons, List.not_mem_nil, or_false] at hr
              rcases hr with rfl | rfl | rfl | rfl | rfl | rfl | rfl | rfl <;> simp [noB, q3, q7, bne]
          have lt3 := box_lt b3
          have lt6 := box_lt b6.choose_spec.1
          have lt7 := box_lt b7
          refine WS_st (F := fun τ2 => Fw B σ0 τ2 ∧ S ((p.term :: ((p.spine.take i).flatMap travU ++ [u.term])).foldl step a) τ2 ∧ boxOf τ2 σ0.len = some (30, (encP p).cells) ∧ boxOf τ2 τ.len = some (64, (encU u).cells) ∧ (∃ cs6, boxOf τ2 n6 = some (30, cs6) ∧ cs6.length = 10) ∧ boxOf τ2 n7 = some (30, [.int .i64 p.kind, .int .i64 (if (p.kind == 1) = true then hf p.n else 0), .slice ((p.uses.map hf).map encN) o2 z2, .int .i64 (tf p.term).kind, .int .i64 (tf p.term).n, .str (tf p.term).name, slc ((tf p.term).args.map encT), .slice (((p.spine.take i).map (rebU tf hf)).map encU) o4 z4, .slice [] .exact (some true), .slice [] .exact (some true)]) ∧ boxOf τ2 τ1.len = some (64, [.int .i64 u.kind, .int .i64 (tf u.term).kind, .int .i64 (tf u.term).n, .str (tf u.term).name, slc ((tf u.term).args.map encT), .slice [] .exact (some true)]) ∧ App τ2 o4 ∧ τ1.len < τ2.len) ⟨hfw3.upd (by omega) hB, rb.low _ _ _ (fun b hb => by simp only [LH.upd]; rw [List.getElem?_set_ne (by omega)]) (by rw [← List.cons_append, List.foldl_append]; exact c4), box_upd_of (box_fb (box_push_of g3) c3 (by omega)) (by omega), box_upd_of (box_fb (box_push_of gu) c3 (by omega)) (by omega), ⟨_, box_upd_of (box_fb (box_push_of g6) c3 (by omega)) (by omega), b6.choose_spec.2⟩, box_upd_of (box_fb (box_push_of g7) c3 (by omega)) (by omega), box_upd' d12, app_upd.2 (App.fb (app_push.2 hap1) c3), by rw [upd_len]; exact Nat.lt_of_lt_of_eq (Nat.lt_succ_self _) (push_len.symm.trans c3.len.symm)⟩ ?_
          clear c4 c3 c2 c1 cr1 hkd kd d12 hfw3 hfw2 hfw1 g3 g6 g7 gu hS1 hap1 b3 b6 b7 hSt hfw happ
          rintro τ2 ⟨hfw, hSt, b3, b11, b6, b7, b12, happ, hlt⟩
          have hlen2 := hfw.len
          have hT2 : σ0.toks.length ≤ τ2.toks.length := Tk.le hfw.toks
          have hlu : u.l.length < 1073741824 := (hS.1.2.2.2.1 u hmem).2
          have hku : ∀ x ∈ u.l, x ∈ p.kids := fun x hx => List.mem_append_left _ (List.mem_flatMap.2 ⟨u, hmem, hx⟩)
          have hoku2 : ∀ x ∈ u.l, ∀ t ∈ trav x, okT t := fun x hx t ht => hok t (by rw [trav_eq]; exact List.mem_cons_of_mem _ (List.mem_append_left _ (List.mem_append_left _ (List.mem_flatMap.2 ⟨u, hmem, by rw [travU]; exact List.mem_cons_of_mem _ (List.mem_flatMap.2 ⟨x, hx, ht⟩)⟩))))
          refine WS_seq ?_
          refine WS_reg fun K gs P hK hgs hP => ?_
          refine o_fa rfl rfl fa64_2 ?_
          refine o_ld rfl rfl (ldb b11 (pl28.trans cU2)) ?_
          refine o_len rfl rfl rfl lP ?_
          refine o_mv rfl rfl ?_
          refine o_nil (hK _ _ ?_); (try clear hK hP hgs K gs P)
          refine WS_block ?_
          refine WS.weaken (l0 := [(72, _), (71, _), (1, _), (2, _), (3, _), (6, _), (7, _), (12, _), (56, _), (57, _), (58, _), (70, _)]) (sub_cons rfl (sub_cons rfl (sub_cons rfl (sub_cons rfl (sub_cons rfl (sub_cons rfl (sub_cons rfl (sub_cons rfl (sub_cons rfl (sub_cons rfl (sub_cons rfl (sub_cons rfl (sub_nil))))))))))))) ?_
          refine WS_range (n := u.l.length) (fun j l τ' => l = [(72, .int .i64 j), (71, .int .i64 (u.l.length : Nat)), (1, tv), (2, hv), (3, .ptr σ0.len 0), (6, .ptr n6 0), (7, .ptr n7 0), (12, .ptr τ1.len 0), (56, slc (p.spine.map encU)), (57, .int .i64 (p.spine.length : Nat)), (58, .int .i64 i), (70, slc (u.l.map encP))] ∧ ∃ o z, Fw B σ0 τ' ∧ Tk τ2.toks τ' ∧ S ((p.term :: ((p.spine.take i).flatMap travU ++ (u.term :: (u.l.take j).flatMap trav))).foldl step a) τ' ∧ boxOf τ' σ0.len = some (30, (encP p).cells) ∧ (∃ cs6, boxOf τ' n6 = some (30, cs6) ∧ cs6.length = 10) ∧ boxOf τ' n7 = some (30, [.int .i64 p.kind, .int .i64 (if (p.kind == 1) = true then hf p.n else 0), .slice ((p.uses.map hf).map encN) o2 z2, .int .i64 (tf p.term).kind, .int .i64 (tf p.term).n, .str (tf p.term).name, slc ((tf p.term).args.map encT), .slice (((p.spine.take i).map (rebU tf hf)).map encU) o4 z4, .slice [] .exact (some true), .slice [] .exact (some true)]) ∧ boxOf τ' τ1.len = some (64, [.int .i64 u.kind, .int .i64 (tf u.term).kind, .int .i64 (tf u.term).n, .str (tf u.term).name, slc ((tf u.term).args.map encT), .slice (((u.l.take j).map (rebP tf hf)).map encP) o z]) ∧ App τ' o ∧ Own1 τ2.toks.length o) (fun i l σ h => by obtain ⟨rfl, h⟩ := h; exact ⟨rfl, rfl⟩) rfl rfl rfl rfl (by omega) ?_ ?_ u.l.length 0 _ _ (by omega) ⟨rfl, _, _, hfw, Tk.refl, by simpa using hSt, b3, b6, b7, b12, app_exact, trivial⟩
          · rintro j l τ' hj ⟨rfl, o, z, hfw, htk, hSt, b3, b6, b7, b12, hap, hown⟩
            obtain ⟨x, hx, hmx, htk2, _⟩ := take_one hj
            have he2 : (u.l.take (j + 1)).map (rebP tf hf) = (u.l.take j).map (rebP tf hf) ++ [rebP tf hf x] := by rw [htk2, List.map_append]; rfl
            refine WS_block ?_
            refine WS_reg fun K gs P hK hgs hP => ?_
            refine o_ia rfl rfl rfl (iP hx) ?_
            refine o_ld rfl rfl (ldr wP) ?_
            refine o_al rfl zr30 rfl rfl ?_
            refine o_st rfl rfl stP ?_
            refine o_nil (hK _ _ ?_); (try clear hK hP hgs K gs P)
            have hfw2 := hfw.put (t := 30) (cs := (encP x).cells) hB
            have hlen' := hfw.len
            obtain ⟨cr, c1, c2, c3, c4⟩ := ih x (hku x hmx) (hS.2 x (hku x hmx)) (hoku2 x hmx) _ (τ'.put 30 (encP x).cells) (Nat.le_trans hM hfw2.len) (rb.low _ τ' _ (fun b hb => by simp only [LH.put]; rw [List.getElem?_append_left (by show b < τ'.len; omega)]) hSt)
            have hfw3 := hfw2.then c3
            have htk3 : Tk τ2.toks (cr.st (τ'.put 30 (encP x).cells)) := Tk.fb (τ := τ'.put 30 (encP x).cells) htk c3
            have d7 := box_fb (box_put_of (t := 30) (cs := (encP x).cells) b7) c3 (by omega)
            have d6 := box_fb (box_put_of (t := 30) (cs := (encP x).cells) b6.choose_spec.1) c3 (by omega)
            have d3 := box_fb (box_put_of (t := 30) (cs := (encP x).cells) b3) c3 (by omega)
            have d12 := box_fb (box_put_of (t := 30) (cs := (encP x).cells) b12) c3 (by omega)
            have hap2 := (app_put (t := 30) (cs := (encP x).cells)).2 hap |>.fb c3
            refine WS_draw1 rfl fun K gs P hK hgs => ?_
            refine d_p rfl rfl rfl (fun _ => rfl) (o_fa rfl rfl fa64_2 (o_nil ?_))
            refine d_ld rfl (o_ld rfl rfl (ldb (box_put_of b12) (pl28.trans rfl)) (o_nil ?_))
            refine d_ld rfl (o_ld rfl rfl (ldb box_put wP) (o_nil ?_))
            refine d_p rfl rfl rfl (fun _ => rfl) (o_mv rfl rfl (o_nil ?_))
            refine d_p rfl rfl rfl (fun _ => rfl) (o_mv rfl rfl (o_nil ?_))
            refine d_callw rfl rfl (.cons rfl (.cons rfl (.cons rfl .nil))) c1 c2 c3 fun kd hkd => ?_
            refine d_p rfl rfl rfl (fun _ => rfl) (o_bsl rfl (.cons rfl .nil) bsP (o_nil ?_))
            refine d_m rfl rfl rfl (fun _ => rfl) (o_app rfl (.cons rfl (.cons rfl .nil)) rfl (apP (by rw [List.length_map, List.length_take]; omega) hap2) (o_nil ?_))
            refine d_p rfl rfl rfl (fun _ => rfl) (o_fa rfl rfl fa64_2 (o_nil ?_))
            refine d_st rfl (o_st rfl rfl (store_box (box_own_of d12) sz28 rfl (Nat.le_of_ble_eq_true rfl) rfl (refS encP_good)) (o_nil ?_))
            refine d_nil (hK _ _ _ ?dok fun tm ht => ?_); (try clear hK hgs K gs P)
            case dok =>
              have q7 : (τ1.len == B) = false := by simp; omega
              have q3 : (τ'.len == B) = false := by simp; omega
              refine drawOK_w (B := B) (rs1 := [⟨0, .pure⟩, ⟨1, .load τ1.len⟩, ⟨2, .load τ'.len⟩, ⟨3, .pure⟩, ⟨4, .pure⟩]) (rs2 := [⟨6, .pure⟩, ⟨7, .move []⟩, ⟨8, .pure⟩, ⟨9, .move [τ1.len]⟩]) hkd (by kernel_rfl) ?_ ?_
              · have h8 : normR B ⟨9, .move [τ1.len]⟩ = ⟨9, .move [τ1.len]⟩ := by simp [normR, q7]
                have hm : ([⟨6, .pure⟩, ⟨7, .move []⟩, ⟨8, .pure⟩, ⟨9, .move [τ1.len]⟩] : List Rec).map (normR B) = [⟨6, .pure⟩, ⟨7, .move []⟩, ⟨8, .pure⟩, ⟨9, .move [τ1.len]⟩] := by simp only [List.map_cons, List.map_nil, h8]; rfl
                rw [hm]
                clear hm h8
                show drawOK _ _ _ = true
                kernel_rfl
              · intro r hr
                simp only [List.cons_append, List.nil_append, List.mem_cons, List.not_mem_nil, or_false] at hr
                rcases hr with rfl | rfl | rfl | rfl | rfl | rfl | rfl | rfl | rfl <;> simp [noB, q3, q7, bne]
            (try simp only [thenQ, blockQ]); exact RoundTo.mk ht (l' := [(72, _), (71, _), (1, _), (2, _), (3, _), (6, _), (7, _), (12, _), (56, _), (57, _), (58, _), (70, _)]) (sub_cons rfl (sub_cons rfl (sub_cons rfl (sub_cons rfl (sub_cons rfl (sub_cons rfl (sub_cons rfl (sub_cons rfl (sub_cons rfl (sub_cons rfl (sub_cons rfl (sub_cons rfl (sub_nil))))))))))))) ⟨rfl, _, sub_cons rfl (sub_cons rfl (sub_cons rfl (sub_cons rfl (sub_cons rfl (sub_cons rfl (sub_cons rfl (sub_cons rfl (sub_cons rfl (sub_cons rfl (sub_cons rfl (sub_cons rfl (sub_nil)))))))))))), rfl, _, _, (hfw3.own (hown.mono hT2)).1.upd (by omega) hB, (htk3.own hown).1, rb.low _ _ _ (fun b hb => (own_upd_box (by omega))) (by rw [htk2]; have := c4; simp [List.foldl_append, List.flatMap_append] at this ⊢; exact this), box_upd_of (box_own_of d3) (by omega), ⟨_, box_upd_of (box_own_of d6) (by omega), b6.choose_spec.2⟩, box_upd_of (box_own_of d7) (by omega), (by rw [he2]; exact box_upd' (box_own_of d12)), app_upd.2 app_own, (htk3.own hown).2⟩
          · rintro l τ' ⟨rfl, o, z, hfw, htk, hSt, b3, b6, b7, b12, hap, hownI⟩ tm ht
            rw [List.take_length] at b12 hSt
            have hap4 := happ.tk htk
            have hlen' := hfw.len
            have eU : LV.agg [.int .i64 u.kind, .int .i64 (tf u.term).kind, .int .i64 (tf u.term).n, .str (tf u.term).name, slc ((tf u.term).args.map encT), slc ((u.l.map (rebP tf hf)).map encP)] = encU (rebU tf hf u) := by rw [encU_eq]; rfl
            simp only [thenQ, blockQ, if_true]; refine WS_of ?_ ht; clear ht tm
            refine WS_reg1 fun K gs P hK hgs hP => ?_
            refine o_fa rfl rfl fa30_4 ?_
            refine o_ld rfl rfl (ldb b7 (pl26.trans rfl)) ?_
            refine o_ld rfl rfl (ldb b12 (pl64.trans rfl)) ?_
            refine o_bsl rfl (.cons rfl .nil) (bsU'.trans (by rw [eU])) ?_
            refine o_app rfl (.cons rfl (.cons rfl .nil)) rfl (apU (by rw [List.length_map, List.length_take]; omega) hap4) ?_
            refine o_fa rfl rfl fa30_4 ?_
            refine o_st rfl rfl (store_box (box_own_of b7) sz26 rfl (Nat.le_of_ble_eq_true rfl) rfl (refS encU_good)) ?_
            refine o_nil (hK _ _ fun tm ht => ?_); (try clear hK hP hgs K gs P)
            (try simp only [thenQ, blockQ]); exact RoundTo.mk ht (l' := [(58, _), (57, _), (1, _), (2, _), (3, _), (6, _), (7, _), (56, _)]) (sub_cons rfl (sub_cons rfl (sub_cons rfl (sub_cons rfl (sub_cons rfl (sub_cons rfl (sub_cons rfl (sub_cons rfl (sub_nil))))))))) ⟨rfl, _, sub_cons rfl (sub_cons rfl (sub_cons rfl (sub_cons rfl (sub_cons rfl (sub_cons rfl (sub_cons rfl (sub_cons rfl (sub_nil)))))))), rfl, _, _, (hfw.own hown).1.upd (by omega) hB, rb.low _ _ _ (fun b hb => (own_upd_box (by omega))) (by rw [htake, List.flatMap_append]; simpa [travU] using hSt), box_upd_of (box_own_of b3) (by omega), ⟨_, box_upd_of (box_own_of b6.choose_spec.1) (by omega), b6.choose_spec.2⟩, (by rw [he]; exact box_upd' (box_own_of b7)), app_upd.2 app_own, (hfw.own hown).2⟩
        · rintro l τ ⟨rfl, o4, z4, hfw, hSt, b3, b6, b7, happ, hown⟩ tm ht
          rw [List.take_length] at b7 hSt
          simp only [thenQ, blockQ, if_true]
          exact ⟨trivial, ht.sub (sub_cons rfl (sub_cons rfl (sub_cons rfl (sub_cons rfl (sub_cons rfl sub_nil))))), o2, z2, o4, z4, hfw, hSt, b3, b6, b7⟩
      case refine_1 =>
        clear b7 b6 b3 hSt hfw τ o2 z2
        rintro τ ⟨o2, z2, o4, z4, hfw, hSt, b3, b6, b7⟩
        refine WS_seqI (l1 := [(1, _), (2, _), (3, _), (6, _), (7, _)]) (sub_cons rfl (sub_cons rfl (sub_cons rfl (sub_cons rfl (sub_cons rfl sub_nil))))) (fun τ => ∃ o2 z2 o4 z4 o5 z5, Fw B σ0 τ ∧ S ((p.term :: (p.spine.flatMap travU ++ p.moves.flatMap Move.terms)).foldl step a) τ ∧ boxOf τ σ0.len = some (30, (encP p).cells) ∧ (∃ cs6, boxOf τ n6 = some (30, cs6) ∧ cs6.length = 10) ∧ boxOf τ n7 = some (30, [.int .i64 p.kind, .int .i64 (if (p.kind == 1) = true then hf p.n else 0), .slice ((p.uses.map hf).map encN) o2 z2, .int .i64 (tf p.term).kind, .int .i64 (tf p.term).n, .str (tf p.term).name, slc ((tf p.term).args.map encT), .slice ((p.spine.map (rebU tf hf)).map encU) o4 z4, .slice ((p.moves.map (rebM tf hf)).map encM) o5 z5, .slice [] .exact (some true)])) ?_ ?_
        case refine_2 =>
          refine WS_reg fun K gs P hK hgs hP => ?_
          refine o_fa rfl rfl fa30_5 ?_
          refine o_ld rfl rfl (ldb b3 (pl27.trans cP5)) ?_
          refine o_len rfl rfl rfl lM ?_
          refine o_mv rfl rfl ?_
          refine o_nil (hK _ _ ?_); (try clear hK hP hgs K gs P)
          refine WS_block ?_
          refine WS.weaken (l0 := [(96, _), (95, _), (1, _), (2, _), (3, _), (6, _), (7, _), (94, _)]) (sub_cons rfl (sub_cons rfl (sub_cons rfl (sub_cons rfl (sub_cons rfl (sub_cons rfl (sub_cons rfl (sub_cons rfl (sub_nil))))))))) ?_
          refine WS_range (n := p.moves.length) (fun i l τ => l = [(96, .int .i64 i), (95, .int .i64 (p.moves.length : Nat)), (1, tv), (2, hv), (3, .ptr σ0.len 0), (6, .ptr n6 0), (7, .ptr n7 0), (94, slc (p.moves.map encM))] ∧ ∃ o5 z5, Fw B σ0 τ ∧ S ((p.term :: (p.spine.flatMap travU ++ (p.moves.take i).flatMap Move.terms)).foldl step a) τ ∧ boxOf τ σ0.len = some (30, (encP p).cells) ∧ (∃ cs6, boxOf τ n6 = some (30, cs6) ∧ cs6.length = 10) ∧
            boxOf τ n7 = some (30, [.int .i64 p.kind, .int .i64 (if (p.kind == 1) = true then hf p.n else 0), .slice ((p.uses.map hf).map encN) o2 z2, .int .i64 (tf p.term).kind, .int .i64 (tf p.term).n, .str (tf p.term).name, slc ((tf p.term).args.map encT), .slice ((p.spine.map (rebU tf hf)).map encU) o4 z4, .slice (((p.moves.take i).map (rebM tf hf)).map encM) o5 z5, .slice [] .exact (some true)]) ∧ App τ o5 ∧ Own1 σ0.toks.length o5) (fun i l σ h => by obtain ⟨rfl, h⟩ := h; exact ⟨rfl, rfl⟩) rfl rfl rfl rfl (by have := hS.1.2.2.2.2.1; omega) ?_ ?_ p.moves.length 0 _ _ (by omega) ⟨rfl, _, _, hfw, by simpa using hSt, b3, b6, b7, app_exact, trivial⟩
          · rintro i l τ hi ⟨rfl, o5, z5, hfw, hSt, b3, b6, b7, happ, hown⟩
            obtain ⟨m, hm, hmem, htake, _⟩ := take_one hi
            have lt3 := box_lt b3
            have lt6 := box_lt b6.choose_spec.1
            have lt7 := box_lt b7
            have hlen := hfw.len
            have hlm := hS.1.2.2.2.2.1
            have hsmm := hS.1.2.2.2.2.2.1 m hmem
            have he : (p.moves.take (i + 1)).map (rebM tf hf) = (p.moves.take i).map (rebM tf hf) ++ [rebM tf hf m] := by rw [htake, List.map_append]; rfl
            refine WS_block ?_
            refine WS_reg fun K gs P hK hgs hP => ?_
            refine o_ia rfl rfl rfl (iM hm) ?_
            refine o_ld rfl rfl (ldr wM) ?_
            refine o_al rfl zr62 rfl rfl ?_
            refine o_st rfl rfl stM ?_
            refine o_nil (hK _ _ ?_); (try clear hK hP hgs K gs P)
            have hfw1 := hfw.put (t := 62) (cs := (encM m).cells) hB
            have g3 := box_put_of (t := 62) (cs := (encM m).cells) b3
            have g6 := box_put_of (t := 62) (cs := (encM m).cells) b6.choose_spec.1
            have g7 := box_put_of (t := 62) (cs := (encM m).cells) b7
            have gm := box_put (σ := τ) (t := 62) (cs := (encM m).cells)
            have hS1 := rb.low _ τ (τ.put 62 (encM m).cells) (fun b hb => by simp only [LH.put]; rw [List.getElem?_append_left (by show b < τ.len; omega)]) hSt
            have hap1 := (app_put (t := 62) (cs := (encM m).cells)).2 happ
            have hnn : (τ.put 62 (encM m).cells).len = τ.len + 1 := put_len
            generalize τ.put 62 (encM m).cells = τ1 at *
            refine WS_reg fun K gs P hK hgs hP => ?_
            refine o_mv rfl rfl ?_
            refine o_fa rfl rfl fa62_0 ?_
            refine o_ld rfl rfl (ldb gm (pl3.trans cM0)) ?_
            refine o_callv rfl rfl (.cons rfl .nil) (rb.onH _ m.n τ1 (by omega) hS1) rfl ?_
            refine o_bld rfl (.cons rfl .nil) rfl ?_
            refine o_al rfl zr62 rfl rfl ?_
            refine o_st rfl rfl (stn (v := .agg [.int .i64 (hf m.n), .slice [] .exact (some true), .slice [] .exact (some true)]) sz62 rfl rfl rfl) ?_
            refine o_nil (hK _ _ ?_); (try clear hK hP hgs K gs P)
            have hnn2 : (τ1.put 62 (LV.agg [.int .i64 (hf m.n), .slice [] .exact (some true), .slice [] .exact (some true)]).cells).len = τ1.len + 1 := put_len
            refine WS_st (F := fun τ2 => Fw B σ0 τ2 ∧ S ((p.term :: (p.spine.flatMap travU ++ (p.moves.take i).flatMap Move.terms)).foldl step a) τ2 ∧ boxOf τ2 σ0.len = some (30, (encP p).cells) ∧ boxOf τ2 τ.len = some (62, (encM m).cells) ∧ (∃ cs6, boxOf τ2 n6 = some (30, cs6) ∧ cs6.length = 10) ∧ boxOf τ2 n7 = some (30, [.int .i64 p.kind, .int .i64 (if (p.kind == 1) = true then hf p.n else 0), .slice ((p.uses.map hf).map encN) o2 z2, .int .i64 (tf p.term).kind, .int .i64 (tf p.term).n, .str (tf p.term).name, slc ((tf p.term).args.map encT), .slice ((p.spine.map (rebU tf hf)).map encU) o4 z4, .slice (((p.moves.take i).map (rebM tf hf)).map encM) o5 z5, .slice [] .exact (some true)]) ∧ boxOf τ2 τ1.len = some (62, [.int .i64 (hf m.n), .slice [] .exact (some true), .slice [] .exact (some true)]) ∧ App τ2 o5 ∧ τ1.len < τ2.len) ⟨hfw1.put hB, rb.low _ τ1 _ (fun b hb => by simp only [LH.put, CR.st]; rw [List.getElem?_append_left (by show b < τ1.len; omega)]) hS1, box_put_of g3, box_put_of gm, ⟨_, box_put_of g6, b6.choose_spec.2⟩, box_put_of g7, box_put, app_put.2 hap1, Nat.lt_of_lt_of_eq (Nat.lt_succ_self _) hnn2.symm⟩ ?_
            clear hfw1 g3 g6 g7 gm hS1 hap1 hnn2 b3 b6 b7 hSt hfw happ
            rintro τ2 ⟨hfw, hSt, b3, b16, b6, b7, b17, happ, hlt⟩
            have hlen2 := hfw.len
            have hT2 : σ0.toks.length ≤ τ2.toks.length := Tk.le hfw.toks
            refine WS_seq ?_
            refine WS_reg fun K gs P hK hgs hP => ?_
            refine o_fa rfl rfl fa62_1 ?_
            refine o_ld rfl rfl (ldb b16 (pl23.trans cM1)) ?_
            refine o_len rfl rfl rfl lT ?_
            refine o_mv rfl rfl ?_
            refine o_nil (hK _ _ ?_); (try clear hK hP hgs K gs P)
            refine WS_block ?_
            refine WS.weaken (l0 := [(108, _), (107, _), (1, _), (2, _), (3, _), (6, _), (7, _), (16, _), (17, _), (94, _), (95, _), (96, _), (106, _)]) (sub_cons rfl (sub_cons rfl (sub_cons rfl (sub_cons rfl (sub_cons rfl (sub_cons rfl (sub_cons rfl (sub_cons rfl (sub_cons rfl (sub_cons rfl (sub_cons rfl (sub_cons rfl (sub_cons rfl (sub_nil)))))))))))))) ?_
            refine WS_range (n := m.terms.length) (fun j l τ' => l = [(108, .int .i64 j), (107, .int .i64 (m.terms.length : Nat)), (1, tv), (2, hv), (3, .ptr σ0.len 0), (6, .ptr n6 0), (7, .ptr n7 0), (16, .ptr τ.len 0), (17, .ptr τ1.len 0), (94, slc (p.moves.map encM)), (95, .int .i64 (p.moves.length : Nat)), (96, .int .i64 i), (106, slc (m.terms.map encT))] ∧ ∃ o z, Fw B σ0 τ' ∧ Tk τ2.toks τ' ∧ S ((p.term :: (p.spine.flatMap travU ++ ((p.moves.take i).flatMap Move.terms ++ m.terms.take j))).foldl step a) τ' ∧ boxOf τ' σ0.len = some (30, (encP p).cells) ∧ (∃ cs6, boxOf τ' n6 = some (30, cs6) ∧ cs6.length = 10) ∧ boxOf τ' n7 = some (30, [.int .i64 p.kind, .int .i64 (if (p.kind == 1) = true then hf p.n else 0), .slice ((p.uses.map hf).map encN) o2 z2, .int .i64 (tf p.term).kind, .int .i64 (tf p.term).n, .str (tf p.term).name, slc ((tf p.term).args.map encT), .slice ((p.spine.map (rebU tf hf)).map encU) o4 z4, .slice (((p.moves.take i).map (rebM tf hf)).map encM) o5 z5, .slice [] .exact (some true)]) ∧ boxOf τ' τ.len = some (62, (encM m).cells) ∧ boxOf τ' τ1.len = some (62, [.int .i64 (hf m.n), .slice (((m.terms.take j).map tf).map encT) o z, .slice [] .exact (some true)]) ∧ App τ' o ∧ Own1 τ2.toks.length o) (fun i l σ h => by obtain ⟨rfl, h⟩ := h; exact ⟨rfl, rfl⟩) rfl rfl rfl rfl (by have := hsmm.1; omega) ?_ ?_ m.terms.length 0 _ _ (by omega) ⟨rfl, _, _, hfw, Tk.refl, by simpa using hSt, b3, b6, b7, b16, b17, app_exact, trivial⟩
            · rintro j l τ' hj ⟨rfl, o, z, hfw, htk, hSt, b3, b6, b7, b16, b17, hap, hown⟩
              obtain ⟨x, hx, hmx, htk2, _⟩ := take_one hj
              have he2 : (m.terms.take (j + 1)).map tf = (m.terms.take j).map tf ++ [tf x] := by rw [htk2, List.map_append]; rfl
              have hlt3 := box_lt b3
              have hlt6 := box_lt b6.choose_spec.1
              have hlt7 := box_lt b7
              have hlt17 := box_lt b17
              have hokx : okT x := hok x (by rw [trav_eq]; exact List.mem_cons_of_mem _ (List.mem_append_left _ (List.mem_append_right _ (List.mem_flatMap.2 ⟨m, hmem, hmx⟩))))
              refine WS_block ?_
              refine WS_reg fun K gs P hK hgs hP => ?_
              refine o_ia rfl rfl rfl (iT hx) ?_
              refine o_ld rfl rfl (ldr wT) ?_
              refine o_al rfl zr25 rfl rfl ?_
              refine o_st rfl rfl stT ?_
              refine o_nil (hK _ _ ?_); (try clear hK hP hgs K gs P)
              have hfw2 := hfw.put (t := 25) (cs := (encT x).cells) hB
              have hlen' := hfw.len
              obtain ⟨cr, c1, c2, c3, c4⟩ := rb.onT _ x (τ'.put 25 (encT x).cells) hokx (Nat.le_trans hM hfw2.len) (rb.low _ τ' _ (fun b hb => by simp only [LH.put]; rw [List.getElem?_append_left (by show b < τ'.len; omega)]) hSt)
              have hfw3 := hfw2.then c3
              have htk3 : Tk τ2.toks (cr.st (τ'.put 25 (encT x).cells)) := Tk.fb (τ := τ'.put 25 (encT x).cells) htk c3
              have d7 := box_fb (box_put_of (t := 25) (cs := (encT x).cells) b7) c3 (by omega)
              have d6 := box_fb (box_put_of (t := 25) (cs := (encT x).cells) b6.choose_spec.1) c3 (by omega)
              have d3 := box_fb (box_put_of (t := 25) (cs := (encT x).cells) b3) c3 (by omega)
              have d16 := box_fb (box_put_of (t := 25) (cs := (encT x).cells) b16) c3 (by omega)
              have d17 := box_fb (box_put_of (t := 25) (cs := (encT x).cells) b17) c3 (by omega)
              have hap2 := (app_put (t := 25) (cs := (encT x).cells)).2 hap |>.fb c3
              refine WS_draw1 rfl fun K gs P hK hgs => ?_
              refine d_p rfl rfl rfl (fun _ => rfl) (o_fa rfl rfl fa62_1 (o_nil ?_))
              refine d_ld rfl (o_ld rfl rfl (ldb (box_put_of b17) (pl23.trans rfl)) (o_nil ?_))
              refine d_p rfl rfl rfl (fun _ => rfl) (o_mv rfl rfl (o_nil ?_))
              refine d_ld rfl (o_ld rfl rfl (ldb box_put wT) (o_nil ?_))
              refine d_callw rfl rfl (.cons rfl .nil) c1 c2 c3 fun kd hkd => ?_
              refine d_p rfl rfl rfl (fun _ => rfl) (o_bsl rfl (.cons rfl .nil) bsT (o_nil ?_))
              refine d_m rfl rfl rfl (fun _ => rfl) (o_app rfl (.cons rfl (.cons rfl .nil)) rfl (apT (by have := hsmm.1; rw [List.length_map, List.length_take]; omega) hap2) (o_nil ?_))
              refine d_p rfl rfl rfl (fun _ => rfl) (o_fa rfl rfl fa62_1 (o_nil ?_))
              refine d_st rfl (o_st rfl rfl (store_box (box_own_of d17) sz23 rfl (Nat.le_of_ble_eq_true rfl) rfl (refS encT_good)) (o_nil ?_))
              refine d_nil (hK _ _ _ ?dok fun tm ht => ?_); (try clear hK hgs K gs P)
              case dok =>
                have q7 : (τ1.len == B) = false := by simp; omega
                have q3 : (τ'.len == B) = false := by simp; omega
                refine drawOK_w (B := B) (rs1 := [⟨0, .pure⟩, ⟨1, .load τ1.len⟩, ⟨2, .pure⟩, ⟨3, .load τ'.len⟩]) (rs2 := [⟨5, .pure⟩, ⟨6, .move []⟩, ⟨7, .pure⟩, ⟨8, .move [τ1.len]⟩]) hkd (by kernel_rfl) ?_ ?_
                · have h8 : normR B ⟨8, .move [τ1.len]⟩ = ⟨8, .move [τ1.len]⟩ := by simp [normR, q7]
                  have hm : ([⟨5, .pure⟩, ⟨6, .move []⟩, ⟨7, .pure⟩, ⟨8, .move [τ1.len]⟩] : List Rec).map (normR B) = [⟨5, .pure⟩, ⟨6, .move []⟩, ⟨7, .pure⟩, ⟨8, .move [τ1.len]⟩] := by simp only [List.map_cons, List.map_nil, h8]; rfl
                  rw [hm]
                  clear hm h8
                  show drawOK _ _ _ = true
                  kernel_rfl
                · intro r hr
                  simp only [List.cons_append, List.nil_append, List.mem_cons, List.not_mem_nil, or_false] at hr
                  rcases hr with rfl | rfl | rfl | rfl | rfl | rfl | rfl | rfl <;> simp [noB, q3, q7, bne]
              (try simp only [thenQ, blockQ]); exact RoundTo.mk ht (l' := [(108, _), (107, _), (1, _), (2, _), (3, _), (6, _), (7, _), (16, _), (17, _), (94, _), (95, _), (96, _), (106, _)]) (sub_cons rfl (sub_cons rfl (sub_cons rfl (sub_cons rfl (sub_cons rfl (sub_cons rfl (sub_cons rfl (sub_cons rfl (sub_cons rfl (sub_cons rfl (sub_cons rfl (sub_cons rfl (sub_cons rfl (sub_nil)))))))))))))) ⟨rfl, _, sub_cons rfl (sub_cons rfl (sub_cons rfl (sub_cons rfl (sub_cons rfl (sub_cons rfl (sub_cons rfl (sub_cons rfl (sub_cons rfl (sub_cons rfl (sub_cons rfl (sub_cons rfl (sub_cons rfl (sub_nil))))))))))))), rfl, _, _, (hfw3.own (hown.mono hT2)).1.upd (by omega) hB, (htk3.own hown).1, rb.low _ _ _ (fun b hb => (own_upd_box (by omega))) (by rw [htk2]; have := c4; simp [List.foldl_append, List.flatMap_append] at this ⊢; exact this), box_upd_of (box_own_of d3) (by omega), ⟨_, box_upd_of (box_own_of d6) (by omega), b6.choose_spec.2⟩, box_upd_of (box_own_of d7) (by omega), box_upd_of (box_own_of d16) (by omega), (by rw [he2]; exact box_upd' (box_own_of d17)), app_upd.2 app_own, (htk3.own hown).2⟩
            · rintro l τ' ⟨rfl, oT, zT, hfw, htk, hSt, b3, b6, b7, b16, b17, hap, hownI⟩ tm ht
              rw [List.take_length] at b17 hSt
              have hlen' := hfw.len
              simp only [thenQ, blockQ, if_true]; refine WS_of ?_ ht; clear ht tm
              refine WS_seq ?_
              refine WS_reg fun K gs P hK hgs hP => ?_
              refine o_fa rfl rfl fa62_2 ?_
              refine o_ld rfl rfl (ldb b16 (pl22.trans cM2)) ?_
              refine o_len rfl rfl rfl lN ?_
              refine o_mv rfl rfl ?_
              refine o_nil (hK _ _ ?_); (try clear hK hP hgs K gs P)
              refine WS_block ?_
              refine WS.weaken (l0 := [(124, _), (123, _), (1, _), (2, _), (3, _), (6, _), (7, _), (17, _), (94, _), (95, _), (96, _), (122, _)]) (sub_cons rfl (sub_cons rfl (sub_cons rfl (sub_cons rfl (sub_cons rfl (sub_cons rfl (sub_cons rfl (sub_cons rfl (sub_cons rfl (sub_cons rfl (sub_cons rfl (sub_cons rfl (sub_nil))))))))))))) ?_
              refine WS_range (n := m.uses.length) (fun j l τ' => l = [(124, .int .i64 j), (123, .int .i64 (m.uses.length : Nat)), (1, tv), (2, hv), (3, .ptr σ0.len 0), (6, .ptr n6 0), (7, .ptr n7 0), (17, .ptr τ1.len 0), (94, slc (p.moves.map encM)), (95, .int .i64 (p.moves.length : Nat)), (96, .int .i64 i), (122, slc (m.uses.map encN))] ∧ ∃ o z, Fw B σ0 τ' ∧ Tk τ2.toks τ' ∧ S ((p.term :: (p.spine.flatMap travU ++ ((p.moves.take i).flatMap Move.terms ++ m.terms))).foldl step a) τ' ∧ boxOf τ' σ0.len = some (30, (encP p).cells) ∧ (∃ cs6, boxOf τ' n6 = some (30, cs6) ∧ cs6.length = 10) ∧ boxOf τ' n7 = some (30, [.int .i64 p.kind, .int .i64 (if (p.kind == 1) = true then hf p.n else 0), .slice ((p.uses.map hf).map encN) o2 z2, .int .i64 (tf p.term).kind, .int .i64 (tf p.term).n, .str (tf p.term).name, slc ((tf p.term).args.map encT), .slice ((p.spine.map (rebU tf hf)).map encU) o4 z4, .slice (((p.moves.take i).map (rebM tf hf)).map encM) o5 z5, .slice [] .exact (some true)]) ∧ boxOf τ' τ1.len = some (62, [.int .i64 (hf m.n), .slice ((m.terms.map tf).map encT) oT zT, .slice (((m.uses.take j).map hf).map encN) o z]) ∧ App τ' o ∧ Own1 τ2.toks.length o) (fun i l σ h => by obtain ⟨rfl, h⟩ := h; exact ⟨rfl, rfl⟩) rfl rfl rfl rfl (by have := hsmm.2.1; omega) ?_ ?_ m.uses.length 0 _ _ (by omega) ⟨rfl, _, _, hfw, htk, hSt, b3, b6, b7, b17, app_exact, trivial⟩
              · clear hap hownI b3 b6 b7 b16 b17 hSt htk hfw hlen' τ'
                rintro j l τ' hj ⟨rfl, o, z, hfw, htk, hSt, b3, b6, b7, b17, hap, hown⟩
                obtain ⟨x, hx, hmx, htk2, _⟩ := take_one hj
                have he2 : (m.uses.take (j + 1)).map hf = (m.uses.take j).map hf ++ [hf x] := by rw [htk2, List.map_append]; rfl
                have hlt3 := box_lt b3
                have hlt6 := box_lt b6.choose_spec.1
                have hlt7 := box_lt b7
                have hlen' := hfw.len
                refine WS_block ?_
                refine WS_reg fun K gs P hK hgs hP => ?_
                refine o_ia rfl rfl rfl (iN hx) ?_
                refine o_ld rfl rfl (ldr (pl3.trans rfl)) ?_
                refine o_as rfl rfl ?_
                refine o_nil (hK _ _ ?_); (try clear hK hP hgs K gs P)
                refine WS_draw1 rfl fun K gs P hK hgs => ?_
                refine d_p rfl rfl rfl (fun _ => rfl) (o_fa rfl rfl fa62_2 (o_nil ?_))
                refine d_ld rfl (o_ld rfl rfl (ldb b17 (pl22.trans rfl)) (o_nil ?_))
                refine d_p rfl rfl rfl (fun _ => rfl) (o_mv rfl rfl (o_nil ?_))
                refine d_p rfl rfl rfl (fun _ => rfl) (o_mv rfl rfl (o_nil ?_))
                refine d_callv rfl rfl (.cons rfl .nil) (rb.onH _ x τ' (Nat.le_trans hM hfw.len) hSt) ?_
                refine d_p rfl rfl rfl (fun _ => rfl) (o_bsl rfl (.cons rfl .nil) (bsN (x := hf x)) (o_nil ?_))
                refine d_m rfl rfl rfl (fun _ => rfl) (o_app rfl (.cons rfl (.cons rfl .nil)) rfl (apN (x := hf x) (by have := hsmm.2.1; rw [List.length_map, List.length_take]; omega) hap) (o_nil ?_))
                refine d_p rfl rfl rfl (fun _ => rfl) (o_fa rfl rfl fa62_2 (o_nil ?_))
                refine d_st rfl (o_st rfl rfl (store_box (box_own_of b17) sz22 rfl (Nat.le_of_ble_eq_true rfl) rfl (refS fun x => encN_good)) (o_nil ?_))
                refine d_nil (hK _ _ _ (by kernel_rfl) fun tm ht => ?_); (try clear hK hgs K gs P)
                (try simp only [thenQ, blockQ]); exact RoundTo.mk ht (l' := [(124, _), (123, _), (1, _), (2, _), (3, _), (6, _), (7, _), (17, _), (94, _), (95, _), (96, _), (122, _)]) (sub_cons rfl (sub_cons rfl (sub_cons rfl (sub_cons rfl (sub_cons rfl (sub_cons rfl (sub_cons rfl (sub_cons rfl (sub_cons rfl (sub_cons rfl (sub_cons rfl (sub_cons rfl (sub_nil))))))))))))) ⟨rfl, _, sub_cons rfl (sub_cons rfl (sub_cons rfl (sub_cons rfl (sub_cons rfl (sub_cons rfl (sub_cons rfl (sub_cons rfl (sub_cons rfl (sub_cons rfl (sub_cons rfl (sub_cons rfl (sub_nil)))))))))))), rfl, _, _, (hfw.own (hown.mono hT2)).1.upd (by omega) hB, (htk.own hown).1, rb.low _ τ' _ (fun b hb => (own_upd_box (by omega))) hSt, box_upd_of (box_own_of b3) (by omega), ⟨_, box_upd_of (box_own_of b6.choose_spec.1) (by omega), b6.choose_spec.2⟩, box_upd_of (box_own_of b7) (by omega), (by rw [he2]; exact box_upd' (box_own_of b17)), app_upd.2 app_own, (htk.own hown).2⟩
              · clear hap hownI b3 b6 b7 b16 b17 hSt htk hfw hlen' τ'
                rintro l τ' ⟨rfl, o, z, hfw, htk, hSt, b3, b6, b7, b17, hap, hownI⟩ tm ht
                rw [List.take_length] at b17
                have hap4 := happ.tk htk
                have hlen' := hfw.len
                have eM : LV.agg [.int .i64 (hf m.n), slc ((m.terms.map tf).map encT), slc ((m.uses.map hf).map encN)] = encM (rebM tf hf m) := rfl
                simp only [thenQ, blockQ, if_true]; refine WS_of ?_ ht; clear ht tm
                refine WS_reg1 fun K gs P hK hgs hP => ?_
                refine o_fa rfl rfl fa30_5 ?_
                refine o_ld rfl rfl (ldb b7 (pl27.trans rfl)) ?_
                refine o_ld rfl rfl (ldb b17 (pl62.trans rfl)) ?_
                refine o_bsl rfl (.cons rfl .nil) (bsM'.trans (by rw [eM])) ?_
                refine o_app rfl (.cons rfl (.cons rfl .nil)) rfl (apM (by rw [List.length_map, List.length_take]; omega) hap4) ?_
                refine o_fa rfl rfl fa30_5 ?_
                refine o_st rfl rfl (store_box (box_own_of b7) sz27 rfl (Nat.le_of_ble_eq_true rfl) rfl (refS encM_good)) ?_
                refine o_nil (hK _ _ fun tm ht => ?_); (try clear hK hP hgs K gs P)
                (try simp only [thenQ, blockQ]); exact RoundTo.mk ht (l' := [(96, _), (95, _), (1, _), (2, _), (3, _), (6, _), (7, _), (94, _)]) (sub_cons rfl (sub_cons rfl (sub_cons rfl (sub_cons rfl (sub_cons rfl (sub_cons rfl (sub_cons rfl (sub_cons rfl (sub_nil))))))))) ⟨rfl, _, sub_cons rfl (sub_cons rfl (sub_cons rfl (sub_cons rfl (sub_cons rfl (sub_cons rfl (sub_cons rfl (sub_cons rfl (sub_nil)))))))), rfl, _, _, (hfw.own hown).1.upd (by omega) hB, rb.low _ τ' _ (fun b hb => (own_upd_box (by omega))) (by rw [htake, List.flatMap_append]; simpa using hSt), box_upd_of (box_own_of b3) (by omega), ⟨_, box_upd_of (box_own_of b6.choose_spec.1) (by omega), b6.choose_spec.2⟩, (by rw [he]; exact box_upd' (box_own_of b7)), app_upd.2 app_own, (hfw.own hown).2⟩
          · rintro l τ ⟨rfl, o5, z5, hfw, hSt, b3, b6, b7, happ, hown⟩ tm ht
            rw [List.take_length] at b7 hSt
            simp only [thenQ, blockQ, if_true]
            exact ⟨trivial, ht.sub (sub_cons rfl (sub_cons rfl (sub_cons rfl (sub_cons rfl (sub_cons rfl sub_nil))))), o2, z2, o4, z4, o5, z5, hfw, hSt, b3, b6, b7⟩
        case refine_1 =>
          clear b7 b6 b3 hSt hfw τ o2 z2 o4 z4
          rintro τ ⟨o2, z2, o4, z4, o5, z5, hfw, hSt, b3, b6, b7⟩
          have hkl : ∀ x ∈ p.l, x ∈ p.kids := fun x hx => List.mem_append_right _ hx
          have hokl : ∀ x ∈ p.l, ∀ t ∈ trav x, okT t := fun x hx t ht => hok t (by rw [trav_eq]; exact List.mem_cons_of_mem _ (List.mem_append_right _ (List.mem_flatMap.2 ⟨x, hx, ht⟩)))
          refine WS_seq ?_
          refine WS_reg fun K gs P hK hgs hP => ?_
          refine o_fa rfl rfl fa30_6 ?_
          refine o_ld rfl rfl (ldb b3 (pl28.trans cP6)) ?_
          refine o_len rfl rfl rfl lP ?_
          refine o_mv rfl rfl ?_
          refine o_nil (hK _ _ ?_); (try clear hK hP hgs K gs P)
          refine WS_block ?_
          refine WS.weaken (l0 := [(147, _), (146, _), (1, _), (2, _), (6, _), (7, _), (145, _)]) (sub_cons rfl (sub_cons rfl (sub_cons rfl (sub_cons rfl (sub_cons rfl (sub_cons rfl (sub_cons rfl (sub_nil)))))))) ?_
          refine WS_range (n := p.l.length) (fun i l τ => l = [(147, .int .i64 i), (146, .int .i64 (p.l.length : Nat)), (1, tv), (2, hv), (6, .ptr n6 0), (7, .ptr n7 0), (145, slc (p.l.map encP))] ∧ ∃ o6 z6, Fw B σ0 τ ∧ S (((p.term :: (p.spine.flatMap travU ++ p.moves.flatMap Move.terms)) ++ (p.l.take i).flatMap trav).foldl step a) τ ∧ (∃ cs6, boxOf τ n6 = some (30, cs6) ∧ cs6.length = 10) ∧ boxOf τ n7 = some (30, [.int .i64 p.kind, .int .i64 (if (p.kind == 1) = true then hf p.n else 0), .slice ((p.uses.map hf).map encN) o2 z2, .int .i64 (tf p.term).kind, .int .i64 (tf p.term).n, .str (tf p.term).name, slc ((tf p.term).args.map encT), .slice ((p.spine.map (rebU tf hf)).map encU) o4 z4, .slice ((p.moves.map (rebM tf hf)).map encM) o5 z5, .slice (((p.l.take i).map (rebP tf hf)).map encP) o6 z6]) ∧ App τ o6 ∧ Own1 σ0.toks.length o6) (fun i l σ h => by obtain ⟨rfl, h⟩ := h; exact ⟨rfl, rfl⟩) rfl rfl rfl rfl (by have := hS.1.2.2.2.2.2.2; omega) ?_ ?_ p.l.length 0 _ _ (by omega) ⟨rfl, _, _, hfw, by simpa using hSt, b6, b7, app_exact, trivial⟩
          · rintro i l τ hi ⟨rfl, o6, z6, hfw, hSt, b6, b7, happ, hown⟩
            obtain ⟨x, hx, hmem, htake, _⟩ := take_one hi
            have hl := hS.1.2.2.2.2.2.2
            have he : (p.l.take (i + 1)).map (rebP tf hf) = (p.l.take i).map (rebP tf hf) ++ [rebP tf hf x] := by rw [htake, List.map_append]; rfl
            refine WS_block ?_
            refine WS_reg fun K gs P hK hgs hP => ?_
            refine o_ia rfl rfl rfl (iP hx) ?_
            refine o_ld rfl rfl (ldr wP) ?_
            refine o_al rfl zr30 rfl rfl ?_
            refine o_st rfl rfl stP ?_
            refine o_nil (hK _ _ ?_); (try clear hK hP hgs K gs P)
            have hfw2 := hfw.put (t := 30) (cs := (encP x).cells) hB
            have hlen := hfw.len
            obtain ⟨cr, c1, c2, c3, c4⟩ := ih x (hkl x hmem) (hS.2 x (hkl x hmem)) (hokl x hmem) _ (τ.put 30 (encP x).cells) (Nat.le_trans hM hfw2.len) (rb.low _ τ _ (fun b hb => by simp only [LH.put]; rw [List.getElem?_append_left (by show b < τ.len; omega)]) hSt)
            have hfw3 := hfw2.then c3
            have d7 := box_fb (box_put_of (t := 30) (cs := (encP x).cells) b7) c3 (by omega)
            have d6 := box_fb (box_put_of (t := 30) (cs := (encP x).cells) b6.choose_spec.1) c3 (by omega)
            have hap2 := (app_put (t := 30) (cs := (encP x).cells)).2 happ |>.fb c3
            refine WS_draw1 rfl fun K gs P hK hgs => ?_
            refine d_p rfl rfl rfl (fun _ => rfl) (o_fa rfl rfl fa30_6 (o_nil ?_))
            refine d_ld rfl (o_ld rfl rfl (ldb (box_put_of b7) (pl28.trans rfl)) (o_nil ?_))
            refine d_ld rfl (o_ld rfl rfl (ldb box_put wP) (o_nil ?_))
            refine d_p rfl rfl rfl (fun _ => rfl) (o_mv rfl rfl (o_nil ?_))
            refine d_p rfl rfl rfl (fun _ => rfl) (o_mv rfl rfl (o_nil ?_))
            refine d_callw rfl rfl (.cons rfl (.cons rfl (.cons rfl .nil))) c1 c2 c3 fun kd hkd => ?_
            refine d_p rfl rfl rfl (fun _ => rfl) (o_bsl rfl (.cons rfl .nil) bsP (o_nil ?_))
            refine d_m rfl rfl rfl (fun _ => rfl) (o_app rfl (.cons rfl (.cons rfl .nil)) rfl (apP (by rw [List.length_map, List.length_take]; omega) hap2) (o_nil ?_))
            refine d_p rfl rfl rfl (fun _ => rfl) (o_fa rfl rfl fa30_6 (o_nil ?_))
            refine d_st rfl (o_st rfl rfl (store_box (box_own_of d7) sz28 rfl (Nat.le_of_ble_eq_true rfl) rfl (refS encP_good)) (o_nil ?_))
            refine d_nil (hK _ _ _ ?dok fun tm ht => ?_); (try clear hK hgs K gs P)
            case dok =>
              have q7 : (n7 == B) = false := by simp; omega
              have q3 : (τ.len == B) = false := by simp; omega
              refine drawOK_w (B := B) (rs1 := [⟨0, .pure⟩, ⟨1, .load n7⟩, ⟨2, .load τ.len⟩, ⟨3, .pure⟩, ⟨4, .pure⟩]) (rs2 := [⟨6, .pure⟩, ⟨7, .move []⟩, ⟨8, .pure⟩, ⟨9, .move [n7]⟩]) hkd (by kernel_rfl) ?_ ?_
              · have h8 : normR B ⟨9, .move [n7]⟩ = ⟨9, .move [n7]⟩ := by simp [normR, q7]
                have hm : ([⟨6, .pure⟩, ⟨7, .move []⟩, ⟨8, .pure⟩, ⟨9, .move [n7]⟩] : List Rec).map (normR B) = [⟨6, .pure⟩, ⟨7, .move []⟩, ⟨8, .pure⟩, ⟨9, .move [n7]⟩] := by simp only [List.map_cons, List.map_nil, h8]; rfl
                rw [hm]
                clear hm h8
                show drawOK _ _ _ = true
                kernel_rfl
              · intro r hr
                simp only [List.cons_append, List.nil_append, List.mem_cons, List.not_mem_nil, or_false] at hr
                rcases hr with rfl | rfl | rfl | rfl | rfl | rfl | rfl | rfl | rfl <;> simp [noB, q3, q7, bne]
            (try simp only [thenQ, blockQ]); exact RoundTo.mk ht (l' := [(147, _), (146, _), (1, _), (2, _), (6, _), (7, _), (145, _)]) (sub_cons rfl (sub_cons rfl (sub_cons rfl (sub_cons rfl (sub_cons rfl (sub_cons rfl (sub_cons rfl (sub_nil)))))))) ⟨rfl, _, sub_cons rfl (sub_cons rfl (sub_cons rfl (sub_cons rfl (sub_cons rfl (sub_cons rfl (sub_cons rfl (sub_nil))))))), rfl, _, _, (hfw3.own hown).1.upd (by omega) hB, rb.low _ _ _ (fun b hb => (own_upd_box (by omega))) (by rw [htake, List.flatMap_append, ← List.append_assoc, List.foldl_append]; simpa using c4), ⟨_, box_upd_of (box_own_of d6) (by omega), b6.choose_spec.2⟩, (by rw [he]; exact box_upd' (box_own_of d7)), app_upd.2 app_own, (hfw3.own hown).2⟩
          · rintro l τ ⟨rfl, o6, z6, hfw, hSt, b6, b7, happ, hown⟩ tm ht
            rw [List.take_length] at b7 hSt
            simp only [thenQ, blockQ, if_true]; refine WS_of ?_ ht; clear ht tm
            obtain ⟨cs6, b6, hl6⟩ := b6
            refine WS_reg fun K gs P hK hgs hP => ?_
            refine o_ld rfl rfl (ldb b7 (pl30.trans rfl)) ?_
            refine o_st rfl rfl (store_box b6 sz30 rfl (by rw [hl6]; exact Nat.le_of_ble_eq_true rfl) rfl (refA (refs_cons rfl (refs_cons rfl (refs_cons (refS fun _ => encN_good) (refs_cons rfl (refs_cons rfl (refs_cons rfl (refs_cons (refS encT_good) (refs_cons (refS encU_good) (refs_cons (refS encM_good) (refs_cons (refS encP_good) rfl)))))))))))) ?_
            refine o_nil (hK _ _ ?_); (try clear hK hP hgs K gs P)
            refine WS_ret fun tm ht => ?_
            (try simp only [thenQ, blockQ]); rw [← hfin]
            refine endM_cell ht rfl .nil (ldb (box_upd' b6) (pl30.trans rfl)) ⟨?_, hfw.upd (by omega) hB, fun _ => rb.low _ τ _ (fun b hb => by simp only [LH.upd]; rw [List.getElem?_set_ne (by omega)]) (by rw [trav_eq]; simpa using hSt)⟩
            rw [rebP_eq, encP_eq]; rfl
end Go.Lg
end
section
set_option linter.unusedSimpArgs false
set_option maxRecDepth 20000
namespace Go.Lg
open Go.Proofs.Tryz
variable {pr : Prim}
theorem endQ_ct {L : Look} {N : Nat} {l : List (Nat × LV)} {σ : LH} {t : TypeId} {a t2 : Tmp} {b o : Nat} {v w : LV} {R : LOut → LH → Prop} {tm : Tm} (ht : SL tm N l) (hp : lk l a = some (.ptr b o)) (hv : loadL L σ t (.ptr b o) = some v) (hw : lk l t2 = some w) (h : R (.ret (.tuple [v, w])) σ) : endQ L [.cell a t, .tmp t2] R .ret ⟨tm, []⟩ σ :=
  ⟨rfl, [v, w], by simp only [resultsL, resultL, ht.2 _ _ hp, ht.2 _ _ hw, hv], h⟩
theorem trav_small : ∀ p : Proof, p.Small → ∀ t ∈ trav p, t.Small := by
  refine Proof.ind fun p ih hsm t ht => ?_
  have hS := (Proof.small_iff p).1 hsm
  rw [trav_eq] at ht
  rcases List.mem_cons.1 ht with rfl | ht
  · exact hS.1.2.1
  · rcases List.mem_append.1 ht with ht | ht
    · rcases List.mem_append.1 ht with ht | ht
      · obtain ⟨u, hu, ht⟩ := List.mem_flatMap.1 ht
        rw [travU] at ht
        rcases List.mem_cons.1 ht with rfl | ht
        · exact (hS.1.2.2.2.1 u hu).1
        · obtain ⟨x, hx, ht⟩ := List.mem_flatMap.1 ht
          have hk : x ∈ p.kids := List.mem_append_left _ (List.mem_flatMap.2 ⟨u, hu, hx⟩)
          exact ih x hk (hS.2 x hk) t ht
      · obtain ⟨m, hm, ht⟩ := List.mem_flatMap.1 ht
        exact (hS.1.2.2.2.2.2.1 m hm).2.2 t ht
    · obtain ⟨x, hx, ht⟩ := List.mem_flatMap.1 ht
      have hk : x ∈ p.kids := List.mem_append_right _ hx
      exact ih x hk (hS.2 x hk) t ht
theorem encP_canonT (p : Proof) : (encP p).canonT = encP p := by rw [encP_eq]; rfl
theorem fn8 : look.fnOf 8 = some fl8 := by kernel_rfl
theorem Weaken_ok (hpr : NoPr pr) (p : Proof) (hsm : p.Small) (hF : FormedP p = 0) (from_ by_ : Int) (hf : 0 ≤ from_ ∧ from_ ≤ 400) (hby : 0 ≤ by_ ∧ by_ ≤ 400) : Ret look pr 8 [encP p, .int .i64 from_, .int .i64 by_] (.tuple [encP (rebP id (weakN from_ by_) p), .int .i64 0]) := by
  refine Ret.of (fn := fl8) fn8 (hpr.at rfl) ⟨Nat.le_of_ble_eq_true rfl, Nat.le_of_ble_eq_true rfl⟩ (gargs_cons gP (gargs_cons gint (gargs_cons gint gargs_nil))) ⟨fun n => by simp only [LV.refOK, LV.refsOK, (encP_good _).ref n, Bool.and_true], fun n => by simp only [LV.tokOK, LV.toksOK, (encP_good _).tok n, Bool.and_true]⟩ (by simp) ?_
  show WS look pr false 33 [] (bodyOf f8) _ _ _
  simp only [bodyOf, f8]
  refine WS_reg fun K gs P hK hgs hP => ?_
  refine o_box rfl rfl zP fP rP ?_
  refine o_box rfl rfl sz3 rfl rfl ?_
  refine o_box rfl rfl sz3 rfl rfl ?_
  refine o_al rfl zr30 rfl rfl ?_
  refine o_as rfl rfl ?_
  refine o_nil (hK _ _ ?_); (try clear hK hP hgs K gs P)
  refine WS_seq ?_
  refine WS_reg fun K gs P hK hgs hP => ?_
  refine o_ld rfl rfl (ldb (box_push_of (box_push_of (box_push_of (box_push)))) wP) ?_
  refine o_call rfl (.cons rfl .nil) (Formed_ok hpr p hsm) ?_
  refine o_as rfl rfl ?_
  refine o_nil (hK _ _ ?_); (try clear hK hP hgs K gs P)
  refine WS_reg fun K gs P hK hgs hP => ?_
  refine o_mv rfl rfl ?_
  refine o_bin rfl rfl rfl neq_int ?_
  refine o_nil (hK _ _ ?_); (try clear hK hP hgs K gs P)
  refine WS_cond rfl (fun hb => by rw [hF] at hb; cases hb) (fun hb => ?_)
  refine WS_skip fun tm ht => ?_
  simp only [thenQ, blockQ, if_true]; refine WS_of ?_ ht; clear ht tm
  refine WS_seq ?_
  refine WS_regB (l1 := [(3, _), (4, _), (5, _), (6, _)]) (sub_cons rfl (sub_cons rfl (sub_cons rfl (sub_cons rfl (sub_nil))))) 28 false (fun K gs P hK hgs hP => ?_) ?_
  · have s2 : gs 2 = some 17 := by rw [hgs]; rfl
    have s6 : gs 6 = some 21 := by rw [hgs]; rfl
    have s10 : gs 10 = some 25 := by rw [hgs]; rfl
    refine o_ld rfl rfl (ldb (box_push_of (box_push_of (box_push))) (pl3.trans rfl)) ?_
    refine o_bin rfl rfl rfl lss_int ?_
    refine o_mv rfl rfl ?_
    rw [show decide (from_ < 0) = false by simp; omega]
    refine o_yes rfl s2 rfl (o_ld rfl rfl (ldb (box_push_of (box_push_of (box_push))) (pl3.trans rfl)) ?_)
    refine o_yes rfl s2 rfl (o_bin rfl rfl rfl gtr_int ?_)
    rw [show decide (from_ > 400) = false by simp; omega]
    refine o_pick rfl rfl rfl ?_
    refine o_mv rfl rfl ?_
    refine o_yes rfl s6 rfl (o_ld rfl rfl (ldb (box_push_of (box_push)) (pl3.trans rfl)) ?_)
    refine o_yes rfl s6 rfl (o_bin rfl rfl rfl lss_int ?_)
    rw [show decide (by_ < 0) = false by simp; omega]
    refine o_pick rfl rfl rfl ?_
    refine o_mv rfl rfl ?_
    refine o_yes rfl s10 rfl (o_ld rfl rfl (ldb (box_push_of (box_push)) (pl3.trans rfl)) ?_)
    refine o_yes rfl s10 rfl (o_bin rfl rfl rfl gtr_int ?_)
    rw [show decide (by_ > 400) = false by simp; omega]
    refine o_pick rfl rfl rfl ?_
    exact o_nil (hK _ (by (show some (LV.bool _) = some (LV.bool _); refine congrArg (fun b => some (LV.bool b)) ?_; first | (simp_all; done) | (simp_all; intros; omega))) (sub_cons rfl (sub_cons rfl (sub_cons rfl (sub_cons rfl (sub_nil))))))
  refine WS_cond rfl (fun hb => by cases hb) (fun hb => ?_)
  refine WS_skip fun tm ht => ?_
  simp only [thenQ, blockQ, if_true]; refine WS_of ?_ ht; clear ht tm
  refine WS_st (F := fun σ => boxOf σ 0 = some (30, (encP p).cells) ∧ weakS from_ by_ 1 2 σ ∧ (∃ cs, boxOf σ 3 = some (30, cs) ∧ cs.length = 10) ∧ σ.len = 4) ⟨box_push_of (box_push_of (box_push_of box_push)), ⟨box_push_of (box_push_of box_push), box_push_of box_push⟩, ⟨_, box_push, rfl⟩, rfl⟩ ?_
  rintro σ ⟨b0, bS, ⟨c3, b3, hl3⟩, hlen⟩
  have rb : Rb pr 4 0 (fun (_ : Unit) τ => weakS from_ by_ 1 2 τ) (.func (.func 24) [] []) (.func (.func 25) [] [.ptr 1 0, .ptr 2 0]) id (weakN from_ by_) (fun _ _ => ()) Term.Small := by
    refine ⟨by omega, fun a τ τ' h hS => ⟨box_same hS.1 (h 1 (by omega)), box_same hS.2 (h 2 (by omega))⟩, fun a t τ ht hM hS => ⟨_, copyTerm_ok (hpr.at rfl) t ht τ, rfl, Fb.refl, hS⟩, fun a n τ hM hS => Weaken1_ok hpr from_ by_ 1 2 n τ hS, ?_, rfl⟩
    simp [LV.refsOK, LV.argC, LV.canonA, LV.disown, LV.refOK]
  obtain ⟨cr, k1, k2, k3, k4⟩ := rebuilt_ok hpr rb p hsm (trav_small p hsm) () σ (by omega) bS
  have d3 := box_fb b3 k3 (by omega)
  refine WS_reg fun K gs P hK hgs hP => ?_
  refine o_ld rfl rfl (ldb b0 wP) ?_
  refine o_mkf rfl .nil (.cons rfl (.cons rfl .nil)) ?_
  refine o_callv rfl rfl (.cons rfl (.cons rfl (.cons rfl .nil))) k1 k2 ?_
  refine o_st rfl rfl (store_box d3 sz30 (encP_wd _) (by rw [hl3]; exact Nat.le_of_ble_eq_true rfl) fP ((encP_good _).ref _)) ?_
  refine o_as rfl rfl ?_
  refine o_nil (hK _ _ ?_); (try clear hK hP hgs K gs P)
  refine WS_ret fun tm ht => ?_
  refine endQ_ct ht rfl (ldb ((box_upd' d3).trans (by rw [setRange_all (by rw [hl3, encP_cells]; rfl)])) wP) rfl ?_
  show LOut.ret (.tuple [(encP _).canonT, _]) = _
  rw [encP_canonT]; rfl
end Go.Lg
end
