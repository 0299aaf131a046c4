/- Part 18 of the proof: C9 C10 C11 C12. By AI agents; no person has read it. -/
import Derived.Test.YtcdofbhflocimaaGreatT17
set_option linter.unusedVariables false
set_option linter.unusedSimpArgs false
set_option linter.unusedSectionVars false
section
set_option linter.unusedSimpArgs false
set_option maxRecDepth 20000
namespace Go.Lg
open Go.Proofs.Tryz
variable {pr : Prim}
theorem fn39 : look.fnOf 39 = some fl39 := by kernel_rfl
def bareT (t : Term) : Bool := (t.kind == 0) && (t.n == 0) && (t.name.data.toList == []) && (((t.args.length : Int)) == 0)
def formedU (u : Turn) : Bool := if ((u.kind == 1) || (u.kind == 2)) = true then bareT u.term && (((u.l.length : Int)) == 0) else if (u.kind == 3) = true then (((u.l.length : Int)) == 0) else if ((u.kind == 4) || (u.kind == 5)) = true then bareT u.term && (((u.l.length : Int)) == 1) else false
theorem formedTurn_ok (hpr : NoPr pr) (u : Turn) : Ret look pr 39 [encU u] (.bool (formedU u)) := by
  refine Ret.of (fn := fl39) fn39 (hpr.at rfl) ⟨Nat.le_of_ble_eq_true rfl, Nat.le_of_ble_eq_true rfl⟩ (gargs_cons gU gargs_nil) good_bool (by simp) ?_
  show WS look pr false 55 [] (bodyOf f39) _ _ _
  simp only [bodyOf, f39]
  refine WS_reg fun K gs P hK hgs hP => ?_
  refine o_box rfl rfl zU fU rU ?_
  refine o_as rfl rfl ?_
  refine o_nil (hK _ _ ?_); (try clear hK hP hgs K gs P)
  refine WS_regB (l1 := [(1, _)]) (sub_cons rfl (sub_nil)) 3 ((u.term.kind == 0) && (u.term.n == 0) && (u.term.name.data.toList == []) && (((u.term.args.length : Int)) == 0)) (fun K gs P hK hgs hP => ?_) ?_
  ·
    have s4 : gs 4 = some 8 := by rw [hgs]; rfl
    have s10 : gs 10 = some 14 := by rw [hgs]; rfl
    have s16 : gs 16 = some 20 := by rw [hgs]; rfl
    refine o_fa rfl rfl fa64_1 ?_
    refine o_fa rfl rfl fa25_0 ?_
    refine o_ld rfl rfl (ldb box_push (pl3.trans cU1T0)) ?_
    refine o_bin rfl rfl rfl eql_int ?_
    refine o_mv rfl rfl ?_
    refine o_split 8 rfl (fun e8 => ?_) (fun e8 => ?_)
    ·
      refine o_yes rfl s4 rfl (o_fa rfl rfl fa64_1 ?_)
      refine o_yes rfl s4 rfl (o_fa rfl rfl fa25_1 ?_)
      refine o_yes rfl s4 rfl (o_ld rfl rfl (ldb box_push (pl3.trans cU1T1)) ?_)
      refine o_yes rfl s4 rfl (o_bin rfl rfl rfl eql_int ?_)
      refine o_pick rfl rfl rfl ?_
      refine o_mv rfl rfl ?_
      refine o_split 14 rfl (fun e14 => ?_) (fun e14 => ?_)
      ·
        refine o_yes rfl s10 rfl (o_fa rfl rfl fa64_1 ?_)
        refine o_yes rfl s10 rfl (o_fa rfl rfl fa25_2 ?_)
        refine o_yes rfl s10 rfl (o_ld rfl rfl (ldb box_push (pl9.trans cU1T2)) ?_)
        refine o_yes rfl s10 rfl (o_bin rfl rfl rfl rfl ?_)
        refine o_pick rfl rfl rfl ?_
        refine o_mv rfl rfl ?_
        refine o_split 20 rfl (fun e20 => ?_) (fun e20 => ?_)
        ·
          refine o_yes rfl s16 rfl (o_fa rfl rfl fa64_1 ?_)
          refine o_yes rfl s16 rfl (o_fa rfl rfl fa25_3 ?_)
          refine o_yes rfl s16 rfl (o_ld rfl rfl (ldb box_push (pl23.trans cU1T3)) ?_)
          refine o_yes rfl s16 rfl (o_len rfl rfl rfl lT ?_)
          refine o_yes rfl s16 rfl (o_bin rfl rfl rfl eql_int ?_)
          refine o_pick rfl rfl rfl ?_
          refine o_as rfl rfl ?_
          exact o_nil (hK _ (by (show some (LV.bool _) = some (LV.bool _); refine congrArg (fun b => some (LV.bool b)) ?_; first | (simp_all; done) | (simp_all; intros; omega))) (sub_cons rfl (sub_nil)))
        ·
          refine o_no rfl rfl rfl s16 rfl ?_
          refine o_no rfl rfl rfl s16 rfl ?_
          refine o_no rfl rfl rfl s16 rfl ?_
          refine o_no rfl rfl rfl s16 rfl ?_
          refine o_no rfl rfl rfl s16 rfl ?_
          refine o_pick rfl rfl rfl ?_
          refine o_as rfl rfl ?_
          exact o_nil (hK _ (by (show some (LV.bool _) = some (LV.bool _); refine congrArg (fun b => some (LV.bool b)) ?_; first | (simp_all; done) | (simp_all; intros; omega))) (sub_cons rfl (sub_nil)))
      ·
        refine o_no rfl rfl rfl s10 rfl ?_
        refine o_no rfl rfl rfl s10 rfl ?_
        refine o_no rfl rfl rfl s10 rfl ?_
        refine o_no rfl rfl rfl s10 rfl ?_
        refine o_pick rfl rfl rfl ?_
        refine o_mv rfl rfl ?_
        refine o_no rfl rfl rfl s16 rfl ?_
        refine o_no rfl rfl rfl s16 rfl ?_
        refine o_no rfl rfl rfl s16 rfl ?_
        refine o_no rfl rfl rfl s16 rfl ?_
        refine o_no rfl rfl rfl s16 rfl ?_
        refine o_pick rfl rfl rfl ?_
        refine o_as rfl rfl ?_
        exact o_nil (hK _ (by (show some (LV.bool _) = some (LV.bool _); refine congrArg (fun b => some (LV.bool b)) ?_; first | (simp_all; done) | (simp_all; intros; omega))) (sub_cons rfl (sub_nil)))
    ·
      refine o_no rfl rfl rfl s4 rfl ?_
      refine o_no rfl rfl rfl s4 rfl ?_
      refine o_no rfl rfl rfl s4 rfl ?_
      refine o_no rfl rfl rfl s4 rfl ?_
      refine o_pick rfl rfl rfl ?_
      refine o_mv rfl rfl ?_
      refine o_no rfl rfl rfl s10 rfl ?_
      refine o_no rfl rfl rfl s10 rfl ?_
      refine o_no rfl rfl rfl s10 rfl ?_
      refine o_no rfl rfl rfl s10 rfl ?_
      refine o_pick rfl rfl rfl ?_
      refine o_mv rfl rfl ?_
      refine o_no rfl rfl rfl s16 rfl ?_
      refine o_no rfl rfl rfl s16 rfl ?_
      refine o_no rfl rfl rfl s16 rfl ?_
      refine o_no rfl rfl rfl s16 rfl ?_
      refine o_no rfl rfl rfl s16 rfl ?_
      refine o_pick rfl rfl rfl ?_
      refine o_as rfl rfl ?_
      exact o_nil (hK _ (by (show some (LV.bool _) = some (LV.bool _); refine congrArg (fun b => some (LV.bool b)) ?_; first | (simp_all; done) | (simp_all; intros; omega))) (sub_cons rfl (sub_nil)))
  refine WS_seq ?_
  refine WS_reg fun K gs P hK hgs hP => ?_
  refine o_fa rfl rfl fa64_0 ?_
  refine o_ld rfl rfl (ldb box_push (pl3.trans cU0)) ?_
  refine o_nil (hK _ _ ?_); (try clear hK hP hgs K gs P)
  refine WS_block ?_
  refine WS_seqB (l1 := [(1, _), (3, _), (28, _)]) (sub_cons rfl (sub_cons rfl (sub_cons rfl (sub_nil)))) 29 ((u.kind == 1) || (u.kind == 2)) ?_ ?_
  ·
    refine WS_reg fun K gs P hK hgs hP => ?_
    refine o_bin rfl rfl rfl eql_int ?_
    refine o_as rfl rfl ?_
    refine o_nil (hK _ _ ?_); (try clear hK hP hgs K gs P)
    refine WS_cond rfl (fun hb => ?_) (fun hb => ?_)
    ·
      refine WS_skip fun tm ht => ?_
      simp only [thenQ, blockQ, if_true]; exact ⟨trivial, ht.sub (sub_cons (by (show some (LV.bool _) = some (LV.bool _); refine congrArg (fun b => some (LV.bool b)) ?_; first | (simp_all; done) | (simp_all; intros; omega))) (sub_cons rfl (sub_cons rfl (sub_cons rfl (sub_nil))))), trivial⟩
    ·
      refine WS_reg1 fun K gs P hK hgs hP => ?_
      refine o_bin rfl rfl rfl eql_int ?_
      refine o_as rfl rfl ?_
      refine o_nil (hK _ _ fun tm ht => ?_); (try clear hK hP hgs K gs P)
      simp only [thenQ, blockQ, if_true]; exact ⟨trivial, ht.sub (sub_cons (by (show some (LV.bool _) = some (LV.bool _); refine congrArg (fun b => some (LV.bool b)) ?_; first | (simp_all; done) | (simp_all; intros; omega))) (sub_cons rfl (sub_cons rfl (sub_cons rfl (sub_nil))))), trivial⟩
  refine WS_cond rfl (fun hb => ?_) (fun hb => ?_)
  ·
    refine WS_regB (l1 := []) (sub_nil) 2 (((u.term.kind == 0) && (u.term.n == 0) && (u.term.name.data.toList == []) && (((u.term.args.length : Int)) == 0)) && (((u.l.length : Int)) == 0)) (fun K gs P hK hgs hP => ?_) ?_
    ·
      have s1 : gs 1 = some 33 := by rw [hgs]; rfl
      refine o_mv rfl rfl ?_
      refine o_mv rfl rfl ?_
      refine o_split 33 rfl (fun e33 => ?_) (fun e33 => ?_)
      ·
        refine o_yes rfl s1 rfl (o_fa rfl rfl fa64_2 ?_)
        refine o_yes rfl s1 rfl (o_ld rfl rfl (ldb box_push (pl28.trans cU2)) ?_)
        refine o_yes rfl s1 rfl (o_len rfl rfl rfl lP ?_)
        refine o_yes rfl s1 rfl (o_bin rfl rfl rfl eql_int ?_)
        refine o_pick rfl rfl rfl ?_
        refine o_as rfl rfl ?_
        exact o_nil (hK _ (by (show some (LV.bool _) = some (LV.bool _); refine congrArg (fun b => some (LV.bool b)) ?_; first | (simp_all; done) | (simp_all; intros; omega))) (sub_nil))
      ·
        refine o_no rfl rfl rfl s1 rfl ?_
        refine o_no rfl rfl rfl s1 rfl ?_
        refine o_no rfl rfl rfl s1 rfl ?_
        refine o_no rfl rfl rfl s1 rfl ?_
        refine o_pick rfl rfl rfl ?_
        refine o_as rfl rfl ?_
        exact o_nil (hK _ (by (show some (LV.bool _) = some (LV.bool _); refine congrArg (fun b => some (LV.bool b)) ?_; first | (simp_all; done) | (simp_all; intros; omega))) (sub_nil))
    refine WS_ret fun tm ht => ?_
    (try simp only [thenQ, blockQ]); refine endQ_tmp ht rfl (by simp_all [formedU, bareT, LOut.fin, LV.canonR])
  ·
    refine WS_reg fun K gs P hK hgs hP => ?_
    refine o_bin rfl rfl rfl eql_int ?_
    refine o_as rfl rfl ?_
    refine o_nil (hK _ _ ?_); (try clear hK hP hgs K gs P)
    refine WS_cond rfl (fun hb => ?_) (fun hb => ?_)
    ·
      refine WS_reg fun K gs P hK hgs hP => ?_
      refine o_fa rfl rfl fa64_2 ?_
      refine o_ld rfl rfl (ldb box_push (pl28.trans cU2)) ?_
      refine o_len rfl rfl rfl lP ?_
      refine o_bin rfl rfl rfl eql_int ?_
      refine o_as rfl rfl ?_
      refine o_nil (hK _ _ ?_); (try clear hK hP hgs K gs P)
      refine WS_ret fun tm ht => ?_
      (try simp only [thenQ, blockQ]); refine endQ_tmp ht rfl (by simp_all [formedU, bareT, LOut.fin, LV.canonR])
    ·
      refine WS_seqB (l1 := [(1, _), (3, _)]) (sub_cons rfl (sub_cons rfl (sub_nil))) 45 ((u.kind == 4) || (u.kind == 5)) ?_ ?_
      ·
        refine WS_reg fun K gs P hK hgs hP => ?_
        refine o_bin rfl rfl rfl eql_int ?_
        refine o_as rfl rfl ?_
        refine o_nil (hK _ _ ?_); (try clear hK hP hgs K gs P)
        refine WS_cond rfl (fun hb => ?_) (fun hb => ?_)
        ·
          refine WS_skip fun tm ht => ?_
          simp only [thenQ, blockQ, if_true]; exact ⟨trivial, ht.sub (sub_cons (by (show some (LV.bool _) = some (LV.bool _); refine congrArg (fun b => some (LV.bool b)) ?_; first | (simp_all; done) | (simp_all; intros; omega))) (sub_cons rfl (sub_cons rfl (sub_nil)))), trivial⟩
        ·
          refine WS_reg1 fun K gs P hK hgs hP => ?_
          refine o_bin rfl rfl rfl eql_int ?_
          refine o_as rfl rfl ?_
          refine o_nil (hK _ _ fun tm ht => ?_); (try clear hK hP hgs K gs P)
          simp only [thenQ, blockQ, if_true]; exact ⟨trivial, ht.sub (sub_cons (by (show some (LV.bool _) = some (LV.bool _); refine congrArg (fun b => some (LV.bool b)) ?_; first | (simp_all; done) | (simp_all; intros; omega))) (sub_cons rfl (sub_cons rfl (sub_nil)))), trivial⟩
      refine WS_cond rfl (fun hb => ?_) (fun hb => ?_)
      ·
        refine WS_regB (l1 := []) (sub_nil) 2 (((u.term.kind == 0) && (u.term.n == 0) && (u.term.name.data.toList == []) && (((u.term.args.length : Int)) == 0)) && (((u.l.length : Int)) == 1)) (fun K gs P hK hgs hP => ?_) ?_
        ·
          have s1 : gs 1 = some 49 := by rw [hgs]; rfl
          refine o_mv rfl rfl ?_
          refine o_mv rfl rfl ?_
          refine o_split 49 rfl (fun e49 => ?_) (fun e49 => ?_)
          ·
            refine o_yes rfl s1 rfl (o_fa rfl rfl fa64_2 ?_)
            refine o_yes rfl s1 rfl (o_ld rfl rfl (ldb box_push (pl28.trans cU2)) ?_)
            refine o_yes rfl s1 rfl (o_len rfl rfl rfl lP ?_)
            refine o_yes rfl s1 rfl (o_bin rfl rfl rfl eql_int ?_)
            refine o_pick rfl rfl rfl ?_
            refine o_as rfl rfl ?_
            exact o_nil (hK _ (by (show some (LV.bool _) = some (LV.bool _); refine congrArg (fun b => some (LV.bool b)) ?_; first | (simp_all; done) | (simp_all; intros; omega))) (sub_nil))
          ·
            refine o_no rfl rfl rfl s1 rfl ?_
            refine o_no rfl rfl rfl s1 rfl ?_
            refine o_no rfl rfl rfl s1 rfl ?_
            refine o_no rfl rfl rfl s1 rfl ?_
            refine o_pick rfl rfl rfl ?_
            refine o_as rfl rfl ?_
            exact o_nil (hK _ (by (show some (LV.bool _) = some (LV.bool _); refine congrArg (fun b => some (LV.bool b)) ?_; first | (simp_all; done) | (simp_all; intros; omega))) (sub_nil))
        refine WS_ret fun tm ht => ?_
        (try simp only [thenQ, blockQ]); refine endQ_tmp ht rfl (by simp_all [formedU, bareT, LOut.fin, LV.canonR])
      ·
        refine WS_skip fun tm ht => ?_
        simp only [thenQ, blockQ, if_true]; refine WS_of ?_ ht; clear ht tm
        refine WS_reg fun K gs P hK hgs hP => ?_
        refine o_as rfl rfl ?_
        refine o_nil (hK _ _ ?_); (try clear hK hP hgs K gs P)
        refine WS_ret fun tm ht => ?_
        (try simp only [thenQ, blockQ]); refine endQ_tmp ht rfl (by simp_all [formedU, bareT, LOut.fin, LV.canonR])
def deepP (p : Proof) : Bool := p.fold fun p us bs => (p.terms.any fun t => deepT t 100) || (us.flatten ++ bs).any id
theorem deepP_eq (p : Proof) : deepP p = ((p.terms.any fun t => deepT t 100) || p.kids.any deepP) := by
  unfold deepP
  rw [Proof.fold_kids (fun (p : Proof) (bs : List Bool) => (p.terms.any fun t => deepT t 100) || bs.any id), List.any_map]; rfl
theorem fn38 : look.fnOf 38 = some fl38 := by kernel_rfl
theorem deepTerms_ok (hpr : NoPr pr) : ∀ p : Proof, p.Small → Ret look pr 38 [encP p] (.bool (deepP p)) := by
  refine Proof.ind fun p ih hsm => ?_
  have hS := ((Proof.small_iff p).1 hsm)
  refine Ret.ofM (fn := fl38) fn38 (hpr.at rfl) ⟨Nat.le_of_ble_eq_true rfl, Nat.le_of_ble_eq_true rfl⟩ (gargs_cons gP gargs_nil) good_bool (by simp) ?_
  show WS look pr false 17 [] (bodyOf f38) _ _ _
  simp only [bodyOf, f38]
  refine WS_reg fun K gs P hK hgs hP => ?_
  refine o_box rfl rfl zP fP rP ?_
  refine o_al rfl zr4 rfl rfl ?_
  refine o_nil (hK _ _ ?_); (try clear hK hP hgs K gs P)
  refine WS_seqD (l1 := [(1, _), (2, _)]) (sub_cons rfl (sub_cons rfl sub_nil)) [.mark 3] (fun σ => σ.len = 5 ∧ boxOf σ 0 = some (30, (encP p).cells) ∧ boxOf σ 1 = some (4, [.bool false]) ∧ σ.boxes[3]? = some .dfr ∧ (p.terms.any fun t => deepT t 100) = false) ?_ ?_
  case refine_2 =>
    refine WS_reg fun K gs P hK hgs hP => ?_
    refine o_ld rfl rfl (ldb (box_push_of (box_push)) wP) ?_
    refine o_callv rfl rfl (.cons rfl .nil) (terms_call (hpr.at rfl) p _) rfl ?_
    refine o_nil (hK _ _ ?_); (try clear hK hP hgs K gs P)
    refine WS_block ?_
    refine WS.weaken (l0 := [(1, _), (2, _), (7, _)]) (sub_cons rfl (sub_cons rfl (sub_cons rfl (sub_nil)))) ?_
    refine WS_iter rfl (terms1_iter (hpr.at rfl) (hpr.at rfl) p hsm _) (fun x hx => by obtain ⟨t, _, rfl⟩ := List.mem_map.1 hx; exact ⟨rfl, canonT1⟩) rfl
      (fun i σ => boxOf σ 0 = some (30, (encP p).cells) ∧ boxOf σ 1 = some (4, [.bool false]) ∧ boxOf σ 2 = some (30, (encP p).cells) ∧ (p.terms.any fun t => deepT t 100) = ((p.terms.drop i).any fun t => deepT t 100))
      (fun e σ => e = .ret ∧ boxOf σ 1 = some (4, [.bool true]) ∧ deepP p = true)
      (fun i σ σ' hb ht ⟨h0, h1, h2, h3⟩ => ⟨box_same h0 (hb 0 (nl rfl)), box_same h1 (hb 1 (nl rfl)), box_same h2 (hb 2 (nl rfl)), h3⟩)
      (fun e σ σ' hb ht ⟨h, h1, h2⟩ => ⟨h, box_same h1 (hb 1 (nl rfl)), h2⟩)
      (fun i σ ⟨h0, h1, h2, h3⟩ => h2)
      ⟨box_push_of (box_push_of box_push), box_push_of box_push, box_push, rfl⟩ ?_ ?_ ?_
    · rintro i x σ' hx ⟨h0, h1, h2, h3⟩ hle
      obtain ⟨t, rfl, htm, hdr⟩ := terms_at hx
      have hle : 5 ≤ σ'.len := hle
      refine WS_reg1 fun K gs P hK hgs hP => ?_
      refine o_al rfl zr25 rfl rfl ?_
      refine o_st rfl rfl stT ?_
      refine o_nil (hK _ _ fun tm ht => ⟨rfl, it_fr (Nat.le_refl _) [], fun σ1 g1 g2 g3 => ?_⟩); (try clear hK hP hgs K gs P)
      have hl1 : σ1.len = σ'.len + 1 := g3.trans put_len
      have b0 : boxOf σ1 0 = some (30, (encP p).cells) := box_same (box_put_of h0) (g1 0 (nd rfl))
      have b1 : boxOf σ1 1 = some (4, [.bool false]) := box_same (box_put_of h1) (g1 1 (nd rfl))
      have b2 : boxOf σ1 2 = some (30, (encP p).cells) := box_same (box_put_of h2) (g1 2 (nd rfl))
      have b5 : boxOf σ1 σ'.len = some (25, (encT t).cells) := box_same box_put (g1 _ (show σ'.len ≠ 4 by omega))
      refine WS_of ?_ ht
      refine WS_block ?_
      refine WS_reg fun K gs P hK hgs hP => ?_
      refine o_ld rfl rfl (ldb b5 wT) ?_
      refine o_call rfl (.cons rfl (.cons rfl .nil)) (deeper_ok (hpr.at rfl) t (terms_small hsm t htm) 100 (by omega) (by omega)) ?_
      refine o_nil (hK _ _ ?_); (try clear hK hP hgs K gs P)
      refine WS_cond rfl (fun hb => ?_) (fun hb => ?_)
      · refine WS_reg fun K gs P hK hgs hP => ?_
        refine o_st rfl rfl (store_box b1 sz4 rfl (Nat.le_of_ble_eq_true rfl) rfl rfl) ?_
        refine o_nil (hK _ _ ?_); (try clear hK hP hgs K gs P)
        refine WS_ret fun tm ht => ?_
        simp only [thenQ, blockQ]
        refine ⟨trivial, fr_upd (by omega) (nl rfl), .inr ⟨⟨_, rfl⟩, trivial, box_upd' b1, ?_⟩⟩
        rw [deepP_eq, h3, hdr, List.any_cons, hb]; rfl
      · refine WS_skip fun tm ht => ?_
        simp only [thenQ, blockQ]
        refine ⟨trivial, Fr.refl (by omega), .inl ⟨trivial, b0, b1, b2, ?_⟩⟩
        rw [h3, hdr, List.any_cons, hb]; rfl
    · rintro tm σ3 ht hlen hd ⟨h0, h1, h2, h3⟩
      rw [terms_len, List.drop_length] at h3
      simp only [thenQ, blockQ]
      exact ⟨rfl, ht.sub (sub_cons rfl (sub_cons rfl sub_nil)), hlen, h0, h1, hd, h3⟩
    · rintro e tm σ3 ht hlen hd ⟨rfl, h1, h2⟩
      simp only [thenQ, blockQ]
      obtain ⟨σ', hm, hs⟩ := marks1 hd
      refine endM_cell ht rfl hm (ldb (box_same h1 (hs 1 (nd rfl))) (pl4.trans rfl)) ?_
      rw [h2]; rfl
  case refine_1 =>
    rintro σ ⟨hlen, h0, h1, hd, hterms⟩
    refine WS_seqD (l1 := [(2, _)]) (sub_cons rfl sub_nil) [.mark 6, .mark 3] (fun σ => boxOf σ 1 = some (4, [.bool false]) ∧ σ.boxes[3]? = some .dfr ∧ σ.boxes[6]? = some .dfr ∧ deepP p = false) ?_ ?_
    case refine_2 =>
      refine WS_reg fun K gs P hK hgs hP => ?_
      refine o_ld rfl rfl (ldb h0 wP) ?_
      refine o_callv rfl rfl (.cons rfl .nil) (kids_call (hpr.at rfl) p _) rfl ?_
      refine o_nil (hK _ _ ?_); (try clear hK hP hgs K gs P)
      obtain ⟨τ, hτ⟩ : ∃ τ, τ = σ.push (.cells 30 (encP p).cells) := ⟨_, rfl⟩
      show WS look pr false 17 _ _ _ (σ.push (.cells 30 (encP p).cells)) _
      have hl5 : τ.len = 6 := by rw [hτ, push_len, hlen]
      have k1 := hτ ▸ box_push_of (o := .cells 30 (encP p).cells) h1
      have k5 : boxOf τ 5 = some (30, (encP p).cells) := by rw [hτ, ← hlen]; exact box_push
      have k3 : τ.boxes[3]? = some .dfr := by rw [hτ]; exact (List.getElem?_append_left (by rw [show σ.boxes.length = 5 from hlen]; exact nl rfl)).trans hd
      rw [← hτ, hlen]
      refine WS_block ?_
      refine WS.weaken (l0 := [(2, _), (12, _)]) (sub_cons rfl (sub_cons rfl (sub_nil))) ?_
      refine WS_iter rfl (kids1_iter (hpr.at rfl) p hsm _) (fun x hx => by obtain ⟨t, _, rfl⟩ := List.mem_map.1 hx; exact ⟨rfl, canonI⟩) rfl
        (fun i σ' => boxOf σ' 1 = some (4, [.bool false]) ∧ boxOf σ' 5 = some (30, (encP p).cells) ∧ σ'.boxes[3]? = some .dfr ∧ deepP p = (p.kids.drop i).any deepP)
        (fun e σ' => e = .ret ∧ boxOf σ' 1 = some (4, [.bool true]) ∧ σ'.boxes[3]? = some .dfr ∧ deepP p = true)
        (fun i σ σ' hb ht ⟨h1, h2, h3, h4⟩ => ⟨box_same h1 (hb 1 (by rw [hl5]; exact nl rfl)), box_same h2 (hb 5 (by rw [hl5]; exact nl rfl)), by rw [hb 3 (by rw [hl5]; exact nl rfl)]; exact h3, h4⟩)
        (fun e σ σ' hb ht ⟨h, h1, h3, h4⟩ => ⟨h, box_same h1 (hb 1 (by rw [hl5]; exact nl rfl)), by rw [hb 3 (by rw [hl5]; exact nl rfl)]; exact h3, h4⟩)
        (fun i σ ⟨h1, h2, h3, h4⟩ => h2)
        ⟨k1, k5, k3, by rw [deepP_eq, hterms]; rfl⟩ ?_ ?_ ?_
      · rintro i x σ' hx ⟨h1, h2, h3, h4⟩ hle
        obtain ⟨ki, x, rfl, hxm, hdr⟩ := kids_at hx
        rw [hl5] at hle ⊢
        refine WS_reg1 fun K gs P hK hgs hP => ?_
        refine o_al rfl zr30 rfl rfl ?_
        refine o_st rfl rfl stP ?_
        refine o_nil (hK _ _ fun tm ht => ⟨rfl, it_fr (Nat.le_refl _) [], fun σ1 g1 g2 g3 => ?_⟩); (try clear hK hP hgs K gs P)
        have hl1 : σ1.len = σ'.len + 1 := g3.trans put_len
        have b1 : boxOf σ1 1 = some (4, [.bool false]) := box_same (box_put_of h1) (g1 1 (nd rfl))
        have b2 : boxOf σ1 5 = some (30, (encP p).cells) := box_same (box_put_of h2) (g1 5 (nd rfl))
        have b3 : σ1.boxes[3]? = some .dfr := (g1 3 (nd rfl)).trans ((List.getElem?_append_left (by show 3 < σ'.len; omega)).trans h3)
        have b5 : boxOf σ1 σ'.len = some (30, (encP x).cells) := box_same box_put (g1 _ (by omega))
        refine WS_of ?_ ht
        refine WS_block ?_
        refine WS_reg fun K gs P hK hgs hP => ?_
        refine o_ld rfl rfl (ldb b5 wP) ?_
        refine o_call rfl (.cons rfl .nil) (ih x hxm (hS.2 x hxm)) ?_
        refine o_nil (hK _ _ ?_); (try clear hK hP hgs K gs P)
        refine WS_cond rfl (fun hb => ?_) (fun hb => ?_)
        · refine WS_reg fun K gs P hK hgs hP => ?_
          refine o_st rfl rfl (store_box b1 sz4 rfl (Nat.le_of_ble_eq_true rfl) rfl rfl) ?_
          refine o_nil (hK _ _ ?_); (try clear hK hP hgs K gs P)
          refine WS_ret fun tm ht => ?_
          simp only [thenQ, blockQ]
          refine ⟨trivial, fr_upd (by omega) (nl rfl), .inr ⟨⟨_, rfl⟩, trivial, box_upd' b1, (List.getElem?_set_ne (nd rfl)).trans b3, ?_⟩⟩
          rw [h4, hdr, List.any_cons, hb]; rfl
        · refine WS_skip fun tm ht => ?_
          simp only [thenQ, blockQ]
          refine ⟨trivial, Fr.refl (by omega), .inl ⟨trivial, b1, b2, b3, ?_⟩⟩
          rw [h4, hdr, List.any_cons, hb]; rfl
      · rintro tm σ3 ht hlen3 hd3 ⟨h1, h2, h3, h4⟩
        rw [kids_len, List.drop_length] at h4
        simp only [thenQ, blockQ]
        exact ⟨by rw [hl5], ht.sub (sub_cons rfl sub_nil), h1, h3, by rw [← hl5]; exact hd3, h4⟩
      · rintro e tm σ3 ht hlen3 hd3 ⟨rfl, h1, h3, h4⟩
        simp only [thenQ, blockQ]
        rw [hl5] at hd3 ⊢
        obtain ⟨σ', hm, hs⟩ := marks2 hd3 h3 (nd rfl)
        refine endM_cell ht rfl hm (ldb (box_same h1 (hs 1 (nd rfl) (nd rfl))) (pl4.trans rfl)) ?_
        rw [h4]; rfl
    case refine_1 =>
      rintro σ ⟨h1, h3, h6, h4⟩
      refine WS_reg fun K gs P hK hgs hP => ?_
      refine o_st rfl rfl (store_box h1 sz4 rfl (Nat.le_of_ble_eq_true rfl) rfl rfl) ?_
      refine o_nil (hK _ _ ?_); (try clear hK hP hgs K gs P)
      refine WS_ret fun tm ht => ?_
      obtain ⟨σ', hm, hs⟩ := marks2 (σ := σ.upd 1 4 (setRange [.bool false] 0 (LV.bool false).cells)) ((List.getElem?_set_ne (nd rfl)).trans h6) ((List.getElem?_set_ne (nd rfl)).trans h3) (nd rfl)
      refine endM_cell ht rfl hm (ldb (box_same (box_upd' h1) (hs 1 (nd rfl) (nd rfl))) (pl4.trans rfl)) ?_
      rw [h4]; rfl
end Go.Lg
end
section
set_option linter.unusedSimpArgs false
set_option maxRecDepth 20000
namespace Go.Lg
open Go.Proofs.Tryz
variable {pr : Prim}
theorem fn18 : look.fnOf 18 = some fl18 := by kernel_rfl
def largeP (p : Proof) : Int := if min (sizeP p 0) 20001 > 20000 then 2 else if (decide (levelsP p 2001 > 2000) || deepP p) = true then 5 else 0
theorem large_ok (hpr : NoPr pr) (p : Proof) (hsm : p.Small) : Ret look pr 18 [encP p] (.int .i64 (largeP p)) := by
  refine Ret.of (fn := fl18) fn18 (hpr.at rfl) ⟨Nat.le_of_ble_eq_true rfl, Nat.le_of_ble_eq_true rfl⟩ (gargs_cons gP gargs_nil) good_int (by simp) ?_
  show WS look pr false 13 [] (bodyOf f18) _ _ _
  simp only [bodyOf, f18]
  refine WS_reg fun K gs P hK hgs hP => ?_
  refine o_box rfl rfl zP fP rP ?_
  refine o_as rfl rfl ?_
  refine o_nil (hK _ _ ?_); (try clear hK hP hgs K gs P)
  refine WS_seq ?_
  refine WS_block ?_
  refine WS_reg fun K gs P hK hgs hP => ?_
  refine o_ld rfl rfl (ldb box_push wP) ?_
  refine o_call rfl (.cons rfl .nil) (Size_ok hpr p hsm) ?_
  refine o_bin rfl rfl rfl gtr_int ?_
  refine o_as rfl rfl ?_
  refine o_nil (hK _ _ ?_); (try clear hK hP hgs K gs P)
  refine WS_cond rfl (fun hb => ?_) (fun hb => ?_)
  ·
    refine WS_reg fun K gs P hK hgs hP => ?_
    refine o_as rfl rfl ?_
    refine o_nil (hK _ _ ?_); (try clear hK hP hgs K gs P)
    refine WS_ret fun tm ht => ?_
    (try simp only [thenQ, blockQ]); refine endQ_tmp ht rfl (by first | (simp_all [largeP, LOut.fin, LV.canonR]; done) | (simp_all [largeP, LOut.fin, LV.canonR]; (repeat (first | omega | split))))
  ·
    refine WS_seqB (l1 := []) (sub_nil) 7 (decide (levelsP p 2001 > 2000) || deepP p) ?_ ?_
    ·
      refine WS_reg fun K gs P hK hgs hP => ?_
      refine o_ld rfl rfl (ldb box_push wP) ?_
      refine o_call rfl (.cons rfl .nil) (Levels_ok hpr p hsm) ?_
      refine o_bin rfl rfl rfl gtr_int ?_
      refine o_as rfl rfl ?_
      refine o_nil (hK _ _ ?_); (try clear hK hP hgs K gs P)
      refine WS_cond rfl (fun hb => ?_) (fun hb => ?_)
      ·
        refine WS_skip fun tm ht => ?_
        simp only [thenQ, blockQ, if_true]; exact ⟨trivial, ht.sub (sub_cons (by (show some (LV.bool _) = some (LV.bool _); refine congrArg (fun b => some (LV.bool b)) ?_; first | (simp_all; done) | (simp_all; intros; omega))) (sub_nil)), trivial⟩
      ·
        refine WS_reg1 fun K gs P hK hgs hP => ?_
        refine o_ld rfl rfl (ldb box_push wP) ?_
        refine o_call rfl (.cons rfl .nil) (deepTerms_ok hpr p hsm) ?_
        refine o_as rfl rfl ?_
        refine o_nil (hK _ _ fun tm ht => ?_); (try clear hK hP hgs K gs P)
        simp only [thenQ, blockQ, if_true]; exact ⟨trivial, ht.sub (sub_cons (by (show some (LV.bool _) = some (LV.bool _); refine congrArg (fun b => some (LV.bool b)) ?_; first | (simp_all; done) | (simp_all; intros; omega))) (sub_nil)), trivial⟩
    refine WS_cond rfl (fun hb => ?_) (fun hb => ?_)
    ·
      refine WS_reg fun K gs P hK hgs hP => ?_
      refine o_as rfl rfl ?_
      refine o_nil (hK _ _ ?_); (try clear hK hP hgs K gs P)
      refine WS_ret fun tm ht => ?_
      (try simp only [thenQ, blockQ]); refine endQ_tmp ht rfl (by first | (simp_all [largeP, LOut.fin, LV.canonR]; done) | (simp_all [largeP, LOut.fin, LV.canonR]; (repeat (first | omega | split))))
    ·
      refine WS_skip fun tm ht => ?_
      simp only [thenQ, blockQ, if_true]; refine WS_of ?_ ht; clear ht tm
      refine WS_reg fun K gs P hK hgs hP => ?_
      refine o_as rfl rfl ?_
      refine o_nil (hK _ _ ?_); (try clear hK hP hgs K gs P)
      refine WS_ret fun tm ht => ?_
      (try simp only [thenQ, blockQ]); refine endQ_tmp ht rfl (by first | (simp_all [largeP, LOut.fin, LV.canonR]; done) | (simp_all [largeP, LOut.fin, LV.canonR]; (repeat (first | omega | split))))
theorem fn19 : look.fnOf 19 = some fl19 := by kernel_rfl
def sizesL : List Int := [-1, 0, 0, 0, 2, 2, 1, 1, 1, 1, 1, 1, 1, 1]
def badLen (p : Proof) : Bool := decide (p.kind < 1) || (decide (p.kind ≥ 14) || (!((p.l.length : Int) == sizesL.getD p.kind.toNat 0)))
def badFields (p : Proof) : Bool := ((!(p.kind == 1)) && ((!(p.n == 0)) || decide ((p.spine.length : Int) > 0))) || (((!(p.kind == 3)) && decide ((p.uses.length : Int) > 0)) || (((!(p.kind == 12)) && (!((p.term.kind == 0) && (p.term.n == 0) && (p.term.name.data.toList == []) && (((p.term.args.length : Int)) == 0)))) || ((!(p.kind == 13)) && decide ((p.moves.length : Int) > 0))))
def formedP (p : Proof) : Bool := p.fold fun p us bs => !(badLen p) && (!(badFields p) && (p.spine.all formedU && (us.flatten ++ bs).all id))
theorem formedP_eq (p : Proof) : formedP p = (!(badLen p) && (!(badFields p) && (p.spine.all formedU && p.kids.all formedP))) := by
  unfold formedP
  rw [Proof.fold_kids (fun (p : Proof) (bs : List Bool) => !(badLen p) && (!(badFields p) && (p.spine.all formedU && bs.all id))), List.all_map]; rfl
theorem sizes_at {b : Nat} {k : Int} (h1 : ¬ k < 1) (h2 : ¬ k ≥ 14) : indexAddrL look 92 (.ptr b 0) (.int .i64 k) = some (.ptr b (0 + k.toNat * 1)) := by
  simp only [indexAddrL, ua92, sz3]
  rw [if_pos (by omega), if_pos (by omega)]
theorem sizes_get {k : Int} (h1 : ¬ k < 1) (h2 : ¬ k ≥ 14) : [LV.int .i64 (-1), .int .i64 0, .int .i64 0, .int .i64 0, .int .i64 2, .int .i64 2, .int .i64 1, .int .i64 1, .int .i64 1, .int .i64 1, .int .i64 1, .int .i64 1, .int .i64 1, .int .i64 1][0 + k.toNat * 1]? = some (.int .i64 (sizesL.getD k.toNat 0)) := by
  obtain ⟨n, rfl⟩ : ∃ n : Nat, k = n := ⟨k.toNat, by omega⟩
  have : n = 1 ∨ n = 2 ∨ n = 3 ∨ n = 4 ∨ n = 5 ∨ n = 6 ∨ n = 7 ∨ n = 8 ∨ n = 9 ∨ n = 10 ∨ n = 11 ∨ n = 12 ∨ n = 13 := by omega
  rcases this with rfl | rfl | rfl | rfl | rfl | rfl | rfl | rfl | rfl | rfl | rfl | rfl | rfl <;> rfl
theorem formed_ok (hpr : NoPr pr) : ∀ p : Proof, p.Small → Ret look pr 19 [encP p] (.bool (formedP p)) := by
  refine Proof.ind fun p ih hsm => ?_
  have hS := ((Proof.small_iff p).1 hsm)
  refine Ret.ofM (fn := fl19) fn19 (hpr.at rfl) ⟨Nat.le_of_ble_eq_true rfl, Nat.le_of_ble_eq_true rfl⟩ (gargs_cons gP gargs_nil) good_bool (by simp) ?_
  show WS look pr false 109 [] (bodyOf f19) _ _ _
  simp only [bodyOf, f19]
  refine WS_reg fun K gs P hK hgs hP => ?_
  refine o_box rfl rfl zP fP rP ?_
  refine o_al rfl zr4 rfl rfl ?_
  refine o_nil (hK _ _ ?_); (try clear hK hP hgs K gs P)
  refine WS_reg fun K gs P hK hgs hP => ?_
  refine o_bld rfl (.cons rfl (.cons rfl (.cons rfl (.cons rfl (.cons rfl (.cons rfl (.cons rfl (.cons rfl (.cons rfl (.cons rfl (.cons rfl (.cons rfl (.cons rfl (.cons rfl .nil)))))))))))))) rfl ?_
  refine o_al rfl zr92 rfl rfl ?_
  refine o_st rfl rfl (stn sz92 rfl rfl rfl) ?_
  refine o_nil (hK _ _ ?_); (try clear hK hP hgs K gs P)
  refine WS_seq ?_
  refine WS_drawB (l1 := [(1, _), (2, _)]) (sub_cons rfl (sub_cons rfl (sub_nil))) 27 (decide (p.kind < 1) || (decide (p.kind ≥ 14) || (!((p.l.length : Int) == sizesL.getD p.kind.toNat 0)))) rfl (fun K gs P hK hgs => ?_) ?_
  ·
    have s3 : gs 3 = some 13 := by rw [hgs]; rfl
    have s8 : gs 8 = some 18 := by rw [hgs]; rfl
    refine d_p rfl rfl rfl (fun _ => rfl) (o_fa rfl rfl fa30_0 (o_nil ?_))
    refine d_ld rfl (o_ld rfl rfl (ldb (box_put_of (box_push_of (box_push))) (pl3.trans cP0)) (o_nil ?_))
    refine d_p rfl rfl rfl (fun _ => rfl) (o_bin rfl rfl rfl lss_int (o_nil ?_))
    refine d_p rfl rfl rfl (fun _ => rfl) (o_mv rfl rfl (o_nil ?_))
    refine d_split 13 rfl (fun e13 => ?_) (fun e13 => ?_)
    ·
      refine d_no rfl rfl rfl s3 rfl ?_
      refine d_no rfl rfl rfl s3 rfl ?_
      refine d_no rfl rfl rfl s3 rfl ?_
      refine d_p rfl rfl rfl (fun _ => rfl) (o_pick rfl rfl rfl (o_nil ?_))
      refine d_p rfl rfl rfl (fun _ => rfl) (o_mv rfl rfl (o_nil ?_))
      refine d_no rfl rfl rfl s8 rfl ?_
      refine d_no rfl rfl rfl s8 rfl ?_
      refine d_no rfl rfl rfl s8 rfl ?_
      refine d_no rfl rfl rfl s8 rfl ?_
      refine d_no rfl rfl rfl s8 rfl ?_
      refine d_no rfl rfl rfl s8 rfl ?_
      refine d_no rfl rfl rfl s8 rfl ?_
      refine d_no rfl rfl rfl s8 rfl ?_
      refine d_p rfl rfl rfl (fun _ => rfl) (o_pick rfl rfl rfl (o_nil ?_))
      exact d_nil (hK _ _ (by kernel_rfl) (by (show some (LV.bool _) = some (LV.bool _); refine congrArg (fun b => some (LV.bool b)) ?_; first | (simp_all; done) | (simp_all; intros; omega))) (sub_cons rfl (sub_cons rfl (sub_nil))))
    ·
      refine d_yes rfl s3 rfl (d_p rfl rfl rfl (fun _ => rfl) (o_fa rfl rfl fa30_0 (o_nil ?_))) rfl rfl
      refine d_yes rfl s3 rfl (d_ld rfl (o_ld rfl rfl (ldb (box_put_of (box_push_of (box_push))) (pl3.trans cP0)) (o_nil ?_))) rfl rfl
      refine d_yes rfl s3 rfl (d_p rfl rfl rfl (fun _ => rfl) (o_bin rfl rfl rfl geq_int (o_nil ?_))) rfl rfl
      refine d_p rfl rfl rfl (fun _ => rfl) (o_pick rfl rfl rfl (o_nil ?_))
      refine d_p rfl rfl rfl (fun _ => rfl) (o_mv rfl rfl (o_nil ?_))
      refine d_split 18 rfl (fun e18 => ?_) (fun e18 => ?_)
      ·
        refine d_no rfl rfl rfl s8 rfl ?_
        refine d_no rfl rfl rfl s8 rfl ?_
        refine d_no rfl rfl rfl s8 rfl ?_
        refine d_no rfl rfl rfl s8 rfl ?_
        refine d_no rfl rfl rfl s8 rfl ?_
        refine d_no rfl rfl rfl s8 rfl ?_
        refine d_no rfl rfl rfl s8 rfl ?_
        refine d_no rfl rfl rfl s8 rfl ?_
        refine d_p rfl rfl rfl (fun _ => rfl) (o_pick rfl rfl rfl (o_nil ?_))
        exact d_nil (hK _ _ (by kernel_rfl) (by (show some (LV.bool _) = some (LV.bool _); refine congrArg (fun b => some (LV.bool b)) ?_; first | (simp_all; done) | (simp_all; intros; omega))) (sub_cons rfl (sub_cons rfl (sub_nil))))
      ·
        refine d_yes rfl s8 rfl (d_p rfl rfl rfl (fun _ => rfl) (o_fa rfl rfl fa30_6 (o_nil ?_))) rfl rfl
        refine d_yes rfl s8 rfl (d_ld rfl (o_ld rfl rfl (ldb (box_put_of (box_push_of (box_push))) (pl28.trans cP6)) (o_nil ?_))) rfl rfl
        refine d_yes rfl s8 rfl (d_p rfl rfl rfl (fun _ => rfl) (o_len rfl rfl rfl lP (o_nil ?_))) rfl rfl
        refine d_yes rfl s8 rfl (d_p rfl rfl rfl (fun _ => rfl) (o_fa rfl rfl fa30_0 (o_nil ?_))) rfl rfl
        refine d_yes rfl s8 rfl (d_ld rfl (o_ld rfl rfl (ldb (box_put_of (box_push_of (box_push))) (pl3.trans cP0)) (o_nil ?_))) rfl rfl
        refine d_yes rfl s8 rfl (d_p rfl rfl rfl (fun _ => rfl) (o_ia rfl rfl rfl (sizes_at (of_decide_eq_false e13) (of_decide_eq_false e18)) (o_nil ?_))) rfl rfl
        refine d_yes rfl s8 rfl (d_ld rfl (o_ld rfl rfl (ldb box_put (pl3.trans (sizes_get (of_decide_eq_false e13) (of_decide_eq_false e18)))) (o_nil ?_))) rfl rfl
        refine d_yes rfl s8 rfl (d_p rfl rfl rfl (fun _ => rfl) (o_bin rfl rfl rfl neq_int (o_nil ?_))) rfl rfl
        refine d_p rfl rfl rfl (fun _ => rfl) (o_pick rfl rfl rfl (o_nil ?_))
        exact d_nil (hK _ _ (by kernel_rfl) (by rw [e13, e18]; rfl) (sub_cons rfl (sub_cons rfl (sub_nil))))
  have fin1 : ∀ {l : List (Nat × LV)} {tm : Tm} {σ : LH}, SL tm 109 l → lk l 2 = some (.ptr 1 0) → boxOf σ 1 = some (4, [.bool false]) → formedP p = false → endM look fl19.results (fun out σ' => out.fin = .ret (.bool (formedP p))) .ret ⟨tm, []⟩ σ := fun ht h1 h2 h3 =>
    endM_cell ht h1 .nil (ldb h2 (pl4.trans rfl)) (by rw [h3]; rfl)
  refine WS_cond rfl (fun hb => ?_) (fun hb => ?_)
  · refine WS_reg fun K gs P hK hgs hP => ?_
    refine o_st rfl rfl (store_box (box_put_of (box_push)) sz4 rfl (Nat.le_of_ble_eq_true rfl) rfl rfl) ?_
    refine o_nil (hK _ _ ?_); (try clear hK hP hgs K gs P)
    refine WS_ret fun tm ht => ?_
    have hb : badLen p = true := hb
    exact fin1 ht rfl (box_upd' (box_put_of box_push)) (by rw [formedP_eq, hb]; rfl)
  · have hb0 : badLen p = false := hb
    refine WS_skip fun tm ht => ?_
    simp only [thenQ, blockQ, if_true]; refine WS_of ?_ ht; clear ht tm
    refine WS_regB (l1 := [(1, _), (2, _)]) (sub_cons rfl (sub_cons rfl (sub_nil))) 4 ((p.term.kind == 0) && (p.term.n == 0) && (p.term.name.data.toList == []) && (((p.term.args.length : Int)) == 0)) (fun K gs P hK hgs hP => ?_) ?_
    ·
      have s4 : gs 4 = some 32 := by rw [hgs]; rfl
      have s10 : gs 10 = some 38 := by rw [hgs]; rfl
      have s16 : gs 16 = some 44 := by rw [hgs]; rfl
      refine o_fa rfl rfl fa30_3 ?_
      refine o_fa rfl rfl fa25_0 ?_
      refine o_ld rfl rfl (ldb (box_put_of (box_push_of (box_push))) (pl3.trans cP3T0)) ?_
      refine o_bin rfl rfl rfl eql_int ?_
      refine o_mv rfl rfl ?_
      refine o_split 32 rfl (fun e32 => ?_) (fun e32 => ?_)
      ·
        refine o_yes rfl s4 rfl (o_fa rfl rfl fa30_3 ?_)
        refine o_yes rfl s4 rfl (o_fa rfl rfl fa25_1 ?_)
        refine o_yes rfl s4 rfl (o_ld rfl rfl (ldb (box_put_of (box_push_of (box_push))) (pl3.trans cP3T1)) ?_)
        refine o_yes rfl s4 rfl (o_bin rfl rfl rfl eql_int ?_)
        refine o_pick rfl rfl rfl ?_
        refine o_mv rfl rfl ?_
        refine o_split 38 rfl (fun e38 => ?_) (fun e38 => ?_)
        ·
          refine o_yes rfl s10 rfl (o_fa rfl rfl fa30_3 ?_)
          refine o_yes rfl s10 rfl (o_fa rfl rfl fa25_2 ?_)
          refine o_yes rfl s10 rfl (o_ld rfl rfl (ldb (box_put_of (box_push_of (box_push))) (pl9.trans cP3T2)) ?_)
          refine o_yes rfl s10 rfl (o_bin rfl rfl rfl rfl ?_)
          refine o_pick rfl rfl rfl ?_
          refine o_mv rfl rfl ?_
          refine o_split 44 rfl (fun e44 => ?_) (fun e44 => ?_)
          ·
            refine o_yes rfl s16 rfl (o_fa rfl rfl fa30_3 ?_)
            refine o_yes rfl s16 rfl (o_fa rfl rfl fa25_3 ?_)
            refine o_yes rfl s16 rfl (o_ld rfl rfl (ldb (box_put_of (box_push_of (box_push))) (pl23.trans cP3T3)) ?_)
            refine o_yes rfl s16 rfl (o_len rfl rfl rfl lT ?_)
            refine o_yes rfl s16 rfl (o_bin rfl rfl rfl eql_int ?_)
            refine o_pick rfl rfl rfl ?_
            refine o_as rfl rfl ?_
            exact o_nil (hK _ (by (show some (LV.bool _) = some (LV.bool _); refine congrArg (fun b => some (LV.bool b)) ?_; first | (simp_all; done) | (simp_all; intros; omega))) (sub_cons rfl (sub_cons rfl (sub_nil))))
          ·
            refine o_no rfl rfl rfl s16 rfl ?_
            refine o_no rfl rfl rfl s16 rfl ?_
            refine o_no rfl rfl rfl s16 rfl ?_
            refine o_no rfl rfl rfl s16 rfl ?_
            refine o_no rfl rfl rfl s16 rfl ?_
            refine o_pick rfl rfl rfl ?_
            refine o_as rfl rfl ?_
            exact o_nil (hK _ (by (show some (LV.bool _) = some (LV.bool _); refine congrArg (fun b => some (LV.bool b)) ?_; first | (simp_all; done) | (simp_all; intros; omega))) (sub_cons rfl (sub_cons rfl (sub_nil))))
        ·
          refine o_no rfl rfl rfl s10 rfl ?_
          refine o_no rfl rfl rfl s10 rfl ?_
          refine o_no rfl rfl rfl s10 rfl ?_
          refine o_no rfl rfl rfl s10 rfl ?_
          refine o_pick rfl rfl rfl ?_
          refine o_mv rfl rfl ?_
          refine o_no rfl rfl rfl s16 rfl ?_
          refine o_no rfl rfl rfl s16 rfl ?_
          refine o_no rfl rfl rfl s16 rfl ?_
          refine o_no rfl rfl rfl s16 rfl ?_
          refine o_no rfl rfl rfl s16 rfl ?_
          refine o_pick rfl rfl rfl ?_
          refine o_as rfl rfl ?_
          exact o_nil (hK _ (by (show some (LV.bool _) = some (LV.bool _); refine congrArg (fun b => some (LV.bool b)) ?_; first | (simp_all; done) | (simp_all; intros; omega))) (sub_cons rfl (sub_cons rfl (sub_nil))))
      ·
        refine o_no rfl rfl rfl s4 rfl ?_
        refine o_no rfl rfl rfl s4 rfl ?_
        refine o_no rfl rfl rfl s4 rfl ?_
        refine o_no rfl rfl rfl s4 rfl ?_
        refine o_pick rfl rfl rfl ?_
        refine o_mv rfl rfl ?_
        refine o_no rfl rfl rfl s10 rfl ?_
        refine o_no rfl rfl rfl s10 rfl ?_
        refine o_no rfl rfl rfl s10 rfl ?_
        refine o_no rfl rfl rfl s10 rfl ?_
        refine o_pick rfl rfl rfl ?_
        refine o_mv rfl rfl ?_
        refine o_no rfl rfl rfl s16 rfl ?_
        refine o_no rfl rfl rfl s16 rfl ?_
        refine o_no rfl rfl rfl s16 rfl ?_
        refine o_no rfl rfl rfl s16 rfl ?_
        refine o_no rfl rfl rfl s16 rfl ?_
        refine o_pick rfl rfl rfl ?_
        refine o_as rfl rfl ?_
        exact o_nil (hK _ (by (show some (LV.bool _) = some (LV.bool _); refine congrArg (fun b => some (LV.bool b)) ?_; first | (simp_all; done) | (simp_all; intros; omega))) (sub_cons rfl (sub_cons rfl (sub_nil))))
    refine WS_seq ?_
    refine WS_block ?_
    refine WS_seqB (l1 := [(1, _), (2, _)]) (sub_cons rfl (sub_cons rfl (sub_nil))) 51 (((!(p.kind == 1)) && ((!(p.n == 0)) || decide ((p.spine.length : Int) > 0))) || (((!(p.kind == 3)) && decide ((p.uses.length : Int) > 0)) || (((!(p.kind == 12)) && (!((p.term.kind == 0) && (p.term.n == 0) && (p.term.name.data.toList == []) && (((p.term.args.length : Int)) == 0)))) || ((!(p.kind == 13)) && decide ((p.moves.length : Int) > 0))))) ?_ ?_
    ·
      refine WS_regB (l1 := [(1, _), (2, _), (4, _)]) (sub_cons rfl (sub_cons rfl (sub_cons rfl (sub_nil)))) 51 ((!(p.kind == 1)) && ((!(p.n == 0)) || decide ((p.spine.length : Int) > 0))) (fun K gs P hK hgs hP => ?_) ?_
      ·
        have s3 : gs 3 = some 55 := by rw [hgs]; rfl
        have s7 : gs 7 = some 59 := by rw [hgs]; rfl
        refine o_fa rfl rfl fa30_0 ?_
        refine o_ld rfl rfl (ldb (box_put_of (box_push_of (box_push))) (pl3.trans cP0)) ?_
        refine o_bin rfl rfl rfl neq_int ?_
        refine o_mv rfl rfl ?_
        refine o_split 55 rfl (fun e55 => ?_) (fun e55 => ?_)
        ·
          refine o_yes rfl s3 rfl (o_fa rfl rfl fa30_1 ?_)
          refine o_yes rfl s3 rfl (o_ld rfl rfl (ldb (box_put_of (box_push_of (box_push))) (pl3.trans cP1)) ?_)
          refine o_yes rfl s3 rfl (o_bin rfl rfl rfl neq_int ?_)
          refine o_yes rfl s3 rfl (o_mv rfl rfl ?_)
          refine o_split 59 rfl (fun e59 => ?_) (fun e59 => ?_)
          ·
            refine o_no rfl rfl rfl s7 rfl ?_
            refine o_no rfl rfl rfl s7 rfl ?_
            refine o_no rfl rfl rfl s7 rfl ?_
            refine o_no rfl rfl rfl s7 rfl ?_
            refine o_yes rfl s3 rfl (o_pick rfl rfl rfl ?_)
            refine o_pick rfl rfl rfl ?_
            refine o_as rfl rfl ?_
            exact o_nil (hK _ (by (show some (LV.bool _) = some (LV.bool _); refine congrArg (fun b => some (LV.bool b)) ?_; first | (simp_all; done) | (simp_all; intros; omega))) (sub_cons rfl (sub_cons rfl (sub_cons rfl (sub_nil)))))
          ·
            refine o_yes rfl s7 rfl (o_fa rfl rfl fa30_4 ?_)
            refine o_yes rfl s7 rfl (o_ld rfl rfl (ldb (box_put_of (box_push_of (box_push))) (pl26.trans cP4)) ?_)
            refine o_yes rfl s7 rfl (o_len rfl rfl rfl lU ?_)
            refine o_yes rfl s7 rfl (o_bin rfl rfl rfl gtr_int ?_)
            refine o_yes rfl s3 rfl (o_pick rfl rfl rfl ?_)
            refine o_pick rfl rfl rfl ?_
            refine o_as rfl rfl ?_
            exact o_nil (hK _ (by (show some (LV.bool _) = some (LV.bool _); refine congrArg (fun b => some (LV.bool b)) ?_; first | (simp_all; done) | (simp_all; intros; omega))) (sub_cons rfl (sub_cons rfl (sub_cons rfl (sub_nil)))))
        ·
          refine o_no rfl rfl rfl s3 rfl ?_
          refine o_no rfl rfl rfl s3 rfl ?_
          refine o_no rfl rfl rfl s3 rfl ?_
          refine o_no rfl rfl rfl s3 rfl ?_
          refine o_not rfl rfl rfl s7 rfl ?_
          refine o_not rfl rfl rfl s7 rfl ?_
          refine o_not rfl rfl rfl s7 rfl ?_
          refine o_not rfl rfl rfl s7 rfl ?_
          refine o_no rfl rfl rfl s3 rfl ?_
          refine o_pick rfl rfl rfl ?_
          refine o_as rfl rfl ?_
          exact o_nil (hK _ (by (show some (LV.bool _) = some (LV.bool _); refine congrArg (fun b => some (LV.bool b)) ?_; first | (simp_all; done) | (simp_all; intros; omega))) (sub_cons rfl (sub_cons rfl (sub_cons rfl (sub_nil)))))
      refine WS_cond rfl (fun hbW => ?_) (fun hbW => ?_)
      ·
        refine WS_skip fun tm ht => ?_
        simp only [thenQ, blockQ, if_true]; exact ⟨trivial, ht.sub (sub_cons (by show some (LV.bool _) = some (LV.bool _); simp only [hbW, Bool.false_or, Bool.true_or]) (sub_cons rfl (sub_cons rfl (sub_nil)))), trivial⟩
      ·
        refine WS_regB (l1 := [(1, _), (2, _), (4, _)]) (sub_cons rfl (sub_cons rfl (sub_cons rfl (sub_nil)))) 51 ((!(p.kind == 3)) && decide ((p.uses.length : Int) > 0)) (fun K gs P hK hgs hP => ?_) ?_
        ·
          have s3 : gs 3 = some 69 := by rw [hgs]; rfl
          refine o_fa rfl rfl fa30_0 ?_
          refine o_ld rfl rfl (ldb (box_put_of (box_push_of (box_push))) (pl3.trans cP0)) ?_
          refine o_bin rfl rfl rfl neq_int ?_
          refine o_mv rfl rfl ?_
          refine o_split 69 rfl (fun e69 => ?_) (fun e69 => ?_)
          ·
            refine o_yes rfl s3 rfl (o_fa rfl rfl fa30_2 ?_)
            refine o_yes rfl s3 rfl (o_ld rfl rfl (ldb (box_put_of (box_push_of (box_push))) (pl22.trans cP2)) ?_)
            refine o_yes rfl s3 rfl (o_len rfl rfl rfl lN ?_)
            refine o_yes rfl s3 rfl (o_bin rfl rfl rfl gtr_int ?_)
            refine o_pick rfl rfl rfl ?_
            refine o_as rfl rfl ?_
            exact o_nil (hK _ (by (show some (LV.bool _) = some (LV.bool _); refine congrArg (fun b => some (LV.bool b)) ?_; first | (simp_all; done) | (simp_all; intros; omega))) (sub_cons rfl (sub_cons rfl (sub_cons rfl (sub_nil)))))
          ·
            refine o_no rfl rfl rfl s3 rfl ?_
            refine o_no rfl rfl rfl s3 rfl ?_
            refine o_no rfl rfl rfl s3 rfl ?_
            refine o_no rfl rfl rfl s3 rfl ?_
            refine o_pick rfl rfl rfl ?_
            refine o_as rfl rfl ?_
            exact o_nil (hK _ (by (show some (LV.bool _) = some (LV.bool _); refine congrArg (fun b => some (LV.bool b)) ?_; first | (simp_all; done) | (simp_all; intros; omega))) (sub_cons rfl (sub_cons rfl (sub_cons rfl (sub_nil)))))
        refine WS_cond rfl (fun hbU => ?_) (fun hbU => ?_)
        ·
          refine WS_skip fun tm ht => ?_
          simp only [thenQ, blockQ, if_true]; exact ⟨trivial, ht.sub (sub_cons (by show some (LV.bool _) = some (LV.bool _); simp only [hbW, hbU, Bool.false_or, Bool.true_or]) (sub_cons rfl (sub_cons rfl (sub_nil)))), trivial⟩
        ·
          refine WS_regB (l1 := [(1, _), (2, _)]) (sub_cons rfl (sub_cons rfl (sub_nil))) 51 ((!(p.kind == 12)) && (!((p.term.kind == 0) && (p.term.n == 0) && (p.term.name.data.toList == []) && (((p.term.args.length : Int)) == 0)))) (fun K gs P hK hgs hP => ?_) ?_
          ·
            have s3 : gs 3 = some 78 := by rw [hgs]; rfl
            refine o_fa rfl rfl fa30_0 ?_
            refine o_ld rfl rfl (ldb (box_put_of (box_push_of (box_push))) (pl3.trans cP0)) ?_
            refine o_bin rfl rfl rfl neq_int ?_
            refine o_mv rfl rfl ?_
            refine o_split 78 rfl (fun e78 => ?_) (fun e78 => ?_)
            ·
              refine o_yes rfl s3 rfl (o_mv rfl rfl ?_)
              refine o_yes rfl s3 rfl (o_un rfl rfl rfl ?_)
              refine o_pick rfl rfl rfl ?_
              refine o_as rfl rfl ?_
              exact o_nil (hK _ (by (show some (LV.bool _) = some (LV.bool _); refine congrArg (fun b => some (LV.bool b)) ?_; first | (simp_all; done) | (simp_all; intros; omega))) (sub_cons rfl (sub_cons rfl (sub_nil))))
            ·
              refine o_no rfl rfl rfl s3 rfl ?_
              refine o_no rfl rfl rfl s3 rfl ?_
              refine o_pick rfl rfl rfl ?_
              refine o_as rfl rfl ?_
              exact o_nil (hK _ (by (show some (LV.bool _) = some (LV.bool _); refine congrArg (fun b => some (LV.bool b)) ?_; first | (simp_all; done) | (simp_all; intros; omega))) (sub_cons rfl (sub_cons rfl (sub_nil))))
          refine WS_cond rfl (fun hbE => ?_) (fun hbE => ?_)
          ·
            refine WS_skip fun tm ht => ?_
            simp only [thenQ, blockQ, if_true]; exact ⟨trivial, ht.sub (sub_cons (by show some (LV.bool _) = some (LV.bool _); simp only [hbW, hbU, hbE, Bool.false_or, Bool.true_or]) (sub_cons rfl (sub_cons rfl (sub_nil)))), trivial⟩
          ·
            refine WS_regB1 (l1 := [(1, _), (2, _)]) (sub_cons rfl (sub_cons rfl (sub_nil))) 51 ((!(p.kind == 13)) && decide ((p.moves.length : Int) > 0)) (fun K gs P hK hgs hP => ?_) ?_
            ·
              have s3 : gs 3 = some 85 := by rw [hgs]; rfl
              refine o_fa rfl rfl fa30_0 ?_
              refine o_ld rfl rfl (ldb (box_put_of (box_push_of (box_push))) (pl3.trans cP0)) ?_
              refine o_bin rfl rfl rfl neq_int ?_
              refine o_mv rfl rfl ?_
              refine o_split 85 rfl (fun e85 => ?_) (fun e85 => ?_)
              ·
                refine o_yes rfl s3 rfl (o_fa rfl rfl fa30_5 ?_)
                refine o_yes rfl s3 rfl (o_ld rfl rfl (ldb (box_put_of (box_push_of (box_push))) (pl27.trans cP5)) ?_)
                refine o_yes rfl s3 rfl (o_len rfl rfl rfl lM ?_)
                refine o_yes rfl s3 rfl (o_bin rfl rfl rfl gtr_int ?_)
                refine o_pick rfl rfl rfl ?_
                refine o_as rfl rfl ?_
                exact o_nil (hK _ (by (show some (LV.bool _) = some (LV.bool _); refine congrArg (fun b => some (LV.bool b)) ?_; first | (simp_all; done) | (simp_all; intros; omega))) (sub_cons rfl (sub_cons rfl (sub_nil))))
              ·
                refine o_no rfl rfl rfl s3 rfl ?_
                refine o_no rfl rfl rfl s3 rfl ?_
                refine o_no rfl rfl rfl s3 rfl ?_
                refine o_no rfl rfl rfl s3 rfl ?_
                refine o_pick rfl rfl rfl ?_
                refine o_as rfl rfl ?_
                exact o_nil (hK _ (by (show some (LV.bool _) = some (LV.bool _); refine congrArg (fun b => some (LV.bool b)) ?_; first | (simp_all; done) | (simp_all; intros; omega))) (sub_cons rfl (sub_cons rfl (sub_nil))))
            intro tm ht
            simp only [thenQ, blockQ, if_true]; exact ⟨trivial, ht.sub (sub_cons (by show some (LV.bool _) = some (LV.bool _); simp only [hbW, hbU, hbE, Bool.false_or, Bool.true_or]) (sub_cons rfl (sub_cons rfl (sub_nil)))), trivial⟩
    refine WS_cond rfl (fun hb => ?_) (fun hb => ?_)
    · refine WS_reg fun K gs P hK hgs hP => ?_
      refine o_st rfl rfl (store_box (box_put_of (box_push)) sz4 rfl (Nat.le_of_ble_eq_true rfl) rfl rfl) ?_
      refine o_nil (hK _ _ ?_); (try clear hK hP hgs K gs P)
      refine WS_ret fun tm ht => ?_
      have hb : badFields p = true := hb
      exact fin1 ht rfl (box_upd' (box_put_of box_push)) (by rw [formedP_eq, hb0, hb]; rfl)
    · have hb1 : badFields p = false := hb
      refine WS_skip fun tm ht => ?_
      simp only [thenQ, blockQ, if_true]; refine WS_of ?_ ht; clear ht tm
      refine WS_seqI (l1 := [(1, _), (2, _)]) (sub_cons rfl (sub_cons rfl sub_nil)) (fun σ => 3 ≤ σ.len ∧ boxOf σ 0 = some (30, (encP p).cells) ∧ boxOf σ 1 = some (4, [.bool false]) ∧ p.spine.all formedU = true) ?_ ?_
      case refine_2 =>
        refine WS_reg fun K gs P hK hgs hP => ?_
        refine o_fa rfl rfl fa30_4 ?_
        refine o_ld rfl rfl (ldb (box_put_of (box_push_of (box_push))) (pl26.trans cP4)) ?_
        refine o_len rfl rfl rfl lU ?_
        refine o_mv rfl rfl ?_
        refine o_nil (hK _ _ ?_); (try clear hK hP hgs K gs P)
        refine WS_block ?_
        refine WS.weaken (l0 := [(94, _), (93, _), (1, _), (2, _), (92, _)]) (sub_cons rfl (sub_cons rfl (sub_cons rfl (sub_cons rfl (sub_cons rfl (sub_nil)))))) ?_
        refine WS_range (n := p.spine.length) (fun i l σ => l = [(94, .int .i64 i), (93, .int .i64 (p.spine.length : Nat)), (1, .ptr 0 0), (2, .ptr 1 0), (92, slc (p.spine.map encU))] ∧ 3 ≤ σ.len ∧ boxOf σ 0 = some (30, (encP p).cells) ∧ boxOf σ 1 = some (4, [.bool false]) ∧ ∀ u ∈ p.spine.take i, formedU u = true) (fun i l σ h => by obtain ⟨rfl, h⟩ := h; exact ⟨rfl, rfl⟩) rfl rfl rfl rfl (by have := hS.1.2.2.1; omega) ?_ ?_ p.spine.length 0 _ _ (by omega) ⟨rfl, Nat.le_of_ble_eq_true rfl, box_put_of (box_push_of box_push), box_put_of box_push, fun u hu => by simp at hu⟩
        · rintro i l σ hi ⟨rfl, hl, h0, h1, h2⟩
          obtain ⟨x, hx, hmem, htake, hdrop⟩ := take_one hi
          refine WS_block ?_
          refine WS_reg fun K gs P hK hgs hP => ?_
          refine o_ia rfl rfl rfl (iU hx) ?_
          refine o_ld rfl rfl (ldr wU) ?_
          refine o_al rfl zr64 rfl rfl ?_
          refine o_st rfl rfl stU ?_
          refine o_nil (hK _ _ ?_); (try clear hK hP hgs K gs P)
          refine WS_reg fun K gs P hK hgs hP => ?_
          refine o_ld rfl rfl (ldb box_put wU) ?_
          refine o_call rfl (.cons rfl .nil) (formedTurn_ok hpr x) ?_
          refine o_un rfl rfl rfl ?_
          refine o_nil (hK _ _ ?_); (try clear hK hP hgs K gs P)
          refine WS_cond rfl (fun hb => ?_) (fun hb => ?_)
          · refine WS_reg fun K gs P hK hgs hP => ?_
            refine o_st rfl rfl (store_box (box_put_of (h1)) sz4 rfl (Nat.le_of_ble_eq_true rfl) rfl rfl) ?_
            refine o_nil (hK _ _ ?_); (try clear hK hP hgs K gs P)
            refine WS_ret fun tm ht => ?_
            refine fin1 ht rfl (box_upd' (box_put_of h1)) ?_
            have : p.spine.all formedU = false := by
              rw [List.all_eq_false]
              exact ⟨x, hmem, by simpa using hb⟩
            rw [formedP_eq, hb0, hb1, this]; rfl
          · refine WS_skip fun tm ht => ?_
            (try simp only [thenQ, blockQ]); exact RoundTo.mk ht (l' := [(94, _), (93, _), (1, _), (2, _), (92, _)]) (sub_cons rfl (sub_cons rfl (sub_cons rfl (sub_cons rfl (sub_cons rfl (sub_nil)))))) ⟨rfl, _, sub_cons rfl (sub_cons rfl (sub_cons rfl (sub_cons rfl (sub_cons rfl (sub_nil))))), rfl, by rw [put_len]; omega, box_put_of h0, box_put_of h1, fun u hu => by
              rw [htake] at hu
              rcases List.mem_append.1 hu with hu | hu
              · exact h2 u hu
              · simp only [List.mem_singleton] at hu; subst hu; simpa using hb⟩
        · rintro l σ ⟨rfl, hl, h0, h1, h2⟩ tm ht
          rw [List.take_length] at h2
          simp only [thenQ, blockQ, if_true]
          exact ⟨trivial, ht.sub (sub_cons rfl (sub_cons rfl sub_nil)), hl, h0, h1, List.all_eq_true.2 h2⟩
      case refine_1 =>
        rintro σ ⟨hl, h0, h1, hsp⟩
        refine WS_seqD (l1 := [(2, _)]) (sub_cons rfl sub_nil) [.mark (σ.len + 1)] (fun σ' => boxOf σ' 1 = some (4, [.bool false]) ∧ σ'.boxes[σ.len + 1]? = some .dfr ∧ formedP p = true) ?_ ?_
        case refine_2 =>
          refine WS_reg fun K gs P hK hgs hP => ?_
          refine o_ld rfl rfl (ldb h0 wP) ?_
          refine o_callv rfl rfl (.cons rfl .nil) (kids_call (hpr.at rfl) p _) rfl ?_
          refine o_nil (hK _ _ ?_); (try clear hK hP hgs K gs P)
          obtain ⟨τ, hτ⟩ : ∃ τ, τ = σ.push (.cells 30 (encP p).cells) := ⟨_, rfl⟩
          show WS look pr false 109 _ _ _ (σ.push (.cells 30 (encP p).cells)) _
          have hl5 : τ.len = σ.len + 1 := by rw [hτ, push_len]
          have k1 := hτ ▸ box_push_of (o := .cells 30 (encP p).cells) h1
          have k5 : boxOf τ σ.len = some (30, (encP p).cells) := by rw [hτ]; exact box_push
          rw [← hτ]
          clear hτ
          generalize σ.len = n at *
          refine WS_block ?_
          refine WS.weaken (l0 := [(2, _), (103, _)]) (sub_cons rfl (sub_cons rfl (sub_nil))) ?_
          refine WS_iter rfl (kids1_iter (hpr.at rfl) p hsm _) (fun x hx => by obtain ⟨t, _, rfl⟩ := List.mem_map.1 hx; exact ⟨rfl, canonI⟩) rfl
            (fun i σ' => boxOf σ' 1 = some (4, [.bool false]) ∧ boxOf σ' n = some (30, (encP p).cells) ∧ formedP p = (p.kids.drop i).all formedP)
            (fun e σ' => e = .ret ∧ boxOf σ' 1 = some (4, [.bool false]) ∧ formedP p = false)
            (fun i σ σ' hb ht ⟨h1, h2, h4⟩ => ⟨box_same h1 (hb 1 (by rw [hl5]; omega)), box_same h2 (hb n (by rw [hl5]; omega)), h4⟩)
            (fun e σ σ' hb ht ⟨h, h1, h4⟩ => ⟨h, box_same h1 (hb 1 (by rw [hl5]; omega)), h4⟩)
            (fun i σ ⟨h1, h2, h4⟩ => h2)
            ⟨k1, k5, by rw [formedP_eq, hb0, hb1, hsp]; rfl⟩ ?_ ?_ ?_
          · rintro i x σ' hx ⟨h1, h2, h4⟩ hle
            obtain ⟨ki, x, rfl, hxm, hdr⟩ := kids_at hx
            rw [hl5] at hle ⊢
            refine WS_reg1 fun K gs P hK hgs hP => ?_
            refine o_al rfl zr30 rfl rfl ?_
            refine o_st rfl rfl stP ?_
            refine o_nil (hK _ _ fun tm ht => ⟨rfl, it_fr (Nat.le_refl _) [], fun σ1 g1 g2 g3 => ?_⟩); (try clear hK hP hgs K gs P)
            have hl1 : σ1.len = σ'.len + 1 := g3.trans put_len
            have b1 : boxOf σ1 1 = some (4, [.bool false]) := box_same (box_put_of h1) (g1 1 (by omega))
            have b2 : boxOf σ1 n = some (30, (encP p).cells) := box_same (box_put_of h2) (g1 n (by omega))
            have b5 : boxOf σ1 σ'.len = some (30, (encP x).cells) := box_same box_put (g1 _ (by omega))
            refine WS_of ?_ ht
            refine WS_block ?_
            refine WS_reg fun K gs P hK hgs hP => ?_
            refine o_ld rfl rfl (ldb b5 wP) ?_
            refine o_call rfl (.cons rfl .nil) (ih x hxm (hS.2 x hxm)) ?_
            refine o_un rfl rfl rfl ?_
            refine o_nil (hK _ _ ?_); (try clear hK hP hgs K gs P)
            refine WS_cond rfl (fun hb => ?_) (fun hb => ?_)
            · have hb : formedP x = false := by simpa using hb
              refine WS_reg fun K gs P hK hgs hP => ?_
              refine o_st rfl rfl (store_box b1 sz4 rfl (Nat.le_of_ble_eq_true rfl) rfl rfl) ?_
              refine o_nil (hK _ _ ?_); (try clear hK hP hgs K gs P)
              refine WS_ret fun tm ht => ?_
              simp only [thenQ, blockQ]
              refine ⟨trivial, fr_upd (by omega) (show 1 < n + 1 by omega), .inr ⟨⟨_, rfl⟩, trivial, box_upd' b1, ?_⟩⟩
              rw [h4, hdr, List.all_cons, hb]; rfl
            · have hb : formedP x = true := by simpa using hb
              refine WS_skip fun tm ht => ?_
              simp only [thenQ, blockQ]
              refine ⟨trivial, Fr.refl (by omega), .inl ⟨trivial, b1, b2, ?_⟩⟩
              rw [h4, hdr, List.all_cons, hb]; rfl
          · rintro tm σ3 ht hlen3 hd3 ⟨h1, h2, h4⟩
            rw [kids_len, List.drop_length] at h4
            simp only [thenQ, blockQ]
            exact ⟨by rw [hl5], ht.sub (sub_cons rfl sub_nil), h1, by rw [← hl5]; exact hd3, h4⟩
          · rintro e tm σ3 ht hlen3 hd3 ⟨rfl, h1, h4⟩
            simp only [thenQ, blockQ]
            rw [hl5] at hd3 ⊢
            obtain ⟨σ', hm, hs⟩ := marks1 hd3
            refine endM_cell ht rfl hm (ldb (box_same h1 (hs 1 (by omega))) (pl4.trans rfl)) ?_
            rw [h4]; rfl
        case refine_1 =>
          rintro σ' ⟨h1, h3, h4⟩
          refine WS_reg fun K gs P hK hgs hP => ?_
          refine o_st rfl rfl (store_box h1 sz4 rfl (Nat.le_of_ble_eq_true rfl) rfl rfl) ?_
          refine o_nil (hK _ _ ?_); (try clear hK hP hgs K gs P)
          refine WS_ret fun tm ht => ?_
          obtain ⟨σ'', hm, hs⟩ := marks1 (σ := σ'.upd 1 4 (setRange [.bool false] 0 (LV.bool true).cells)) ((List.getElem?_set_ne (by omega)).trans h3)
          refine endM_cell ht rfl hm (ldb (box_same (box_upd' h1) (hs 1 (by omega))) (pl4.trans rfl)) ?_
          rw [h4]; rfl
theorem fn5 : look.fnOf 5 = some fl5 := by kernel_rfl
def FormedP (p : Proof) : Int := if (!(largeP p == 0)) = true then largeP p else if (!(formedP p)) = true then 80 else 0
theorem Formed_ok (hpr : NoPr pr) (p : Proof) (hsm : p.Small) : Ret look pr 5 [encP p] (.int .i64 (FormedP p)) := by
  refine Ret.of (fn := fl5) fn5 (hpr.at rfl) ⟨Nat.le_of_ble_eq_true rfl, Nat.le_of_ble_eq_true rfl⟩ (gargs_cons gP gargs_nil) good_int (by simp) ?_
  show WS look pr false 12 [] (bodyOf f5) _ _ _
  simp only [bodyOf, f5]
  refine WS_reg fun K gs P hK hgs hP => ?_
  refine o_box rfl rfl zP fP rP ?_
  refine o_as rfl rfl ?_
  refine o_nil (hK _ _ ?_); (try clear hK hP hgs K gs P)
  refine WS_seq ?_
  refine WS_reg fun K gs P hK hgs hP => ?_
  refine o_ld rfl rfl (ldb box_push wP) ?_
  refine o_call rfl (.cons rfl .nil) (large_ok hpr p hsm) ?_
  refine o_as rfl rfl ?_
  refine o_nil (hK _ _ ?_); (try clear hK hP hgs K gs P)
  refine WS_reg fun K gs P hK hgs hP => ?_
  refine o_mv rfl rfl ?_
  refine o_bin rfl rfl rfl neq_int ?_
  refine o_nil (hK _ _ ?_); (try clear hK hP hgs K gs P)
  refine WS_cond rfl (fun hb => ?_) (fun hb => ?_)
  ·
    refine WS_reg fun K gs P hK hgs hP => ?_
    refine o_mv rfl rfl ?_
    refine o_as rfl rfl ?_
    refine o_nil (hK _ _ ?_); (try clear hK hP hgs K gs P)
    refine WS_ret fun tm ht => ?_
    (try simp only [thenQ, blockQ]); refine endQ_tmp ht rfl (by first | (simp_all [FormedP, LOut.fin, LV.canonR]; done) | (simp_all [FormedP, LOut.fin, LV.canonR]; (repeat (first | omega | split))))
  ·
    refine WS_skip fun tm ht => ?_
    simp only [thenQ, blockQ, if_true]; refine WS_of ?_ ht; clear ht tm
    refine WS_seq ?_
    refine WS_reg fun K gs P hK hgs hP => ?_
    refine o_ld rfl rfl (ldb box_push wP) ?_
    refine o_call rfl (.cons rfl .nil) (formed_ok hpr p hsm) ?_
    refine o_un rfl rfl rfl ?_
    refine o_nil (hK _ _ ?_); (try clear hK hP hgs K gs P)
    refine WS_cond rfl (fun hb => ?_) (fun hb => ?_)
    ·
      refine WS_reg fun K gs P hK hgs hP => ?_
      refine o_as rfl rfl ?_
      refine o_nil (hK _ _ ?_); (try clear hK hP hgs K gs P)
      refine WS_ret fun tm ht => ?_
      (try simp only [thenQ, blockQ]); refine endQ_tmp ht rfl (by first | (simp_all [FormedP, LOut.fin, LV.canonR]; done) | (simp_all [FormedP, LOut.fin, LV.canonR]; (repeat (first | omega | split))))
    ·
      refine WS_skip fun tm ht => ?_
      simp only [thenQ, blockQ, if_true]; refine WS_of ?_ ht; clear ht tm
      refine WS_reg fun K gs P hK hgs hP => ?_
      refine o_as rfl rfl ?_
      refine o_nil (hK _ _ ?_); (try clear hK hP hgs K gs P)
      refine WS_ret fun tm ht => ?_
      (try simp only [thenQ, blockQ]); refine endQ_tmp ht rfl (by first | (simp_all [FormedP, LOut.fin, LV.canonR]; done) | (simp_all [FormedP, LOut.fin, LV.canonR]; (repeat (first | omega | split))))
end Go.Lg
end
section
set_option linter.unusedSimpArgs false
set_option maxRecDepth 20000
namespace Go.Lg
open Go.Proofs.Tryz
variable {pr : Prim}
def dmax0 (l : List Int) : Int := l.foldl max 0
def depthP (p : Proof) : Int := p.fold fun p us bs => if (p.kind == 1) = true then dmax0 us.flatten + 1 else if (p.kind == 13) = true then bs.headD 0 + p.moves.length else dmax0 bs
def dmax (l : List Proof) : Int := dmax0 (l.map depthP)
theorem depthP_eq (p : Proof) : depthP p = if (p.kind == 1) = true then dmax (p.spine.flatMap Turn.l) + 1 else if (p.kind == 13) = true then (p.l.map depthP).headD 0 + p.moves.length else dmax p.l := by
  conv => lhs; unfold depthP
  rw [Proof.fold_eq]
  have : ∀ (us : List Turn) (f : Proof → Int), (us.map fun u => u.l.map f).flatten = (us.flatMap Turn.l).map f := fun us f => by
    rw [List.map_flatMap, List.flatMap_def]
  rw [this]; rfl
theorem dmax_snoc {l : List Proof} {x : Proof} : dmax (l ++ [x]) = max (dmax l) (depthP x) := by simp [dmax, dmax0, List.foldl_append]
theorem foldl_max_ge : ∀ (l : List Int) (n : Int), n ≤ l.foldl max n
  | [], n => Int.le_refl _
  | x :: l, n => by
    have := foldl_max_ge l (max n x)
    rw [List.foldl_cons]; omega
theorem foldl_max_le : ∀ (l : List Int) (n m : Int), (∀ x ∈ l, x ≤ m) → n ≤ m → l.foldl max n ≤ m
  | [], n, m, _, h => h
  | x :: l, n, m, hl, h => by
    rw [List.foldl_cons]
    exact foldl_max_le l _ m (fun y hy => hl y (by simp [hy])) (by have := hl x (by simp); omega)
theorem dmax_pos (l : List Proof) : 0 ≤ dmax l := foldl_max_ge _ 0
def cntP (p : Proof) : Nat := p.fold fun p us bs => 1 + p.spine.length + p.moves.length + (us.flatten ++ bs).sum
theorem cntP_eq (p : Proof) : cntP p = 1 + p.spine.length + p.moves.length + (p.kids.map cntP).sum := by
  unfold cntP
  rw [Proof.fold_kids (fun (p : Proof) (bs : List Nat) => 1 + p.spine.length + p.moves.length + bs.sum)]
theorem le_sum {l : List Nat} {x : Nat} (h : x ∈ l) : x ≤ l.sum := by
  induction l with
  | nil => cases h
  | cons y l ih =>
    rw [List.sum_cons]
    rcases List.mem_cons.1 h with rfl | h
    · omega
    · have := ih h; omega
theorem cntP_kid {p x : Proof} (h : x ∈ p.kids) : cntP x + 1 + p.spine.length + p.moves.length ≤ cntP p := by
  rw [cntP_eq p]
  have := le_sum (List.mem_map.2 ⟨x, h, rfl⟩ : cntP x ∈ p.kids.map cntP)
  omega
theorem headD_mem {l : List Proof} {f : Proof → Int} {P : Int → Prop} (h0 : P 0) (h : ∀ x ∈ l, P (f x)) : P ((l.map f).headD 0) := by
  cases l with
  | nil => exact h0
  | cons x l => exact h x (by simp)
theorem headD_some {l : List Proof} {f : Proof → Int} {z : Proof} (h : l[0]? = some z) : (l.map f).headD 0 = f z := by
  cases l with
  | nil => cases h
  | cons x l => injection h with h; subst h; rfl
theorem headD_none {l : List Proof} {f : Proof → Int} (h : ¬ 0 < l.length) : (l.map f).headD 0 = 0 := by
  cases l with
  | nil => rfl
  | cons x l => exact absurd (by simp) h
theorem depthP_pos : ∀ p : Proof, 0 ≤ depthP p := by
  refine Proof.ind fun p ih => ?_
  rw [depthP_eq]
  have h1 := dmax_pos (p.spine.flatMap Turn.l)
  have h2 := dmax_pos p.l
  have h3 : 0 ≤ (p.l.map depthP).headD 0 := headD_mem (P := fun n => 0 ≤ n) (Int.le_refl 0) fun x hx => ih x (List.mem_append_right _ hx)
  repeat (first | omega | split)
theorem depthP_le : ∀ p : Proof, depthP p ≤ cntP p := by
  refine Proof.ind fun p ih => ?_
  rw [depthP_eq]
  have h0 : (cntP p : Int) ≥ 1 + p.spine.length + p.moves.length := by rw [cntP_eq]; omega
  have hk : ∀ x ∈ p.kids, depthP x ≤ cntP p - 1 - p.moves.length := fun x hx => by have := ih x hx; have := cntP_kid hx; omega
  have h1 : dmax (p.spine.flatMap Turn.l) ≤ cntP p - 1 - p.moves.length := foldl_max_le _ _ _ (fun n hn => by
    obtain ⟨x, hx, rfl⟩ := List.mem_map.1 hn
    exact hk x (List.mem_append_left _ hx)) (by omega)
  have h2 : dmax p.l ≤ cntP p - 1 - p.moves.length := foldl_max_le _ _ _ (fun n hn => by
    obtain ⟨x, hx, rfl⟩ := List.mem_map.1 hn
    exact hk x (List.mem_append_right _ hx)) (by omega)
  have h3 : (p.l.map depthP).headD 0 ≤ cntP p - 1 - p.moves.length := headD_mem (P := fun n => n ≤ cntP p - 1 - p.moves.length) (by omega) fun x hx => hk x (List.mem_append_right _ hx)
  repeat (first | omega | split)
theorem kidsN_sum : ∀ (l : List Proof) (s : Int), (∀ x ∈ l, ∀ s, sizeP x s ≤ 20000 → s + cntP x ≤ sizeP x s) → kidsN (l.map sizeP) s ≤ 20000 → s + (l.map cntP).sum ≤ kidsN (l.map sizeP) s
  | [], s, _, _ => by simp [kidsN]
  | x :: l, s, h, hle => by
    have hs : ¬ s > 20000 := fun hs => by rw [kidsN_stop _ _ hs] at hle; omega
    have e : kidsN ((x :: l).map sizeP) s = kidsN (l.map sizeP) (sizeP x s) := by
      rw [kidsN, List.map_cons, List.foldl_cons, if_neg hs]; rfl
    rw [e] at hle ⊢
    have h1 := kidsN_sum l (sizeP x s) (fun y hy => h y (by simp [hy])) hle
    have h2 := kidsN_le (l.map sizeP) (fun f hf s => by obtain ⟨y, _, rfl⟩ := List.mem_map.1 hf; have := sizeP_le y s; omega) (sizeP x s)
    have h3 := h x (by simp) s (by omega)
    rw [List.map_cons, List.sum_cons]; omega
theorem cntP_le : ∀ (p : Proof) (s : Int), sizeP p s ≤ 20000 → s + cntP p ≤ sizeP p s := by
  refine Proof.ind fun p ih s hle => ?_
  rw [sizeP_eq] at hle ⊢
  have h1 := termsN_le p.terms (s + (1 + p.spine.length + p.moves.length))
  have h2 := kidsN_sum p.kids _ (fun x hx s hs => ih x hx s hs) hle
  rw [cntP_eq]; omega
theorem cntP_size (p : Proof) (h : sizeP p 0 ≤ 20000) : (cntP p : Int) ≤ sizeP p 0 := by have := cntP_le p 0 h; omega
theorem fn22 : look.fnOf 22 = some fl22 := by kernel_rfl
theorem depth_ok (hpr : NoPr pr) : ∀ p : Proof, p.Small → (cntP p : Int) < 1099511627776 → Ret look pr 22 [encP p] (.int .i64 (depthP p)) := by
  refine Proof.ind fun p ih hsm hcnt => ?_
  have hS := ((Proof.small_iff p).1 hsm)
  have hKid : ∀ x ∈ p.kids, (cntP x : Int) < 1099511627776 := fun x hx => by have := cntP_kid hx; omega
  have hD := depthP_le p
  have hkid : ∀ x ∈ p.l, x ∈ p.kids := fun x hx => List.mem_append_right _ hx
  have hkid2 : ∀ u ∈ p.spine, ∀ x ∈ u.l, x ∈ p.kids := fun u hu x hx => List.mem_append_left _ (List.mem_flatMap.2 ⟨u, hu, hx⟩)
  refine Ret.of (fn := fl22) fn22 (hpr.at rfl) ⟨Nat.le_of_ble_eq_true rfl, Nat.le_of_ble_eq_true rfl⟩ (gargs_cons gP gargs_nil) good_int (by simp) ?_
  show WS look pr false 65 [] (bodyOf f22) _ _ _
  simp only [bodyOf, f22]
  refine WS_reg fun K gs P hK hgs hP => ?_
  refine o_box rfl rfl zP fP rP ?_
  refine o_as rfl rfl ?_
  refine o_nil (hK _ _ ?_); (try clear hK hP hgs K gs P)
  refine WS_reg fun K gs P hK hgs hP => ?_
  refine o_as rfl rfl ?_
  refine o_nil (hK _ _ ?_); (try clear hK hP hgs K gs P)
  refine WS_seq ?_
  refine WS_reg fun K gs P hK hgs hP => ?_
  refine o_fa rfl rfl fa30_0 ?_
  refine o_ld rfl rfl (ldb box_push (pl3.trans cP0)) ?_
  refine o_nil (hK _ _ ?_); (try clear hK hP hgs K gs P)
  refine WS_block ?_
  refine WS_reg fun K gs P hK hgs hP => ?_
  refine o_bin rfl rfl rfl eql_int ?_
  refine o_as rfl rfl ?_
  refine o_nil (hK _ _ ?_); (try clear hK hP hgs K gs P)
  refine WS_cond rfl (fun hb => ?_) (fun hb => ?_)
  ·
    refine WS_seq ?_
    refine WS_reg fun K gs P hK hgs hP => ?_
    refine o_fa rfl rfl fa30_4 ?_
    refine o_ld rfl rfl (ldb box_push (pl26.trans cP4)) ?_
    refine o_len rfl rfl rfl lU ?_
    refine o_mv rfl rfl ?_
    refine o_nil (hK _ _ ?_); (try clear hK hP hgs K gs P)
    refine WS_block ?_
    refine WS.weaken (l0 := [(17, _), (16, _), (1, _), (3, _), (15, _)]) (sub_cons rfl (sub_cons rfl (sub_cons rfl (sub_cons rfl (sub_cons rfl (sub_nil)))))) ?_
    refine WS_range (n := p.spine.length) (fun i l σ => l = [(17, .int .i64 i), (16, .int .i64 (p.spine.length : Nat)), (1, .ptr 0 0), (3, .int .i64 (dmax ((p.spine.take i).flatMap Turn.l))), (15, slc (p.spine.map encU))] ∧ True) (fun i l σ h => by obtain ⟨rfl, h⟩ := h; exact ⟨rfl, rfl⟩) rfl rfl rfl rfl (by have := hS.1.2.2.1; omega) ?_ ?_ p.spine.length 0 _ _ (by omega) ⟨rfl, trivial⟩
    · rintro i l σ hi ⟨rfl, -⟩
      obtain ⟨x, hx, hmem, htake, hdrop⟩ := take_one hi
      refine WS_block ?_
      refine WS_reg fun K gs P hK hgs hP => ?_
      refine o_ia rfl rfl rfl (iU hx) ?_
      refine o_ld rfl rfl (ldr wU) ?_
      refine o_al rfl zr64 rfl rfl ?_
      refine o_st rfl rfl stU ?_
      refine o_nil (hK _ _ ?_); (try clear hK hP hgs K gs P)
      refine WS_reg fun K gs P hK hgs hP => ?_
      refine o_fa rfl rfl fa64_2 ?_
      refine o_ld rfl rfl (ldb box_put (pl28.trans cU2)) ?_
      refine o_len rfl rfl rfl lP ?_
      refine o_mv rfl rfl ?_
      refine o_nil (hK _ _ ?_); (try clear hK hP hgs K gs P)
      refine WS_block ?_
      refine WS.weaken (l0 := [(24, _), (23, _), (1, _), (3, _), (15, _), (16, _), (17, _), (22, _)]) (sub_cons rfl (sub_cons rfl (sub_cons rfl (sub_cons rfl (sub_cons rfl (sub_cons rfl (sub_cons rfl (sub_cons rfl (sub_nil))))))))) ?_
      refine WS_range (n := x.l.length) (fun k l σ => l = [(24, .int .i64 k), (23, .int .i64 (x.l.length : Nat)), (1, .ptr 0 0), (3, .int .i64 (dmax ((p.spine.take i).flatMap Turn.l ++ x.l.take k))), (15, slc (p.spine.map encU)), (16, .int .i64 (p.spine.length : Nat)), (17, .int .i64 i), (22, slc (x.l.map encP))] ∧ True) (fun i l σ h => by obtain ⟨rfl, h⟩ := h; exact ⟨rfl, rfl⟩) rfl rfl rfl rfl (by have := (hS.1.2.2.2.1 x hmem).2; omega) ?_ ?_ x.l.length 0 _ _ (by omega) ⟨by simp, trivial⟩
      · rintro k l σ hk ⟨rfl, -⟩
        obtain ⟨z, hz, hzm, hzt, _⟩ := take_one hk
        refine WS_block ?_
        refine WS_reg fun K gs P hK hgs hP => ?_
        refine o_ia rfl rfl rfl (iP hz) ?_
        refine o_ld rfl rfl (ldr wP) ?_
        refine o_al rfl zr30 rfl rfl ?_
        refine o_st rfl rfl stP ?_
        refine o_nil (hK _ _ ?_); (try clear hK hP hgs K gs P)
        refine WS_reg1 fun K gs P hK hgs hP => ?_
        refine o_mv rfl rfl ?_
        refine o_ld rfl rfl (ldb box_put wP) ?_
        refine o_call rfl (.cons rfl .nil) (ih z (hkid2 x hmem z hzm) (hS.2 z (hkid2 x hmem z hzm)) (hKid z (hkid2 x hmem z hzm))) ?_
        refine o_max rfl (.cons rfl (.cons rfl .nil)) imax ?_
        refine o_as rfl rfl ?_
        refine o_nil (hK _ _ fun tm ht => ?_); (try clear hK hP hgs K gs P)
        rw [← dmax_snoc, List.append_assoc, ← hzt] at ht
        (try simp only [thenQ, blockQ]); exact RoundTo.mk ht (l' := [(24, _), (23, _), (1, _), (3, _), (15, _), (16, _), (17, _), (22, _)]) (sub_cons rfl (sub_cons rfl (sub_cons rfl (sub_cons rfl (sub_cons rfl (sub_cons rfl (sub_cons rfl (sub_cons rfl (sub_nil))))))))) ⟨rfl, _, sub_cons rfl (sub_cons rfl (sub_cons rfl (sub_cons rfl (sub_cons rfl (sub_cons rfl (sub_cons rfl (sub_cons rfl (sub_nil)))))))), rfl, trivial⟩
      · rintro l σ ⟨rfl, -⟩ tm ht
        rw [List.take_length, show (p.spine.take i).flatMap Turn.l ++ x.l = (p.spine.take (i + 1)).flatMap Turn.l from by rw [htake]; simp] at ht
        simp only [thenQ, blockQ, if_true]; exact RoundTo.mk ht (l' := [(17, _), (16, _), (1, _), (3, _), (15, _)]) (sub_cons rfl (sub_cons rfl (sub_cons rfl (sub_cons rfl (sub_cons rfl (sub_nil)))))) ⟨rfl, _, sub_cons rfl (sub_cons rfl (sub_cons rfl (sub_cons rfl (sub_cons rfl (sub_nil))))), rfl, trivial⟩
    · rintro l σ ⟨rfl, -⟩ tm ht
      rw [List.take_length] at ht
      simp only [thenQ, blockQ, if_true]; refine WS_of ?_ ht; clear ht tm
      refine WS_reg fun K gs P hK hgs hP => ?_
      refine o_mv rfl rfl ?_
      have hd1 : depthP p = dmax (p.spine.flatMap Turn.l) + 1 := by rw [depthP_eq, if_pos hb]
      have hp := dmax_pos (p.spine.flatMap Turn.l)
      refine o_bin rfl rfl rfl add_int ?_
      rw [wrap_in (show -9223372036854775808 ≤ dmax (p.spine.flatMap Turn.l) + 1 by omega) (by omega), ← hd1]
      refine o_as rfl rfl ?_
      refine o_nil (hK _ _ ?_); (try clear hK hP hgs K gs P)
      refine WS_ret fun tm ht => ?_
      (try simp only [thenQ, blockQ]); refine endQ_tmp ht rfl rfl
  ·
    have hb0 := hb
    refine WS_reg fun K gs P hK hgs hP => ?_
    refine o_bin rfl rfl rfl eql_int ?_
    refine o_as rfl rfl ?_
    refine o_nil (hK _ _ ?_); (try clear hK hP hgs K gs P)
    refine WS_cond rfl (fun hb => ?_) (fun hb => ?_)
    ·
      refine WS_seqV (l1 := [(1, _)]) (sub_cons rfl (sub_nil)) 3 (.int .i64 ((p.l.map depthP).headD 0)) ?_ ?_
      ·
        refine WS_reg fun K gs P hK hgs hP => ?_
        refine o_fa rfl rfl fa30_6 ?_
        refine o_ld rfl rfl (ldb box_push (pl28.trans cP6)) ?_
        refine o_len rfl rfl rfl lP ?_
        refine o_bin rfl rfl rfl gtr_int ?_
        refine o_nil (hK _ _ ?_); (try clear hK hP hgs K gs P)
        refine WS_cond rfl (fun hc => ?_) (fun hc => ?_)
        ·
          refine WS_reg1 fun K gs P hK hgs hP => ?_
          refine o_fa rfl rfl fa30_6 ?_
          refine o_ld rfl rfl (ldb box_push (pl28.trans cP6)) ?_
          obtain ⟨z, hz⟩ : ∃ z, p.l[0]? = some z := by
            have : 0 < p.l.length := by have h := of_decide_eq_true hc; omega
            exact ⟨p.l[0], by simp [this]⟩
          have hzm := List.mem_of_getElem? hz
          refine o_ia rfl rfl rfl (iP (i := 0) hz) ?_
          refine o_ld rfl rfl (ldr wP) ?_
          refine o_call rfl (.cons rfl .nil) (ih z (hkid z hzm) (hS.2 z (hkid z hzm)) (hKid z (hkid z hzm))) ?_
          refine o_as rfl rfl ?_
          refine o_nil (hK _ _ fun tm ht => ?_); (try clear hK hP hgs K gs P)
          simp only [thenQ, blockQ, if_true]; exact ⟨trivial, ht.sub (sub_cons (by rw [headD_some hz]; rfl) (sub_cons rfl (sub_nil))), trivial⟩
        ·
          refine WS_skip fun tm ht => ?_
          simp only [thenQ, blockQ, if_true]; exact ⟨trivial, ht.sub (sub_cons (by rw [headD_none (by have h := of_decide_eq_false hc; omega)]; rfl) (sub_cons rfl (sub_nil))), trivial⟩
      refine WS_reg fun K gs P hK hgs hP => ?_
      refine o_mv rfl rfl ?_
      refine o_fa rfl rfl fa30_5 ?_
      refine o_ld rfl rfl (ldb box_push (pl27.trans cP5)) ?_
      refine o_len rfl rfl rfl lM ?_
      have hd1 : depthP p = (p.l.map depthP).headD 0 + p.moves.length := by rw [depthP_eq, if_neg (by rw [hb0]; simp), if_pos hb]
      have hp := depthP_pos p
      refine o_bin rfl rfl rfl add_int ?_
      rw [wrap_in (show -9223372036854775808 ≤ (p.l.map depthP).headD 0 + (p.moves.length : Int) by omega) (by omega), ← hd1]
      refine o_as rfl rfl ?_
      refine o_nil (hK _ _ ?_); (try clear hK hP hgs K gs P)
      refine WS_ret fun tm ht => ?_
      (try simp only [thenQ, blockQ]); refine endQ_tmp ht rfl rfl
    ·
      refine WS_skip fun tm ht => ?_
      simp only [thenQ, blockQ, if_true]; refine WS_of ?_ ht; clear ht tm
      refine WS_seq ?_
      refine WS_reg fun K gs P hK hgs hP => ?_
      refine o_fa rfl rfl fa30_6 ?_
      refine o_ld rfl rfl (ldb box_push (pl28.trans cP6)) ?_
      refine o_len rfl rfl rfl lP ?_
      refine o_mv rfl rfl ?_
      refine o_nil (hK _ _ ?_); (try clear hK hP hgs K gs P)
      refine WS_block ?_
      refine WS.weaken (l0 := [(55, _), (54, _), (3, _), (53, _)]) (sub_cons rfl (sub_cons rfl (sub_cons rfl (sub_cons rfl (sub_nil))))) ?_
      refine WS_range (n := p.l.length) (fun i l σ => l = [(55, .int .i64 i), (54, .int .i64 (p.l.length : Nat)), (3, .int .i64 (dmax (p.l.take i))), (53, slc (p.l.map encP))] ∧ True) (fun i l σ h => by obtain ⟨rfl, h⟩ := h; exact ⟨rfl, rfl⟩) rfl rfl rfl rfl (by have := hS.1.2.2.2.2.2.2; omega) ?_ ?_ p.l.length 0 _ _ (by omega) ⟨rfl, trivial⟩
      · rintro i l σ hi ⟨rfl, -⟩
        obtain ⟨x, hx, hmem, htake, hdrop⟩ := take_one hi
        refine WS_block ?_
        refine WS_reg fun K gs P hK hgs hP => ?_
        refine o_ia rfl rfl rfl (iP hx) ?_
        refine o_ld rfl rfl (ldr wP) ?_
        refine o_al rfl zr30 rfl rfl ?_
        refine o_st rfl rfl stP ?_
        refine o_nil (hK _ _ ?_); (try clear hK hP hgs K gs P)
        refine WS_reg1 fun K gs P hK hgs hP => ?_
        refine o_mv rfl rfl ?_
        refine o_ld rfl rfl (ldb box_put wP) ?_
        refine o_call rfl (.cons rfl .nil) (ih x (hkid x hmem) (hS.2 x (hkid x hmem)) (hKid x (hkid x hmem))) ?_
        refine o_max rfl (.cons rfl (.cons rfl .nil)) imax ?_
        refine o_as rfl rfl ?_
        refine o_nil (hK _ _ fun tm ht => ?_); (try clear hK hP hgs K gs P)
        rw [← dmax_snoc, ← htake] at ht
        (try simp only [thenQ, blockQ]); exact RoundTo.mk ht (l' := [(55, _), (54, _), (3, _), (53, _)]) (sub_cons rfl (sub_cons rfl (sub_cons rfl (sub_cons rfl (sub_nil))))) ⟨rfl, _, sub_cons rfl (sub_cons rfl (sub_cons rfl (sub_cons rfl (sub_nil)))), rfl, trivial⟩
      · rintro l σ ⟨rfl, -⟩ tm ht
        rw [List.take_length] at ht
        have hd1 : depthP p = dmax p.l := by rw [depthP_eq, if_neg (by rw [hb0]; simp), if_neg (by rw [hb]; simp)]
        simp only [thenQ, blockQ, if_true]; refine WS_of ?_ ht; clear ht tm
        refine WS_reg fun K gs P hK hgs hP => ?_
        refine o_mv rfl rfl ?_
        refine o_as rfl rfl ?_
        refine o_nil (hK _ _ ?_); (try clear hK hP hgs K gs P)
        refine WS_ret fun tm ht => ?_
        (try simp only [thenQ, blockQ]); refine endQ_tmp ht rfl (by rw [hd1]; rfl)
theorem fn7 : look.fnOf 7 = some fl7 := by kernel_rfl
def DepthP (p : Proof) : Int := if (decide (min (sizeP p 0) 20001 > 20000) || decide (levelsP p 2001 > 2000)) = true then 0 else depthP p
theorem Depth_ok (hpr : NoPr pr) (p : Proof) (hsm : p.Small) : Ret look pr 7 [encP p] (.int .i64 (DepthP p)) := by
  refine Ret.of (fn := fl7) fn7 (hpr.at rfl) ⟨Nat.le_of_ble_eq_true rfl, Nat.le_of_ble_eq_true rfl⟩ (gargs_cons gP gargs_nil) good_int (by simp) ?_
  show WS look pr false 13 [] (bodyOf f7) _ _ _
  simp only [bodyOf, f7]
  refine WS_reg fun K gs P hK hgs hP => ?_
  refine o_box rfl rfl zP fP rP ?_
  refine o_as rfl rfl ?_
  refine o_nil (hK _ _ ?_); (try clear hK hP hgs K gs P)
  refine WS_seq ?_
  refine WS_regB (l1 := [(1, _)]) (sub_cons rfl (sub_nil)) 10 (decide (min (sizeP p 0) 20001 > 20000) || decide (levelsP p 2001 > 2000)) (fun K gs P hK hgs hP => ?_) ?_
  ·
    have s3 : gs 3 = some 6 := by rw [hgs]; rfl
    refine o_ld rfl rfl (ldb box_push wP) ?_
    refine o_call rfl (.cons rfl .nil) (Size_ok hpr p hsm) ?_
    refine o_bin rfl rfl rfl gtr_int ?_
    refine o_mv rfl rfl ?_
    refine o_split 6 rfl (fun e6 => ?_) (fun e6 => ?_)
    ·
      refine o_no rfl rfl rfl s3 rfl ?_
      refine o_no rfl rfl rfl s3 rfl ?_
      refine o_no rfl rfl rfl s3 rfl ?_
      refine o_pick rfl rfl rfl ?_
      exact o_nil (hK _ (by (show some (LV.bool _) = some (LV.bool _); refine congrArg (fun b => some (LV.bool b)) ?_; first | (simp_all; done) | (simp_all; intros; omega))) (sub_cons rfl (sub_nil)))
    ·
      refine o_yes rfl s3 rfl (o_ld rfl rfl (ldb box_push wP) ?_)
      refine o_yes rfl s3 rfl (o_call rfl (.cons rfl .nil) (Levels_ok hpr p hsm) ?_)
      refine o_yes rfl s3 rfl (o_bin rfl rfl rfl gtr_int ?_)
      refine o_pick rfl rfl rfl ?_
      exact o_nil (hK _ (by (show some (LV.bool _) = some (LV.bool _); refine congrArg (fun b => some (LV.bool b)) ?_; first | (simp_all; done) | (simp_all; intros; omega))) (sub_cons rfl (sub_nil)))
  refine WS_cond rfl (fun hb => ?_) (fun hb => ?_)
  ·
    refine WS_reg fun K gs P hK hgs hP => ?_
    refine o_as rfl rfl ?_
    refine o_nil (hK _ _ ?_); (try clear hK hP hgs K gs P)
    refine WS_ret fun tm ht => ?_
    (try simp only [thenQ, blockQ]); refine endQ_tmp ht rfl (by rw [DepthP, if_pos hb]; rfl)
  ·
    have h1 : ¬ min (sizeP p 0) 20001 > 20000 := by simp only [Bool.or_eq_false_iff, decide_eq_false_iff_not] at hb; exact hb.1
    have hcn : (cntP p : Int) < 1099511627776 := by have := cntP_size p; omega
    refine WS_skip fun tm ht => ?_
    simp only [thenQ, blockQ, if_true]; refine WS_of ?_ ht; clear ht tm
    refine WS_reg fun K gs P hK hgs hP => ?_
    refine o_ld rfl rfl (ldb box_push wP) ?_
    refine o_call rfl (.cons rfl .nil) (depth_ok hpr p hsm hcn) ?_
    refine o_as rfl rfl ?_
    refine o_nil (hK _ _ ?_); (try clear hK hP hgs K gs P)
    refine WS_ret fun tm ht => ?_
    (try simp only [thenQ, blockQ]); refine endQ_tmp ht rfl (by rw [DepthP, if_neg (by rw [hb]; simp)]; rfl)
end Go.Lg
end
section
set_option linter.unusedSimpArgs false
set_option maxRecDepth 20000
namespace Go.Lg
open Go.Proofs.Tryz
variable {pr : Prim}
theorem leq_u8 {L : Look} {a b : Int} {t : TypeId} : binL L .leq t (.int .u8 a) (.int .u8 b) = some (.bool (decide (a ≤ b))) := by simp only [binL]; rfl
theorem lss_u8 {L : Look} {a b : Int} {t : TypeId} : binL L .lss t (.int .u8 a) (.int .u8 b) = some (.bool (decide (a < b))) := by simp only [binL]; rfl
theorem gtr_u8 {L : Look} {a b : Int} {t : TypeId} : binL L .gtr t (.int .u8 a) (.int .u8 b) = some (.bool (decide (a > b))) := by simp only [binL]; rfl
theorem fn83 : look.fnOf 83 = some fl83 := by kernel_rfl
theorem isSmall_ok (hpr : NoPr pr) (c : Int) : Ret look pr 83 [.int .u8 c] (.bool (decide ((97 : Int) ≤ c) && decide (c ≤ 122))) := by
  refine Ret.of (fn := fl83) fn83 (hpr.at rfl) ⟨Nat.le_of_ble_eq_true rfl, Nat.le_of_ble_eq_true rfl⟩ (gargs_cons gint gargs_nil) good_bool (by simp) ?_
  show WS look pr false 9 [] (bodyOf f83) _ _ _
  simp only [bodyOf, f83]
  refine WS_reg fun K gs P hK hgs hP => ?_
  refine o_as rfl rfl ?_
  refine o_nil (hK _ _ ?_); (try clear hK hP hgs K gs P)
  refine WS_regB (l1 := []) (sub_nil) 2 (decide ((97 : Int) ≤ c) && decide (c ≤ 122)) (fun K gs P hK hgs hP => ?_) ?_
  ·
    have s2 : gs 2 = some 5 := by rw [hgs]; rfl
    refine o_mv rfl rfl ?_
    refine o_bin rfl rfl rfl leq_u8 ?_
    refine o_mv rfl rfl ?_
    refine o_split 5 rfl (fun e5 => ?_) (fun e5 => ?_)
    ·
      refine o_yes rfl s2 rfl (o_mv rfl rfl ?_)
      refine o_yes rfl s2 rfl (o_bin rfl rfl rfl leq_u8 ?_)
      refine o_pick rfl rfl rfl ?_
      refine o_as rfl rfl ?_
      exact o_nil (hK _ (by (show some (LV.bool _) = some (LV.bool _); refine congrArg (fun b => some (LV.bool b)) ?_; first | (simp_all; done) | (simp_all; intros; omega))) (sub_nil))
    ·
      refine o_no rfl rfl rfl s2 rfl ?_
      refine o_no rfl rfl rfl s2 rfl ?_
      refine o_pick rfl rfl rfl ?_
      refine o_as rfl rfl ?_
      exact o_nil (hK _ (by (show some (LV.bool _) = some (LV.bool _); refine congrArg (fun b => some (LV.bool b)) ?_; first | (simp_all; done) | (simp_all; intros; omega))) (sub_nil))
  refine WS_ret fun tm ht => ?_
  (try simp only [thenQ, blockQ]); refine endQ_tmp ht rfl rfl
theorem fn94 : look.fnOf 94 = some fl94 := by kernel_rfl
theorem isCapital_ok (hpr : NoPr pr) (c : Int) : Ret look pr 94 [.int .u8 c] (.bool (decide ((65 : Int) ≤ c) && decide (c ≤ 90))) := by
  refine Ret.of (fn := fl94) fn94 (hpr.at rfl) ⟨Nat.le_of_ble_eq_true rfl, Nat.le_of_ble_eq_true rfl⟩ (gargs_cons gint gargs_nil) good_bool (by simp) ?_
  show WS look pr false 9 [] (bodyOf f94) _ _ _
  simp only [bodyOf, f94]
  refine WS_reg fun K gs P hK hgs hP => ?_
  refine o_as rfl rfl ?_
  refine o_nil (hK _ _ ?_); (try clear hK hP hgs K gs P)
  refine WS_regB (l1 := []) (sub_nil) 2 (decide ((65 : Int) ≤ c) && decide (c ≤ 90)) (fun K gs P hK hgs hP => ?_) ?_
  ·
    have s2 : gs 2 = some 5 := by rw [hgs]; rfl
    refine o_mv rfl rfl ?_
    refine o_bin rfl rfl rfl leq_u8 ?_
    refine o_mv rfl rfl ?_
    refine o_split 5 rfl (fun e5 => ?_) (fun e5 => ?_)
    ·
      refine o_yes rfl s2 rfl (o_mv rfl rfl ?_)
      refine o_yes rfl s2 rfl (o_bin rfl rfl rfl leq_u8 ?_)
      refine o_pick rfl rfl rfl ?_
      refine o_as rfl rfl ?_
      exact o_nil (hK _ (by (show some (LV.bool _) = some (LV.bool _); refine congrArg (fun b => some (LV.bool b)) ?_; first | (simp_all; done) | (simp_all; intros; omega))) (sub_nil))
    ·
      refine o_no rfl rfl rfl s2 rfl ?_
      refine o_no rfl rfl rfl s2 rfl ?_
      refine o_pick rfl rfl rfl ?_
      refine o_as rfl rfl ?_
      exact o_nil (hK _ (by (show some (LV.bool _) = some (LV.bool _); refine congrArg (fun b => some (LV.bool b)) ?_; first | (simp_all; done) | (simp_all; intros; omega))) (sub_nil))
  refine WS_ret fun tm ht => ?_
  (try simp only [thenQ, blockQ]); refine endQ_tmp ht rfl rfl
theorem fn84 : look.fnOf 84 = some fl84 := by kernel_rfl
theorem spelled_ok (hpr : NoPr pr) (s : ByteArray) (hs : s.size < 1073741824) : ∃ v, (∃ n : Nat, v = LV.int .i64 n ∧ n ≤ s.size) ∧ Ret look pr 84 [.str s] v := by
  refine Ret.ofE (fn := fl84) fn84 (hpr.at rfl) ⟨Nat.le_of_ble_eq_true rfl, Nat.le_of_ble_eq_true rfl⟩ (gargs_cons gstr gargs_nil) (fun v hv => by obtain ⟨n, rfl, _⟩ := hv; exact ⟨good_int, by simp⟩) ?_
  show WS look pr false 41 [] (bodyOf f84) _ _ _
  simp only [bodyOf, f84]
  refine WS_reg fun K gs P hK hgs hP => ?_
  refine o_as rfl rfl ?_
  refine o_nil (hK _ _ ?_); (try clear hK hP hgs K gs P)
  refine WS_seq ?_
  refine WS_reg fun K gs P hK hgs hP => ?_
  refine o_mv rfl rfl ?_
  refine o_len rfl rfl rfl (len_str us9) ?_
  refine o_mv rfl rfl ?_
  refine o_nil (hK _ _ ?_); (try clear hK hP hgs K gs P)
  refine WS_block ?_
  refine WS.weaken (l0 := [(7, _), (6, _), (0, _)]) (sub_cons rfl (sub_cons rfl (sub_cons rfl (sub_nil)))) ?_
  refine WS_range (n := s.size) (fun i l σ => l = [(7, .int .i64 i), (6, .int .i64 (s.size : Nat)), (0, .str s)] ∧ True) (fun i l σ h => by obtain ⟨rfl, h⟩ := h; exact ⟨rfl, rfl⟩) rfl rfl rfl rfl (by omega) ?_ ?_ s.size 0 _ _ (by omega) ⟨rfl, trivial⟩
  · rintro i l σ hi ⟨rfl, -⟩
    obtain ⟨b, hb0⟩ : ∃ b, s[i]? = some b := ⟨s[i], by simp [hi]⟩
    refine WS_block ?_
    refine WS_reg fun K gs P hK hgs hP => ?_
    refine o_mv rfl rfl ?_
    refine o_as rfl rfl ?_
    refine o_nil (hK _ _ ?_); (try clear hK hP hgs K gs P)
    refine WS_reg fun K gs P hK hgs hP => ?_
    refine o_mv rfl rfl ?_
    refine o_mv rfl rfl ?_
    refine o_ix rfl rfl rfl (ix_str us9 rfl hb0) ?_
    refine o_as rfl rfl ?_
    refine o_nil (hK _ _ ?_); (try clear hK hP hgs K gs P)
    refine WS_regE (l1 := [(0, _), (3, _), (6, _), (7, _)]) (sub_cons rfl (sub_cons rfl (sub_cons rfl (sub_cons rfl (sub_nil))))) 36 (fun K gs P hK hgs hP => ?_) fun bb => ?_
    ·
      have s3 : gs 3 = some 16 := by rw [hgs]; rfl
      have s8 : gs 8 = some 21 := by rw [hgs]; rfl
      have s11 : gs 11 = some 24 := by rw [hgs]; rfl
      have s16 : gs 16 = some 29 := by rw [hgs]; rfl
      have s20 : gs 20 = some 33 := by rw [hgs]; rfl
      refine o_mv rfl rfl ?_
      refine o_call rfl (.cons rfl .nil) (isSmall_ok hpr _) ?_
      refine o_un rfl rfl rfl ?_
      refine o_mv rfl rfl ?_
      refine o_split 16 rfl (fun e16 => ?_) (fun e16 => ?_)
      ·
        refine o_yes rfl s3 rfl (o_mv rfl rfl ?_)
        refine o_yes rfl s3 rfl (o_call rfl (.cons rfl .nil) (isCapital_ok hpr _) ?_)
        refine o_yes rfl s3 rfl (o_un rfl rfl rfl ?_)
        refine o_pick rfl rfl rfl ?_
        refine o_mv rfl rfl ?_
        refine o_split 21 rfl (fun e21 => ?_) (fun e21 => ?_)
        ·
          refine o_yes rfl s8 rfl (o_mv rfl rfl ?_)
          refine o_yes rfl s8 rfl (o_bin rfl rfl rfl lss_u8 ?_)
          refine o_yes rfl s8 rfl (o_mv rfl rfl ?_)
          refine o_split 24 rfl (fun e24 => ?_) (fun e24 => ?_)
          ·
            refine o_no rfl rfl rfl s11 rfl ?_
            refine o_no rfl rfl rfl s11 rfl ?_
            refine o_yes rfl s8 rfl (o_pick rfl rfl rfl ?_)
            refine o_pick rfl rfl rfl ?_
            refine o_mv rfl rfl ?_
            refine o_yes rfl s16 rfl (o_mv rfl rfl ?_)
            refine o_yes rfl s16 rfl (o_bin rfl rfl rfl neq_int ?_)
            refine o_pick rfl rfl rfl ?_
            refine o_mv rfl rfl ?_
            refine o_split 33 rfl (fun e33 => ?_) (fun e33 => ?_)
            ·
              refine o_yes rfl s20 rfl (o_mv rfl rfl ?_)
              refine o_yes rfl s20 rfl (o_bin rfl rfl rfl neq_int ?_)
              refine o_pick rfl rfl rfl ?_
              exact o_nil (hK _ _ rfl (sub_cons rfl (sub_cons rfl (sub_cons rfl (sub_cons rfl (sub_nil))))))
            ·
              refine o_no rfl rfl rfl s20 rfl ?_
              refine o_no rfl rfl rfl s20 rfl ?_
              refine o_pick rfl rfl rfl ?_
              exact o_nil (hK _ _ rfl (sub_cons rfl (sub_cons rfl (sub_cons rfl (sub_cons rfl (sub_nil))))))
          ·
            refine o_yes rfl s11 rfl (o_mv rfl rfl ?_)
            refine o_yes rfl s11 rfl (o_bin rfl rfl rfl gtr_u8 ?_)
            refine o_yes rfl s8 rfl (o_pick rfl rfl rfl ?_)
            refine o_pick rfl rfl rfl ?_
            refine o_mv rfl rfl ?_
            refine o_split 29 rfl (fun e29 => ?_) (fun e29 => ?_)
            ·
              refine o_yes rfl s16 rfl (o_mv rfl rfl ?_)
              refine o_yes rfl s16 rfl (o_bin rfl rfl rfl neq_int ?_)
              refine o_pick rfl rfl rfl ?_
              refine o_mv rfl rfl ?_
              refine o_split 33 rfl (fun e33 => ?_) (fun e33 => ?_)
              ·
                refine o_yes rfl s20 rfl (o_mv rfl rfl ?_)
                refine o_yes rfl s20 rfl (o_bin rfl rfl rfl neq_int ?_)
                refine o_pick rfl rfl rfl ?_
                exact o_nil (hK _ _ rfl (sub_cons rfl (sub_cons rfl (sub_cons rfl (sub_cons rfl (sub_nil))))))
              ·
                refine o_no rfl rfl rfl s20 rfl ?_
                refine o_no rfl rfl rfl s20 rfl ?_
                refine o_pick rfl rfl rfl ?_
                exact o_nil (hK _ _ rfl (sub_cons rfl (sub_cons rfl (sub_cons rfl (sub_cons rfl (sub_nil))))))
            ·
              refine o_no rfl rfl rfl s16 rfl ?_
              refine o_no rfl rfl rfl s16 rfl ?_
              refine o_pick rfl rfl rfl ?_
              refine o_mv rfl rfl ?_
              refine o_no rfl rfl rfl s20 rfl ?_
              refine o_no rfl rfl rfl s20 rfl ?_
              refine o_pick rfl rfl rfl ?_
              exact o_nil (hK _ _ rfl (sub_cons rfl (sub_cons rfl (sub_cons rfl (sub_cons rfl (sub_nil))))))
        ·
          refine o_no rfl rfl rfl s8 rfl ?_
          refine o_no rfl rfl rfl s8 rfl ?_
          refine o_no rfl rfl rfl s8 rfl ?_
          refine o_not rfl rfl rfl s11 rfl ?_
          refine o_not rfl rfl rfl s11 rfl ?_
          refine o_no rfl rfl rfl s8 rfl ?_
          refine o_pick rfl rfl rfl ?_
          refine o_mv rfl rfl ?_
          refine o_no rfl rfl rfl s16 rfl ?_
          refine o_no rfl rfl rfl s16 rfl ?_
          refine o_pick rfl rfl rfl ?_
          refine o_mv rfl rfl ?_
          refine o_no rfl rfl rfl s20 rfl ?_
          refine o_no rfl rfl rfl s20 rfl ?_
          refine o_pick rfl rfl rfl ?_
          exact o_nil (hK _ _ rfl (sub_cons rfl (sub_cons rfl (sub_cons rfl (sub_cons rfl (sub_nil))))))
      ·
        refine o_no rfl rfl rfl s3 rfl ?_
        refine o_no rfl rfl rfl s3 rfl ?_
        refine o_no rfl rfl rfl s3 rfl ?_
        refine o_pick rfl rfl rfl ?_
        refine o_mv rfl rfl ?_
        refine o_no rfl rfl rfl s8 rfl ?_
        refine o_no rfl rfl rfl s8 rfl ?_
        refine o_no rfl rfl rfl s8 rfl ?_
        refine o_not rfl rfl rfl s11 rfl ?_
        refine o_not rfl rfl rfl s11 rfl ?_
        refine o_no rfl rfl rfl s8 rfl ?_
        refine o_pick rfl rfl rfl ?_
        refine o_mv rfl rfl ?_
        refine o_no rfl rfl rfl s16 rfl ?_
        refine o_no rfl rfl rfl s16 rfl ?_
        refine o_pick rfl rfl rfl ?_
        refine o_mv rfl rfl ?_
        refine o_no rfl rfl rfl s20 rfl ?_
        refine o_no rfl rfl rfl s20 rfl ?_
        refine o_pick rfl rfl rfl ?_
        exact o_nil (hK _ _ rfl (sub_cons rfl (sub_cons rfl (sub_cons rfl (sub_cons rfl (sub_nil))))))
    refine WS_cond rfl (fun hb => ?_) (fun hb => ?_)
    ·
      refine WS_reg fun K gs P hK hgs hP => ?_
      refine o_mv rfl rfl ?_
      refine o_as rfl rfl ?_
      refine o_nil (hK _ _ ?_); (try clear hK hP hgs K gs P)
      refine WS_ret fun tm ht => ?_
      (try simp only [thenQ, blockQ]); exact endM_tmp ht rfl .nil ⟨_, ⟨i, rfl, by omega⟩, rfl⟩
    ·
      refine WS_skip fun tm ht => ?_
      (try simp only [thenQ, blockQ]); exact RoundTo.mk ht (l' := [(7, _), (6, _), (0, _)]) (sub_cons rfl (sub_cons rfl (sub_cons rfl (sub_nil)))) ⟨rfl, _, sub_cons rfl (sub_cons rfl (sub_cons rfl (sub_nil))), rfl, trivial⟩
  · rintro l σ ⟨rfl, -⟩ tm ht
    simp only [thenQ, blockQ, if_true]; refine WS_of ?_ ht; clear ht tm
    refine WS_reg fun K gs P hK hgs hP => ?_
    refine o_mv rfl rfl ?_
    refine o_len rfl rfl rfl (len_str us9) ?_
    refine o_as rfl rfl ?_
    refine o_nil (hK _ _ ?_); (try clear hK hP hgs K gs P)
    refine WS_ret fun tm ht => ?_
    (try simp only [thenQ, blockQ]); exact endM_tmp ht rfl .nil ⟨_, ⟨s.size, rfl, Nat.le_refl _⟩, rfl⟩
end Go.Lg
end
