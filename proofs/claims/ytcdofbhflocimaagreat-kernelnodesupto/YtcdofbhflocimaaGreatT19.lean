/- Part 19 of the proof: C13 C14 C15 C16 C17 C18 C19 C20 C21. By AI agents; no person has read it. -/
import Derived.Test.YtcdofbhflocimaaGreatT18
import Derived.Test.YtcdofbhflocimaaGreatT16
set_option linter.unusedVariables false
set_option linter.unusedSimpArgs false
set_option linter.unusedSectionVars false
section
set_option linter.unusedSimpArgs false
set_option maxRecDepth 20000
namespace Go.Lg
open Go.Proofs.Tryz
variable {pr : Prim}
theorem str_get {s : ByteArray} (i : Nat) (h : i < s.size) : ∃ b, s[i]? = some b := ⟨s[i], by simp [h]⟩
theorem str_get0 {s : ByteArray} (h : (s.data.toList == []) = false) : ∃ b, s[0]? = some b := str_get 0 (by
  have h1 : s.data.toList ≠ [] := by simpa using h
  have h2 : 0 < s.data.toList.length := List.length_pos_iff.2 h1
  rw [Array.length_toList] at h2; exact h2)
theorem fn64 : look.fnOf 64 = some fl64 := by kernel_rfl
theorem isName_ok (hpr : NoPr pr) (s : ByteArray) (hs : s.size < 1073741824) : ∃ v, (∃ b, v = LV.bool b) ∧ Ret look pr 64 [.str s] v := by
  obtain ⟨_, ⟨n, rfl, hn⟩, hspell⟩ := spelled_ok hpr s hs
  have hrs : (s.extract n s.size).size < 1073741824 := by rw [ByteArray.size_extract]; omega
  have hw : ∀ m : Nat, m < 1073741824 → IntKind.i64.wrap ((m : Int) - 1) = (m : Int) - 1 := fun m hm => wrap_in (by omega) (by omega)
  refine Ret.ofE (fn := fl64) fn64 (hpr.at rfl) ⟨Nat.le_of_ble_eq_true rfl, Nat.le_of_ble_eq_true rfl⟩ (gargs_cons gstr gargs_nil) (fun v hv => by obtain ⟨n, rfl⟩ := hv; exact ⟨good_bool, by simp⟩) ?_
  show WS look pr false 64 [] (bodyOf f64) _ _ _
  simp only [bodyOf, f64]
  refine WS_reg fun K gs P hK hgs hP => ?_
  refine o_as rfl rfl ?_
  refine o_nil (hK _ _ ?_); (try clear hK hP hgs K gs P)
  refine WS_seq ?_
  refine WS_regE (l1 := [(0, _)]) (sub_cons rfl (sub_nil)) 16 (fun K gs P hK hgs hP => ?_) fun bb => ?_
  ·
    have s2 : gs 2 = some 6 := by rw [hgs]; rfl
    have s7 : gs 7 = some 11 := by rw [hgs]; rfl
    refine o_mv rfl rfl ?_
    refine o_bin rfl rfl rfl rfl ?_
    refine o_mv rfl rfl ?_
    refine o_split 6 rfl (fun e6 => ?_) (fun e6 => ?_)
    ·
      refine o_no rfl rfl rfl s2 rfl ?_
      refine o_no rfl rfl rfl s2 rfl ?_
      refine o_no rfl rfl rfl s2 rfl ?_
      refine o_pick rfl rfl rfl ?_
      refine o_mv rfl rfl ?_
      refine o_no rfl rfl rfl s7 rfl ?_
      refine o_no rfl rfl rfl s7 rfl ?_
      refine o_no rfl rfl rfl s7 rfl ?_
      refine o_no rfl rfl rfl s7 rfl ?_
      refine o_pick rfl rfl rfl ?_
      exact o_nil (hK _ _ rfl (sub_cons rfl (sub_nil)))
    ·
      refine o_yes rfl s2 rfl (o_mv rfl rfl ?_)
      refine o_yes rfl s2 rfl (o_len rfl rfl rfl (len_str us9) ?_)
      refine o_yes rfl s2 rfl (o_bin rfl rfl rfl gtr_int ?_)
      refine o_pick rfl rfl rfl ?_
      refine o_mv rfl rfl ?_
      refine o_split 11 rfl (fun e11 => ?_) (fun e11 => ?_)
      ·
        refine o_no rfl rfl rfl s7 rfl ?_
        refine o_no rfl rfl rfl s7 rfl ?_
        refine o_no rfl rfl rfl s7 rfl ?_
        refine o_no rfl rfl rfl s7 rfl ?_
        refine o_pick rfl rfl rfl ?_
        exact o_nil (hK _ _ rfl (sub_cons rfl (sub_nil)))
      ·
        refine o_yes rfl s7 rfl (o_mv rfl rfl ?_)
        obtain ⟨b0, hb0⟩ := str_get0 e6
        refine o_yes rfl s7 rfl (o_ix rfl rfl rfl (ix_str (n := 0) us9 rfl hb0) ?_)
        refine o_yes rfl s7 rfl (o_call rfl (.cons rfl .nil) (isSmall_ok hpr _) ?_)
        refine o_yes rfl s7 rfl (o_un rfl rfl rfl ?_)
        refine o_pick rfl rfl rfl ?_
        exact o_nil (hK _ _ rfl (sub_cons rfl (sub_nil)))
  refine WS_cond rfl (fun hb => ?_) (fun hb => ?_)
  ·
    refine WS_reg fun K gs P hK hgs hP => ?_
    refine o_as rfl rfl ?_
    refine o_nil (hK _ _ ?_); (try clear hK hP hgs K gs P)
    refine WS_ret fun tm ht => ?_
    (try simp only [thenQ, blockQ]); exact endM_tmp ht rfl .nil ⟨_, ⟨_, rfl⟩, rfl⟩
  ·
    refine WS_skip fun tm ht => ?_
    simp only [thenQ, blockQ, if_true]; refine WS_of ?_ ht; clear ht tm
    refine WS_seq ?_
    refine WS_reg fun K gs P hK hgs hP => ?_
    refine o_mv rfl rfl ?_
    refine o_nil (hK _ _ ?_); (try clear hK hP hgs K gs P)
    refine WS_block ?_
    refine WS_seqE (l1 := [(0, _)]) (sub_cons rfl (sub_nil)) 18 ?_ fun bb => ?_
    ·
      refine WS_reg fun K gs P hK hgs hP => ?_
      refine o_bin rfl rfl rfl rfl ?_
      refine o_as rfl rfl ?_
      refine o_nil (hK _ _ ?_); (try clear hK hP hgs K gs P)
      refine WS_cond rfl (fun hb => ?_) (fun hb => ?_)
      ·
        refine WS_skip fun tm ht => ?_
        simp only [thenQ, blockQ, if_true]; exact ⟨trivial, ⟨_, ht.sub (sub_cons rfl (sub_cons rfl (sub_nil)))⟩, trivial⟩
      ·
        refine WS_reg fun K gs P hK hgs hP => ?_
        refine o_bin rfl rfl rfl rfl ?_
        refine o_as rfl rfl ?_
        refine o_nil (hK _ _ ?_); (try clear hK hP hgs K gs P)
        refine WS_cond rfl (fun hb => ?_) (fun hb => ?_)
        ·
          refine WS_skip fun tm ht => ?_
          simp only [thenQ, blockQ, if_true]; exact ⟨trivial, ⟨_, ht.sub (sub_cons rfl (sub_cons rfl (sub_nil)))⟩, trivial⟩
        ·
          refine WS_reg fun K gs P hK hgs hP => ?_
          refine o_bin rfl rfl rfl rfl ?_
          refine o_as rfl rfl ?_
          refine o_nil (hK _ _ ?_); (try clear hK hP hgs K gs P)
          refine WS_cond rfl (fun hb => ?_) (fun hb => ?_)
          ·
            refine WS_skip fun tm ht => ?_
            simp only [thenQ, blockQ, if_true]; exact ⟨trivial, ⟨_, ht.sub (sub_cons rfl (sub_cons rfl (sub_nil)))⟩, trivial⟩
          ·
            refine WS_reg fun K gs P hK hgs hP => ?_
            refine o_bin rfl rfl rfl rfl ?_
            refine o_as rfl rfl ?_
            refine o_nil (hK _ _ ?_); (try clear hK hP hgs K gs P)
            refine WS_cond rfl (fun hb => ?_) (fun hb => ?_)
            ·
              refine WS_skip fun tm ht => ?_
              simp only [thenQ, blockQ, if_true]; exact ⟨trivial, ⟨_, ht.sub (sub_cons rfl (sub_cons rfl (sub_nil)))⟩, trivial⟩
            ·
              refine WS_reg fun K gs P hK hgs hP => ?_
              refine o_bin rfl rfl rfl rfl ?_
              refine o_as rfl rfl ?_
              refine o_nil (hK _ _ ?_); (try clear hK hP hgs K gs P)
              refine WS_cond rfl (fun hb => ?_) (fun hb => ?_)
              ·
                refine WS_skip fun tm ht => ?_
                simp only [thenQ, blockQ, if_true]; exact ⟨trivial, ⟨_, ht.sub (sub_cons rfl (sub_cons rfl (sub_nil)))⟩, trivial⟩
              ·
                refine WS_reg fun K gs P hK hgs hP => ?_
                refine o_bin rfl rfl rfl rfl ?_
                refine o_as rfl rfl ?_
                refine o_nil (hK _ _ ?_); (try clear hK hP hgs K gs P)
                refine WS_cond rfl (fun hb => ?_) (fun hb => ?_)
                ·
                  refine WS_skip fun tm ht => ?_
                  simp only [thenQ, blockQ, if_true]; exact ⟨trivial, ⟨_, ht.sub (sub_cons rfl (sub_cons rfl (sub_nil)))⟩, trivial⟩
                ·
                  refine WS_reg fun K gs P hK hgs hP => ?_
                  refine o_bin rfl rfl rfl rfl ?_
                  refine o_as rfl rfl ?_
                  refine o_nil (hK _ _ ?_); (try clear hK hP hgs K gs P)
                  refine WS_cond rfl (fun hb => ?_) (fun hb => ?_)
                  ·
                    refine WS_skip fun tm ht => ?_
                    simp only [thenQ, blockQ, if_true]; exact ⟨trivial, ⟨_, ht.sub (sub_cons rfl (sub_cons rfl (sub_nil)))⟩, trivial⟩
                  ·
                    refine WS_reg fun K gs P hK hgs hP => ?_
                    refine o_bin rfl rfl rfl rfl ?_
                    refine o_as rfl rfl ?_
                    refine o_nil (hK _ _ ?_); (try clear hK hP hgs K gs P)
                    refine WS_cond rfl (fun hb => ?_) (fun hb => ?_)
                    ·
                      refine WS_skip fun tm ht => ?_
                      simp only [thenQ, blockQ, if_true]; exact ⟨trivial, ⟨_, ht.sub (sub_cons rfl (sub_cons rfl (sub_nil)))⟩, trivial⟩
                    ·
                      refine WS_reg fun K gs P hK hgs hP => ?_
                      refine o_bin rfl rfl rfl rfl ?_
                      refine o_as rfl rfl ?_
                      refine o_nil (hK _ _ ?_); (try clear hK hP hgs K gs P)
                      refine WS_cond rfl (fun hb => ?_) (fun hb => ?_)
                      ·
                        refine WS_skip fun tm ht => ?_
                        simp only [thenQ, blockQ, if_true]; exact ⟨trivial, ⟨_, ht.sub (sub_cons rfl (sub_cons rfl (sub_nil)))⟩, trivial⟩
                      ·
                        refine WS_reg fun K gs P hK hgs hP => ?_
                        refine o_bin rfl rfl rfl rfl ?_
                        refine o_as rfl rfl ?_
                        refine o_nil (hK _ _ ?_); (try clear hK hP hgs K gs P)
                        refine WS_cond rfl (fun hb => ?_) (fun hb => ?_)
                        ·
                          refine WS_skip fun tm ht => ?_
                          simp only [thenQ, blockQ, if_true]; exact ⟨trivial, ⟨_, ht.sub (sub_cons rfl (sub_cons rfl (sub_nil)))⟩, trivial⟩
                        ·
                          refine WS_reg fun K gs P hK hgs hP => ?_
                          refine o_bin rfl rfl rfl rfl ?_
                          refine o_as rfl rfl ?_
                          refine o_nil (hK _ _ ?_); (try clear hK hP hgs K gs P)
                          refine WS_cond rfl (fun hb => ?_) (fun hb => ?_)
                          ·
                            refine WS_skip fun tm ht => ?_
                            simp only [thenQ, blockQ, if_true]; exact ⟨trivial, ⟨_, ht.sub (sub_cons rfl (sub_cons rfl (sub_nil)))⟩, trivial⟩
                          ·
                            refine WS_reg fun K gs P hK hgs hP => ?_
                            refine o_bin rfl rfl rfl rfl ?_
                            refine o_as rfl rfl ?_
                            refine o_nil (hK _ _ ?_); (try clear hK hP hgs K gs P)
                            refine WS_cond rfl (fun hb => ?_) (fun hb => ?_)
                            ·
                              refine WS_skip fun tm ht => ?_
                              simp only [thenQ, blockQ, if_true]; exact ⟨trivial, ⟨_, ht.sub (sub_cons rfl (sub_cons rfl (sub_nil)))⟩, trivial⟩
                            ·
                              refine WS_reg fun K gs P hK hgs hP => ?_
                              refine o_bin rfl rfl rfl rfl ?_
                              refine o_as rfl rfl ?_
                              refine o_nil (hK _ _ ?_); (try clear hK hP hgs K gs P)
                              refine WS_cond rfl (fun hb => ?_) (fun hb => ?_)
                              ·
                                refine WS_skip fun tm ht => ?_
                                simp only [thenQ, blockQ, if_true]; exact ⟨trivial, ⟨_, ht.sub (sub_cons rfl (sub_cons rfl (sub_nil)))⟩, trivial⟩
                              ·
                                refine WS_reg fun K gs P hK hgs hP => ?_
                                refine o_bin rfl rfl rfl rfl ?_
                                refine o_as rfl rfl ?_
                                refine o_nil (hK _ _ ?_); (try clear hK hP hgs K gs P)
                                refine WS_cond rfl (fun hb => ?_) (fun hb => ?_)
                                ·
                                  refine WS_skip fun tm ht => ?_
                                  simp only [thenQ, blockQ, if_true]; exact ⟨trivial, ⟨_, ht.sub (sub_cons rfl (sub_cons rfl (sub_nil)))⟩, trivial⟩
                                ·
                                  refine WS_reg fun K gs P hK hgs hP => ?_
                                  refine o_bin rfl rfl rfl rfl ?_
                                  refine o_as rfl rfl ?_
                                  refine o_nil (hK _ _ ?_); (try clear hK hP hgs K gs P)
                                  refine WS_cond rfl (fun hb => ?_) (fun hb => ?_)
                                  ·
                                    refine WS_skip fun tm ht => ?_
                                    simp only [thenQ, blockQ, if_true]; exact ⟨trivial, ⟨_, ht.sub (sub_cons rfl (sub_cons rfl (sub_nil)))⟩, trivial⟩
                                  ·
                                    refine WS_reg fun K gs P hK hgs hP => ?_
                                    refine o_bin rfl rfl rfl rfl ?_
                                    refine o_as rfl rfl ?_
                                    refine o_nil (hK _ _ ?_); (try clear hK hP hgs K gs P)
                                    refine WS_cond rfl (fun hb => ?_) (fun hb => ?_)
                                    ·
                                      refine WS_skip fun tm ht => ?_
                                      simp only [thenQ, blockQ, if_true]; exact ⟨trivial, ⟨_, ht.sub (sub_cons rfl (sub_cons rfl (sub_nil)))⟩, trivial⟩
                                    ·
                                      refine WS_reg1 fun K gs P hK hgs hP => ?_
                                      refine o_bin rfl rfl rfl rfl ?_
                                      refine o_as rfl rfl ?_
                                      refine o_nil (hK _ _ fun tm ht => ?_); (try clear hK hP hgs K gs P)
                                      simp only [thenQ, blockQ, if_true]; exact ⟨trivial, ⟨_, ht.sub (sub_cons rfl (sub_cons rfl (sub_nil)))⟩, trivial⟩
    refine WS_cond rfl (fun hb => ?_) (fun hb => ?_)
    ·
      refine WS_reg fun K gs P hK hgs hP => ?_
      refine o_as rfl rfl ?_
      refine o_nil (hK _ _ ?_); (try clear hK hP hgs K gs P)
      refine WS_ret fun tm ht => ?_
      (try simp only [thenQ, blockQ]); exact endM_tmp ht rfl .nil ⟨_, ⟨_, rfl⟩, rfl⟩
    ·
      refine WS_skip fun tm ht => ?_
      simp only [thenQ, blockQ, if_true]; refine WS_of ?_ ht; clear ht tm
      refine WS_reg fun K gs P hK hgs hP => ?_
      refine o_mv rfl rfl ?_
      refine o_mv rfl rfl ?_
      refine o_call rfl (.cons rfl .nil) hspell ?_
      refine o_slc rfl rfl rfl (sl_str us9 rfl hn) ?_
      refine o_as rfl rfl ?_
      refine o_nil (hK _ _ ?_); (try clear hK hP hgs K gs P)
      refine WS_seq ?_
      refine WS_reg fun K gs P hK hgs hP => ?_
      refine o_mv rfl rfl ?_
      refine o_bin rfl rfl rfl rfl ?_
      refine o_nil (hK _ _ ?_); (try clear hK hP hgs K gs P)
      refine WS_cond rfl (fun hb => ?_) (fun hb => ?_)
      ·
        refine WS_reg fun K gs P hK hgs hP => ?_
        refine o_as rfl rfl ?_
        refine o_nil (hK _ _ ?_); (try clear hK hP hgs K gs P)
        refine WS_ret fun tm ht => ?_
        (try simp only [thenQ, blockQ]); exact endM_tmp ht rfl .nil ⟨_, ⟨_, rfl⟩, rfl⟩
      ·
        refine WS_skip fun tm ht => ?_
        simp only [thenQ, blockQ, if_true]; refine WS_of ?_ ht; clear ht tm
        refine WS_regE (l1 := []) (sub_nil) 2 (fun K gs P hK hgs hP => ?_) fun bb => ?_
        ·
          have s3 : gs 3 = some 45 := by rw [hgs]; rfl
          have s8 : gs 8 = some 50 := by rw [hgs]; rfl
          have s13 : gs 13 = some 55 := by rw [hgs]; rfl
          refine o_mv rfl rfl ?_
          refine o_len rfl rfl rfl (len_str us9) ?_
          refine o_bin rfl rfl rfl gtr_int ?_
          refine o_mv rfl rfl ?_
          refine o_split 45 rfl (fun e45 => ?_) (fun e45 => ?_)
          ·
            refine o_yes rfl s3 rfl (o_mv rfl rfl ?_)
            obtain ⟨r0, hr0⟩ := str_get 0 (show 0 < (s.extract n s.size).size by have h := of_decide_eq_true e45; omega)
            obtain ⟨r1, hr1⟩ := str_get 1 (show 1 < (s.extract n s.size).size by have h := of_decide_eq_true e45; omega)
            refine o_yes rfl s3 rfl (o_ix rfl rfl rfl (ix_str (n := 0) us9 rfl hr0) ?_)
            refine o_yes rfl s3 rfl (o_bin rfl rfl rfl eql_int ?_)
            refine o_pick rfl rfl rfl ?_
            refine o_mv rfl rfl ?_
            refine o_split 50 rfl (fun e50 => ?_) (fun e50 => ?_)
            ·
              refine o_yes rfl s8 rfl (o_mv rfl rfl ?_)
              refine o_yes rfl s8 rfl (o_ix rfl rfl rfl (ix_str (n := 1) us9 rfl hr1) ?_)
              refine o_yes rfl s8 rfl (o_call rfl (.cons rfl .nil) (isSmall_ok hpr _) ?_)
              refine o_pick rfl rfl rfl ?_
              refine o_mv rfl rfl ?_
              refine o_split 55 rfl (fun e55 => ?_) (fun e55 => ?_)
              ·
                refine o_yes rfl s13 rfl (o_mv rfl rfl ?_)
                have h1 : 1 ≤ (s.extract n s.size).size := by have h := of_decide_eq_true e45; omega
                obtain ⟨_, ⟨m, rfl, hm⟩, hspell2⟩ := spelled_ok hpr ((s.extract n s.size).extract 1 (s.extract n s.size).size) (by rw [ByteArray.size_extract]; omega)
                refine o_yes rfl s13 rfl (o_slc rfl rfl rfl (sl_str (n := 1) us9 rfl h1) ?_)
                refine o_yes rfl s13 rfl (o_call rfl (.cons rfl .nil) hspell2 ?_)
                refine o_yes rfl s13 rfl (o_mv rfl rfl ?_)
                refine o_yes rfl s13 rfl (o_len rfl rfl rfl (len_str us9) ?_)
                refine o_yes rfl s13 rfl (o_bin rfl rfl rfl sub_int ?_)
                refine o_yes rfl s13 rfl (o_bin rfl rfl rfl eql_int ?_)
                refine o_pick rfl rfl rfl ?_
                refine o_as rfl rfl ?_
                exact o_nil (hK _ _ rfl (sub_nil))
              ·
                refine o_no rfl rfl rfl s13 rfl ?_
                refine o_no rfl rfl rfl s13 rfl ?_
                refine o_no rfl rfl rfl s13 rfl ?_
                refine o_no rfl rfl rfl s13 rfl ?_
                refine o_no rfl rfl rfl s13 rfl ?_
                refine o_no rfl rfl rfl s13 rfl ?_
                refine o_no rfl rfl rfl s13 rfl ?_
                refine o_pick rfl rfl rfl ?_
                refine o_as rfl rfl ?_
                exact o_nil (hK _ _ rfl (sub_nil))
            ·
              refine o_no rfl rfl rfl s8 rfl ?_
              refine o_no rfl rfl rfl s8 rfl ?_
              refine o_no rfl rfl rfl s8 rfl ?_
              refine o_pick rfl rfl rfl ?_
              refine o_mv rfl rfl ?_
              refine o_no rfl rfl rfl s13 rfl ?_
              refine o_no rfl rfl rfl s13 rfl ?_
              refine o_no rfl rfl rfl s13 rfl ?_
              refine o_no rfl rfl rfl s13 rfl ?_
              refine o_no rfl rfl rfl s13 rfl ?_
              refine o_no rfl rfl rfl s13 rfl ?_
              refine o_no rfl rfl rfl s13 rfl ?_
              refine o_pick rfl rfl rfl ?_
              refine o_as rfl rfl ?_
              exact o_nil (hK _ _ rfl (sub_nil))
          ·
            refine o_no rfl rfl rfl s3 rfl ?_
            refine o_no rfl rfl rfl s3 rfl ?_
            refine o_no rfl rfl rfl s3 rfl ?_
            refine o_pick rfl rfl rfl ?_
            refine o_mv rfl rfl ?_
            refine o_no rfl rfl rfl s8 rfl ?_
            refine o_no rfl rfl rfl s8 rfl ?_
            refine o_no rfl rfl rfl s8 rfl ?_
            refine o_pick rfl rfl rfl ?_
            refine o_mv rfl rfl ?_
            refine o_no rfl rfl rfl s13 rfl ?_
            refine o_no rfl rfl rfl s13 rfl ?_
            refine o_no rfl rfl rfl s13 rfl ?_
            refine o_no rfl rfl rfl s13 rfl ?_
            refine o_no rfl rfl rfl s13 rfl ?_
            refine o_no rfl rfl rfl s13 rfl ?_
            refine o_no rfl rfl rfl s13 rfl ?_
            refine o_pick rfl rfl rfl ?_
            refine o_as rfl rfl ?_
            exact o_nil (hK _ _ rfl (sub_nil))
        refine WS_ret fun tm ht => ?_
        (try simp only [thenQ, blockQ]); exact endM_tmp ht rfl .nil ⟨_, ⟨_, rfl⟩, rfl⟩
end Go.Lg
end
section
set_option linter.unusedSimpArgs false
set_option maxRecDepth 20000
namespace Go.Lg
open Go.Proofs.Tryz
variable {pr : Prim}
def Names (pr : Prim) (nb : ByteArray → Bool) : Prop := ∀ s : ByteArray, s.size < 1073741824 → Ret look pr 64 [.str s] (.bool (nb s))
theorem names_ex (hpr : NoPr pr) : ∃ nb, Names pr nb := by
  refine ⟨fun s => if h : s.size < 1073741824 then Classical.choose (show ∃ b, Ret look pr 64 [.str s] (.bool b) from by
    obtain ⟨_, ⟨b, rfl⟩, hb⟩ := isName_ok hpr s h
    exact ⟨b, hb⟩) else false, fun s h => ?_⟩
  simp only [dif_pos h]
  exact Classical.choose_spec (show ∃ b, Ret look pr 64 [.str s] (.bool b) from by
    obtain ⟨_, ⟨b, rfl⟩, hb⟩ := isName_ok hpr s h
    exact ⟨b, hb⟩)
def kindBad (nb : ByteArray → Bool) (t : Term) : Bool := if (t.kind == 1) = true then (!(t.n == 0)) || (!(nb t.name)) else if ((t.kind == 2) || ((t.kind == 3) || (t.kind == 4))) = true then (decide (t.n < 0) || decide (t.n > 100000)) || (!(t.name.data.toList == [])) else if (t.kind == 5) = true then ((!(t.n == 0)) || (!(t.name.data.toList == []))) || (!(((t.args.length : Int)) == 1)) else true
def shapedT (nb : ByteArray → Bool) (t : Term) : Bool := t.fold fun t bs => (!(kindBad nb t)) && (bs.all id && decide ((t.args.length : Int) ≤ 8))
theorem shapedT_eq (nb : ByteArray → Bool) (t : Term) : shapedT nb t = ((!(kindBad nb t)) && (t.args.all (shapedT nb) && decide ((t.args.length : Int) ≤ 8))) := by
  unfold shapedT
  rw [Term.fold_eq, List.all_map]; rfl
theorem fn46 : look.fnOf 46 = some fl46 := by kernel_rfl
theorem shaped_ok (hpr : NoPr pr) {nb : ByteArray → Bool} (hnb : Names pr nb) : ∀ t : Term, t.Small → Ret look pr 46 [encT t] (.bool (shapedT nb t)) := by
  refine Term.ind fun t ih hsm => ?_
  have hS := (Term.small_iff t).1 hsm
  have bad : kindBad nb t = true → LOut.fin (.ret (.bool false)) = .ret (.bool (shapedT nb t)) := fun h => by rw [shapedT_eq, h]; rfl
  have badk : ∀ x ∈ t.args, (!(shapedT nb x)) = true → LOut.fin (.ret (.bool false)) = .ret (.bool (shapedT nb t)) := fun x hx h => by
    have : t.args.all (shapedT nb) = false := by rw [List.all_eq_false]; exact ⟨x, hx, by simpa using h⟩
    rw [shapedT_eq, this, Bool.false_and, Bool.and_false]; rfl
  have good : kindBad nb t = false → (∀ x ∈ t.args, shapedT nb x = true) → LOut.fin (.ret (.bool (decide ((t.args.length : Int) ≤ 8)))) = .ret (.bool (shapedT nb t)) := fun h h2 => by
    rw [shapedT_eq, h, List.all_eq_true.2 h2, Bool.true_and, Bool.not_false, Bool.true_and]; rfl
  refine Ret.of (fn := fl46) fn46 (hpr.at rfl) ⟨Nat.le_of_ble_eq_true rfl, Nat.le_of_ble_eq_true rfl⟩ (gargs_cons gT gargs_nil) good_bool (by simp) ?_
  show WS look pr false 66 [] (bodyOf f46) _ _ _
  simp only [bodyOf, f46]
  refine WS_reg fun K gs P hK hgs hP => ?_
  refine o_box rfl rfl zT fT rT ?_
  refine o_as rfl rfl ?_
  refine o_nil (hK _ _ ?_); (try clear hK hP hgs K gs P)
  refine WS_seq ?_
  refine WS_reg fun K gs P hK hgs hP => ?_
  refine o_fa rfl rfl fa25_0 ?_
  refine o_ld rfl rfl (ldb box_push (pl3.trans cT0)) ?_
  refine o_nil (hK _ _ ?_); (try clear hK hP hgs K gs P)
  refine WS_block ?_
  refine WS_reg fun K gs P hK hgs hP => ?_
  refine o_bin rfl rfl rfl eql_int ?_
  refine o_as rfl rfl ?_
  refine o_nil (hK _ _ ?_); (try clear hK hP hgs K gs P)
  refine WS_cond rfl (fun hb => ?_) (fun hb => ?_)
  ·
    refine WS_regB (l1 := [(1, _)]) (sub_cons rfl (sub_nil)) 17 ((!(t.n == 0)) || (!(nb t.name))) (fun K gs P hK hgs hP => ?_) ?_
    ·
      have s3 : gs 3 = some 12 := by rw [hgs]; rfl
      refine o_fa rfl rfl fa25_1 ?_
      refine o_ld rfl rfl (ldb box_push (pl3.trans cT1)) ?_
      refine o_bin rfl rfl rfl neq_int ?_
      refine o_mv rfl rfl ?_
      refine o_split 12 rfl (fun e12 => ?_) (fun e12 => ?_)
      ·
        refine o_no rfl rfl rfl s3 rfl ?_
        refine o_no rfl rfl rfl s3 rfl ?_
        refine o_no rfl rfl rfl s3 rfl ?_
        refine o_no rfl rfl rfl s3 rfl ?_
        refine o_pick rfl rfl rfl ?_
        exact o_nil (hK _ (by (show some (LV.bool _) = some (LV.bool _); refine congrArg (fun b => some (LV.bool b)) ?_; first | (simp_all; done) | (simp_all; intros; omega))) (sub_cons rfl (sub_nil)))
      ·
        refine o_yes rfl s3 rfl (o_fa rfl rfl fa25_2 ?_)
        refine o_yes rfl s3 rfl (o_ld rfl rfl (ldb box_push (pl9.trans cT2)) ?_)
        refine o_yes rfl s3 rfl (o_call rfl (.cons rfl .nil) (hnb _ hS.1.2) ?_)
        refine o_yes rfl s3 rfl (o_un rfl rfl rfl ?_)
        refine o_pick rfl rfl rfl ?_
        exact o_nil (hK _ (by (show some (LV.bool _) = some (LV.bool _); refine congrArg (fun b => some (LV.bool b)) ?_; first | (simp_all; done) | (simp_all; intros; omega))) (sub_cons rfl (sub_nil)))
    refine WS_cond rfl (fun hb => ?_) (fun hb => ?_)
    ·
      refine WS_reg fun K gs P hK hgs hP => ?_
      refine o_as rfl rfl ?_
      refine o_nil (hK _ _ ?_); (try clear hK hP hgs K gs P)
      refine WS_ret fun tm ht => ?_
      (try simp only [thenQ, blockQ]); refine endQ_tmp ht rfl (bad (by simp_all [kindBad]))
    ·
      refine WS_skip fun tm ht => ?_
      simp only [thenQ, blockQ, if_true]; refine WS_of ?_ ht; clear ht tm
      have hk : kindBad nb t = false := by simp_all [kindBad]
      refine WS_seq ?_
      refine WS_reg fun K gs P hK hgs hP => ?_
      refine o_fa rfl rfl fa25_3 ?_
      refine o_ld rfl rfl (ldb box_push (pl23.trans cT3)) ?_
      refine o_len rfl rfl rfl lT ?_
      refine o_mv rfl rfl ?_
      refine o_nil (hK _ _ ?_); (try clear hK hP hgs K gs P)
      refine WS_block ?_
      refine WS.weaken (l0 := [(54, _), (53, _), (1, _), (52, _)]) (sub_cons rfl (sub_cons rfl (sub_cons rfl (sub_cons rfl (sub_nil))))) ?_
      refine WS_range (n := t.args.length) (fun i l σ => l = [(54, .int .i64 i), (53, .int .i64 (t.args.length : Nat)), (1, .ptr 0 0), (52, slc (t.args.map encT))] ∧ boxOf σ 0 = some (25, (encT t).cells) ∧ ∀ x ∈ t.args.take i, shapedT nb x = true) (fun i l σ h => by obtain ⟨rfl, h⟩ := h; exact ⟨rfl, rfl⟩) rfl rfl rfl rfl (by have := hS.1.1; omega) ?_ ?_ t.args.length 0 _ _ (by omega) ⟨rfl, box_push, fun x hx => by simp at hx⟩
      · rintro i l σ hi ⟨rfl, hb1, h2⟩
        obtain ⟨x, hx, hmem, htake, _⟩ := take_one hi
        refine WS_block ?_
        refine WS_reg fun K gs P hK hgs hP => ?_
        refine o_ia rfl rfl rfl (iT hx) ?_
        refine o_ld rfl rfl (ldr wT) ?_
        refine o_al rfl zr25 rfl rfl ?_
        refine o_st rfl rfl stT ?_
        refine o_nil (hK _ _ ?_); (try clear hK hP hgs K gs P)
        refine WS_reg fun K gs P hK hgs hP => ?_
        refine o_ld rfl rfl (ldb box_put wT) ?_
        refine o_call rfl (.cons rfl .nil) (ih x hmem (hS.2 x hmem)) ?_
        refine o_un rfl rfl rfl ?_
        refine o_nil (hK _ _ ?_); (try clear hK hP hgs K gs P)
        refine WS_cond rfl (fun hb => ?_) (fun hb => ?_)
        ·
          refine WS_reg fun K gs P hK hgs hP => ?_
          refine o_as rfl rfl ?_
          refine o_nil (hK _ _ ?_); (try clear hK hP hgs K gs P)
          refine WS_ret fun tm ht => ?_
          (try simp only [thenQ, blockQ]); refine endQ_tmp ht rfl (badk x hmem hb)
        ·
          refine WS_skip fun tm ht => ?_
          (try simp only [thenQ, blockQ]); exact RoundTo.mk ht (l' := [(54, _), (53, _), (1, _), (52, _)]) (sub_cons rfl (sub_cons rfl (sub_cons rfl (sub_cons rfl (sub_nil))))) ⟨rfl, _, sub_cons rfl (sub_cons rfl (sub_cons rfl (sub_cons rfl (sub_nil)))), rfl, box_put_of hb1, fun y hy => by
            rw [htake] at hy
            rcases List.mem_append.1 hy with hy | hy
            · exact h2 y hy
            · simp only [List.mem_singleton] at hy; subst hy; simpa using hb⟩
      · rintro l σ ⟨rfl, hb1, h2⟩ tm ht
        rw [List.take_length] at h2
        simp only [thenQ, blockQ, if_true]; refine WS_of ?_ ht; clear ht tm
        refine WS_reg fun K gs P hK hgs hP => ?_
        refine o_fa rfl rfl fa25_3 ?_
        refine o_ld rfl rfl (ldb hb1 (pl23.trans cT3)) ?_
        refine o_len rfl rfl rfl lT ?_
        refine o_bin rfl rfl rfl leq_int ?_
        refine o_as rfl rfl ?_
        refine o_nil (hK _ _ ?_); (try clear hK hP hgs K gs P)
        refine WS_ret fun tm ht => ?_
        (try simp only [thenQ, blockQ]); refine endQ_tmp ht rfl (good hk h2)
  ·
    refine WS_seqB (l1 := [(1, _), (6, _)]) (sub_cons rfl (sub_cons rfl (sub_nil))) 18 ((t.kind == 2) || ((t.kind == 3) || (t.kind == 4))) ?_ ?_
    ·
      refine WS_reg fun K gs P hK hgs hP => ?_
      refine o_bin rfl rfl rfl eql_int ?_
      refine o_as rfl rfl ?_
      refine o_nil (hK _ _ ?_); (try clear hK hP hgs K gs P)
      refine WS_cond rfl (fun hbA => ?_) (fun hbA => ?_)
      ·
        refine WS_skip fun tm ht => ?_
        simp only [thenQ, blockQ, if_true]; exact ⟨trivial, ht.sub (sub_cons (by show some (LV.bool _) = some (LV.bool _); simp only [hbA, Bool.false_or, Bool.true_or]) (sub_cons rfl (sub_cons rfl (sub_nil)))), trivial⟩
      ·
        refine WS_reg fun K gs P hK hgs hP => ?_
        refine o_bin rfl rfl rfl eql_int ?_
        refine o_as rfl rfl ?_
        refine o_nil (hK _ _ ?_); (try clear hK hP hgs K gs P)
        refine WS_cond rfl (fun hbB => ?_) (fun hbB => ?_)
        ·
          refine WS_skip fun tm ht => ?_
          simp only [thenQ, blockQ, if_true]; exact ⟨trivial, ht.sub (sub_cons (by show some (LV.bool _) = some (LV.bool _); simp only [hbA, hbB, Bool.false_or, Bool.true_or]) (sub_cons rfl (sub_cons rfl (sub_nil)))), trivial⟩
        ·
          refine WS_reg1 fun K gs P hK hgs hP => ?_
          refine o_bin rfl rfl rfl eql_int ?_
          refine o_as rfl rfl ?_
          refine o_nil (hK _ _ fun tm ht => ?_); (try clear hK hP hgs K gs P)
          simp only [thenQ, blockQ, if_true]; exact ⟨trivial, ht.sub (sub_cons (by show some (LV.bool _) = some (LV.bool _); simp only [hbA, hbB, Bool.false_or, Bool.true_or]) (sub_cons rfl (sub_cons rfl (sub_nil)))), trivial⟩
    refine WS_cond rfl (fun hb => ?_) (fun hb => ?_)
    ·
      refine WS_regB (l1 := [(1, _)]) (sub_cons rfl (sub_nil)) 34 ((decide (t.n < 0) || decide (t.n > 100000)) || (!(t.name.data.toList == []))) (fun K gs P hK hgs hP => ?_) ?_
      ·
        have s3 : gs 3 = some 25 := by rw [hgs]; rfl
        have s8 : gs 8 = some 30 := by rw [hgs]; rfl
        refine o_fa rfl rfl fa25_1 ?_
        refine o_ld rfl rfl (ldb box_push (pl3.trans cT1)) ?_
        refine o_bin rfl rfl rfl lss_int ?_
        refine o_mv rfl rfl ?_
        refine o_split 25 rfl (fun e25 => ?_) (fun e25 => ?_)
        ·
          refine o_no rfl rfl rfl s3 rfl ?_
          refine o_no rfl rfl rfl s3 rfl ?_
          refine o_no rfl rfl rfl s3 rfl ?_
          refine o_pick rfl rfl rfl ?_
          refine o_mv rfl rfl ?_
          refine o_no rfl rfl rfl s8 rfl ?_
          refine o_no rfl rfl rfl s8 rfl ?_
          refine o_no rfl rfl rfl s8 rfl ?_
          refine o_pick rfl rfl rfl ?_
          exact o_nil (hK _ (by (show some (LV.bool _) = some (LV.bool _); refine congrArg (fun b => some (LV.bool b)) ?_; first | (simp_all; done) | (simp_all; intros; omega))) (sub_cons rfl (sub_nil)))
        ·
          refine o_yes rfl s3 rfl (o_fa rfl rfl fa25_1 ?_)
          refine o_yes rfl s3 rfl (o_ld rfl rfl (ldb box_push (pl3.trans cT1)) ?_)
          refine o_yes rfl s3 rfl (o_bin rfl rfl rfl gtr_int ?_)
          refine o_pick rfl rfl rfl ?_
          refine o_mv rfl rfl ?_
          refine o_split 30 rfl (fun e30 => ?_) (fun e30 => ?_)
          ·
            refine o_no rfl rfl rfl s8 rfl ?_
            refine o_no rfl rfl rfl s8 rfl ?_
            refine o_no rfl rfl rfl s8 rfl ?_
            refine o_pick rfl rfl rfl ?_
            exact o_nil (hK _ (by (show some (LV.bool _) = some (LV.bool _); refine congrArg (fun b => some (LV.bool b)) ?_; first | (simp_all; done) | (simp_all; intros; omega))) (sub_cons rfl (sub_nil)))
          ·
            refine o_yes rfl s8 rfl (o_fa rfl rfl fa25_2 ?_)
            refine o_yes rfl s8 rfl (o_ld rfl rfl (ldb box_push (pl9.trans cT2)) ?_)
            refine o_yes rfl s8 rfl (o_bin rfl rfl rfl rfl ?_)
            refine o_pick rfl rfl rfl ?_
            exact o_nil (hK _ (by (show some (LV.bool _) = some (LV.bool _); refine congrArg (fun b => some (LV.bool b)) ?_; first | (simp_all; done) | (simp_all; intros; omega))) (sub_cons rfl (sub_nil)))
      refine WS_cond rfl (fun hb => ?_) (fun hb => ?_)
      ·
        refine WS_reg fun K gs P hK hgs hP => ?_
        refine o_as rfl rfl ?_
        refine o_nil (hK _ _ ?_); (try clear hK hP hgs K gs P)
        refine WS_ret fun tm ht => ?_
        (try simp only [thenQ, blockQ]); refine endQ_tmp ht rfl (bad (by simp_all [kindBad]))
      ·
        refine WS_skip fun tm ht => ?_
        simp only [thenQ, blockQ, if_true]; refine WS_of ?_ ht; clear ht tm
        have hk : kindBad nb t = false := by simp_all [kindBad]
        refine WS_seq ?_
        refine WS_reg fun K gs P hK hgs hP => ?_
        refine o_fa rfl rfl fa25_3 ?_
        refine o_ld rfl rfl (ldb box_push (pl23.trans cT3)) ?_
        refine o_len rfl rfl rfl lT ?_
        refine o_mv rfl rfl ?_
        refine o_nil (hK _ _ ?_); (try clear hK hP hgs K gs P)
        refine WS_block ?_
        refine WS.weaken (l0 := [(54, _), (53, _), (1, _), (52, _)]) (sub_cons rfl (sub_cons rfl (sub_cons rfl (sub_cons rfl (sub_nil))))) ?_
        refine WS_range (n := t.args.length) (fun i l σ => l = [(54, .int .i64 i), (53, .int .i64 (t.args.length : Nat)), (1, .ptr 0 0), (52, slc (t.args.map encT))] ∧ boxOf σ 0 = some (25, (encT t).cells) ∧ ∀ x ∈ t.args.take i, shapedT nb x = true) (fun i l σ h => by obtain ⟨rfl, h⟩ := h; exact ⟨rfl, rfl⟩) rfl rfl rfl rfl (by have := hS.1.1; omega) ?_ ?_ t.args.length 0 _ _ (by omega) ⟨rfl, box_push, fun x hx => by simp at hx⟩
        · rintro i l σ hi ⟨rfl, hb1, h2⟩
          obtain ⟨x, hx, hmem, htake, _⟩ := take_one hi
          refine WS_block ?_
          refine WS_reg fun K gs P hK hgs hP => ?_
          refine o_ia rfl rfl rfl (iT hx) ?_
          refine o_ld rfl rfl (ldr wT) ?_
          refine o_al rfl zr25 rfl rfl ?_
          refine o_st rfl rfl stT ?_
          refine o_nil (hK _ _ ?_); (try clear hK hP hgs K gs P)
          refine WS_reg fun K gs P hK hgs hP => ?_
          refine o_ld rfl rfl (ldb box_put wT) ?_
          refine o_call rfl (.cons rfl .nil) (ih x hmem (hS.2 x hmem)) ?_
          refine o_un rfl rfl rfl ?_
          refine o_nil (hK _ _ ?_); (try clear hK hP hgs K gs P)
          refine WS_cond rfl (fun hb => ?_) (fun hb => ?_)
          ·
            refine WS_reg fun K gs P hK hgs hP => ?_
            refine o_as rfl rfl ?_
            refine o_nil (hK _ _ ?_); (try clear hK hP hgs K gs P)
            refine WS_ret fun tm ht => ?_
            (try simp only [thenQ, blockQ]); refine endQ_tmp ht rfl (badk x hmem hb)
          ·
            refine WS_skip fun tm ht => ?_
            (try simp only [thenQ, blockQ]); exact RoundTo.mk ht (l' := [(54, _), (53, _), (1, _), (52, _)]) (sub_cons rfl (sub_cons rfl (sub_cons rfl (sub_cons rfl (sub_nil))))) ⟨rfl, _, sub_cons rfl (sub_cons rfl (sub_cons rfl (sub_cons rfl (sub_nil)))), rfl, box_put_of hb1, fun y hy => by
            rw [htake] at hy
            rcases List.mem_append.1 hy with hy | hy
            · exact h2 y hy
            · simp only [List.mem_singleton] at hy; subst hy; simpa using hb⟩
        · rintro l σ ⟨rfl, hb1, h2⟩ tm ht
          rw [List.take_length] at h2
          simp only [thenQ, blockQ, if_true]; refine WS_of ?_ ht; clear ht tm
          refine WS_reg fun K gs P hK hgs hP => ?_
          refine o_fa rfl rfl fa25_3 ?_
          refine o_ld rfl rfl (ldb hb1 (pl23.trans cT3)) ?_
          refine o_len rfl rfl rfl lT ?_
          refine o_bin rfl rfl rfl leq_int ?_
          refine o_as rfl rfl ?_
          refine o_nil (hK _ _ ?_); (try clear hK hP hgs K gs P)
          refine WS_ret fun tm ht => ?_
          (try simp only [thenQ, blockQ]); refine endQ_tmp ht rfl (good hk h2)
    ·
      refine WS_reg fun K gs P hK hgs hP => ?_
      refine o_bin rfl rfl rfl eql_int ?_
      refine o_as rfl rfl ?_
      refine o_nil (hK _ _ ?_); (try clear hK hP hgs K gs P)
      refine WS_cond rfl (fun hb => ?_) (fun hb => ?_)
      ·
        refine WS_regB (l1 := [(1, _)]) (sub_cons rfl (sub_nil)) 50 (((!(t.n == 0)) || (!(t.name.data.toList == []))) || (!(((t.args.length : Int)) == 1))) (fun K gs P hK hgs hP => ?_) ?_
        ·
          have s3 : gs 3 = some 40 := by rw [hgs]; rfl
          have s8 : gs 8 = some 45 := by rw [hgs]; rfl
          refine o_fa rfl rfl fa25_1 ?_
          refine o_ld rfl rfl (ldb box_push (pl3.trans cT1)) ?_
          refine o_bin rfl rfl rfl neq_int ?_
          refine o_mv rfl rfl ?_
          refine o_split 40 rfl (fun e40 => ?_) (fun e40 => ?_)
          ·
            refine o_no rfl rfl rfl s3 rfl ?_
            refine o_no rfl rfl rfl s3 rfl ?_
            refine o_no rfl rfl rfl s3 rfl ?_
            refine o_pick rfl rfl rfl ?_
            refine o_mv rfl rfl ?_
            refine o_no rfl rfl rfl s8 rfl ?_
            refine o_no rfl rfl rfl s8 rfl ?_
            refine o_no rfl rfl rfl s8 rfl ?_
            refine o_no rfl rfl rfl s8 rfl ?_
            refine o_pick rfl rfl rfl ?_
            exact o_nil (hK _ (by (show some (LV.bool _) = some (LV.bool _); refine congrArg (fun b => some (LV.bool b)) ?_; first | (simp_all; done) | (simp_all; intros; omega))) (sub_cons rfl (sub_nil)))
          ·
            refine o_yes rfl s3 rfl (o_fa rfl rfl fa25_2 ?_)
            refine o_yes rfl s3 rfl (o_ld rfl rfl (ldb box_push (pl9.trans cT2)) ?_)
            refine o_yes rfl s3 rfl (o_bin rfl rfl rfl rfl ?_)
            refine o_pick rfl rfl rfl ?_
            refine o_mv rfl rfl ?_
            refine o_split 45 rfl (fun e45 => ?_) (fun e45 => ?_)
            ·
              refine o_no rfl rfl rfl s8 rfl ?_
              refine o_no rfl rfl rfl s8 rfl ?_
              refine o_no rfl rfl rfl s8 rfl ?_
              refine o_no rfl rfl rfl s8 rfl ?_
              refine o_pick rfl rfl rfl ?_
              exact o_nil (hK _ (by (show some (LV.bool _) = some (LV.bool _); refine congrArg (fun b => some (LV.bool b)) ?_; first | (simp_all; done) | (simp_all; intros; omega))) (sub_cons rfl (sub_nil)))
            ·
              refine o_yes rfl s8 rfl (o_fa rfl rfl fa25_3 ?_)
              refine o_yes rfl s8 rfl (o_ld rfl rfl (ldb box_push (pl23.trans cT3)) ?_)
              refine o_yes rfl s8 rfl (o_len rfl rfl rfl lT ?_)
              refine o_yes rfl s8 rfl (o_bin rfl rfl rfl neq_int ?_)
              refine o_pick rfl rfl rfl ?_
              exact o_nil (hK _ (by (show some (LV.bool _) = some (LV.bool _); refine congrArg (fun b => some (LV.bool b)) ?_; first | (simp_all; done) | (simp_all; intros; omega))) (sub_cons rfl (sub_nil)))
        refine WS_cond rfl (fun hb => ?_) (fun hb => ?_)
        ·
          refine WS_reg fun K gs P hK hgs hP => ?_
          refine o_as rfl rfl ?_
          refine o_nil (hK _ _ ?_); (try clear hK hP hgs K gs P)
          refine WS_ret fun tm ht => ?_
          (try simp only [thenQ, blockQ]); refine endQ_tmp ht rfl (bad (by simp_all [kindBad]))
        ·
          refine WS_skip fun tm ht => ?_
          simp only [thenQ, blockQ, if_true]; refine WS_of ?_ ht; clear ht tm
          have hk : kindBad nb t = false := by simp_all [kindBad]
          refine WS_seq ?_
          refine WS_reg fun K gs P hK hgs hP => ?_
          refine o_fa rfl rfl fa25_3 ?_
          refine o_ld rfl rfl (ldb box_push (pl23.trans cT3)) ?_
          refine o_len rfl rfl rfl lT ?_
          refine o_mv rfl rfl ?_
          refine o_nil (hK _ _ ?_); (try clear hK hP hgs K gs P)
          refine WS_block ?_
          refine WS.weaken (l0 := [(54, _), (53, _), (1, _), (52, _)]) (sub_cons rfl (sub_cons rfl (sub_cons rfl (sub_cons rfl (sub_nil))))) ?_
          refine WS_range (n := t.args.length) (fun i l σ => l = [(54, .int .i64 i), (53, .int .i64 (t.args.length : Nat)), (1, .ptr 0 0), (52, slc (t.args.map encT))] ∧ boxOf σ 0 = some (25, (encT t).cells) ∧ ∀ x ∈ t.args.take i, shapedT nb x = true) (fun i l σ h => by obtain ⟨rfl, h⟩ := h; exact ⟨rfl, rfl⟩) rfl rfl rfl rfl (by have := hS.1.1; omega) ?_ ?_ t.args.length 0 _ _ (by omega) ⟨rfl, box_push, fun x hx => by simp at hx⟩
          · rintro i l σ hi ⟨rfl, hb1, h2⟩
            obtain ⟨x, hx, hmem, htake, _⟩ := take_one hi
            refine WS_block ?_
            refine WS_reg fun K gs P hK hgs hP => ?_
            refine o_ia rfl rfl rfl (iT hx) ?_
            refine o_ld rfl rfl (ldr wT) ?_
            refine o_al rfl zr25 rfl rfl ?_
            refine o_st rfl rfl stT ?_
            refine o_nil (hK _ _ ?_); (try clear hK hP hgs K gs P)
            refine WS_reg fun K gs P hK hgs hP => ?_
            refine o_ld rfl rfl (ldb box_put wT) ?_
            refine o_call rfl (.cons rfl .nil) (ih x hmem (hS.2 x hmem)) ?_
            refine o_un rfl rfl rfl ?_
            refine o_nil (hK _ _ ?_); (try clear hK hP hgs K gs P)
            refine WS_cond rfl (fun hb => ?_) (fun hb => ?_)
            ·
              refine WS_reg fun K gs P hK hgs hP => ?_
              refine o_as rfl rfl ?_
              refine o_nil (hK _ _ ?_); (try clear hK hP hgs K gs P)
              refine WS_ret fun tm ht => ?_
              (try simp only [thenQ, blockQ]); refine endQ_tmp ht rfl (badk x hmem hb)
            ·
              refine WS_skip fun tm ht => ?_
              (try simp only [thenQ, blockQ]); exact RoundTo.mk ht (l' := [(54, _), (53, _), (1, _), (52, _)]) (sub_cons rfl (sub_cons rfl (sub_cons rfl (sub_cons rfl (sub_nil))))) ⟨rfl, _, sub_cons rfl (sub_cons rfl (sub_cons rfl (sub_cons rfl (sub_nil)))), rfl, box_put_of hb1, fun y hy => by
            rw [htake] at hy
            rcases List.mem_append.1 hy with hy | hy
            · exact h2 y hy
            · simp only [List.mem_singleton] at hy; subst hy; simpa using hb⟩
          · rintro l σ ⟨rfl, hb1, h2⟩ tm ht
            rw [List.take_length] at h2
            simp only [thenQ, blockQ, if_true]; refine WS_of ?_ ht; clear ht tm
            refine WS_reg fun K gs P hK hgs hP => ?_
            refine o_fa rfl rfl fa25_3 ?_
            refine o_ld rfl rfl (ldb hb1 (pl23.trans cT3)) ?_
            refine o_len rfl rfl rfl lT ?_
            refine o_bin rfl rfl rfl leq_int ?_
            refine o_as rfl rfl ?_
            refine o_nil (hK _ _ ?_); (try clear hK hP hgs K gs P)
            refine WS_ret fun tm ht => ?_
            (try simp only [thenQ, blockQ]); refine endQ_tmp ht rfl (good hk h2)
      ·
        refine WS_reg fun K gs P hK hgs hP => ?_
        refine o_as rfl rfl ?_
        refine o_nil (hK _ _ ?_); (try clear hK hP hgs K gs P)
        refine WS_ret fun tm ht => ?_
        (try simp only [thenQ, blockQ]); refine endQ_tmp ht rfl (bad (by simp_all [kindBad]))
theorem fn30 : look.fnOf 30 = some fl30 := by kernel_rfl
def rawT (nb : ByteArray → Bool) (t : Term) : Int := if nodesT t 0 4000 101 > 4000 then 2 else if deepT t 100 = true then 5 else if (!(shapedT nb t)) = true then 6 else 0
theorem rawTerm_ok (hpr : NoPr pr) {nb : ByteArray → Bool} (hnb : Names pr nb) (t : Term) (hsm : t.Small) : Ret look pr 30 [encT t] (.int .i64 (rawT nb t)) := by
  refine Ret.of (fn := fl30) fn30 (hpr.at rfl) ⟨Nat.le_of_ble_eq_true rfl, Nat.le_of_ble_eq_true rfl⟩ (gargs_cons gT gargs_nil) good_int (by simp) ?_
  show WS look pr false 14 [] (bodyOf f30) _ _ _
  simp only [bodyOf, f30]
  refine WS_reg fun K gs P hK hgs hP => ?_
  refine o_box rfl rfl zT fT rT ?_
  refine o_as rfl rfl ?_
  refine o_nil (hK _ _ ?_); (try clear hK hP hgs K gs P)
  refine WS_seq ?_
  refine WS_block ?_
  refine WS_reg fun K gs P hK hgs hP => ?_
  refine o_ld rfl rfl (ldb box_push wT) ?_
  refine o_call rfl (.cons rfl (.cons rfl (.cons rfl (.cons rfl .nil)))) (nodes_ok (hpr.at rfl) t hsm 0 4000 101 (by omega) (by omega) (by omega) (by omega) (by omega)) ?_
  refine o_bin rfl rfl rfl gtr_int ?_
  refine o_as rfl rfl ?_
  refine o_nil (hK _ _ ?_); (try clear hK hP hgs K gs P)
  refine WS_cond rfl (fun hb => ?_) (fun hb => ?_)
  ·
    refine WS_reg fun K gs P hK hgs hP => ?_
    refine o_as rfl rfl ?_
    refine o_nil (hK _ _ ?_); (try clear hK hP hgs K gs P)
    refine WS_ret fun tm ht => ?_
    (try simp only [thenQ, blockQ]); refine endQ_tmp ht rfl (by simp_all [rawT, LOut.fin, LV.canonR])
  ·
    refine WS_reg fun K gs P hK hgs hP => ?_
    refine o_ld rfl rfl (ldb box_push wT) ?_
    refine o_call rfl (.cons rfl (.cons rfl .nil)) (deeper_ok (hpr.at rfl) t hsm 100 (by omega) (by omega)) ?_
    refine o_as rfl rfl ?_
    refine o_nil (hK _ _ ?_); (try clear hK hP hgs K gs P)
    refine WS_cond rfl (fun hb => ?_) (fun hb => ?_)
    ·
      refine WS_reg fun K gs P hK hgs hP => ?_
      refine o_as rfl rfl ?_
      refine o_nil (hK _ _ ?_); (try clear hK hP hgs K gs P)
      refine WS_ret fun tm ht => ?_
      (try simp only [thenQ, blockQ]); refine endQ_tmp ht rfl (by simp_all [rawT, LOut.fin, LV.canonR])
    ·
      refine WS_reg fun K gs P hK hgs hP => ?_
      refine o_ld rfl rfl (ldb box_push wT) ?_
      refine o_call rfl (.cons rfl .nil) (shaped_ok hpr hnb t hsm) ?_
      refine o_un rfl rfl rfl ?_
      refine o_as rfl rfl ?_
      refine o_nil (hK _ _ ?_); (try clear hK hP hgs K gs P)
      refine WS_cond rfl (fun hb => ?_) (fun hb => ?_)
      ·
        refine WS_reg fun K gs P hK hgs hP => ?_
        refine o_as rfl rfl ?_
        refine o_nil (hK _ _ ?_); (try clear hK hP hgs K gs P)
        refine WS_ret fun tm ht => ?_
        (try simp only [thenQ, blockQ]); refine endQ_tmp ht rfl (by simp_all [rawT, LOut.fin, LV.canonR])
      ·
        refine WS_skip fun tm ht => ?_
        simp only [thenQ, blockQ, if_true]; refine WS_of ?_ ht; clear ht tm
        refine WS_reg fun K gs P hK hgs hP => ?_
        refine o_as rfl rfl ?_
        refine o_nil (hK _ _ ?_); (try clear hK hP hgs K gs P)
        refine WS_ret fun tm ht => ?_
        (try simp only [thenQ, blockQ]); refine endQ_tmp ht rfl (by simp_all [rawT, LOut.fin, LV.canonR])
end Go.Lg
end
section
set_option linter.unusedSimpArgs false
set_option maxRecDepth 20000
namespace Go.Lg
open Go.Proofs.Tryz
variable {pr : Prim}
theorem fn63 : look.fnOf 63 = some fl63 := by kernel_rfl
theorem IndexFunc_ok (hpr : NoPr pr) {f : FuncId} {g : Term → Bool} (xs : List Term) (hlen : xs.length < 1073741824) (hf : ∀ x ∈ xs, Ret look pr f [encT x] (.bool (g x))) : ∃ v, (∃ n : Int, v = LV.int .i64 n ∧ decide (n ≥ 0) = xs.any g) ∧ Ret look pr 63 [slcL (xs.map encT), .func (.func f) [] []] v := by
  refine Ret.ofE (fn := fl63) fn63 (hpr.at rfl) ⟨Nat.le_of_ble_eq_true rfl, Nat.le_of_ble_eq_true rfl⟩ (gargs_cons (gslc encT_good) (gargs_cons gfun gargs_nil)) (fun v hv => by obtain ⟨n, rfl, _⟩ := hv; exact ⟨good_int, by simp⟩) ?_
  show WS look pr false 19 [] (bodyOf f63) _ _ _
  simp only [bodyOf, f63]
  refine WS_reg fun K gs P hK hgs hP => ?_
  refine o_as rfl rfl ?_
  refine o_nil (hK _ _ ?_); (try clear hK hP hgs K gs P)
  refine WS_seq ?_
  refine WS_reg fun K gs P hK hgs hP => ?_
  refine o_mv rfl rfl ?_
  refine o_len rfl rfl rfl lT ?_
  refine o_mv rfl rfl ?_
  refine o_nil (hK _ _ ?_); (try clear hK hP hgs K gs P)
  refine WS_block ?_
  refine WS.weaken (l0 := [(8, _), (7, _), (0, _), (1, _)]) (sub_cons rfl (sub_cons rfl (sub_cons rfl (sub_cons rfl (sub_nil))))) ?_
  refine WS_range (n := xs.length) (fun i l σ => l = [(8, .int .i64 i), (7, .int .i64 (xs.length : Nat)), (0, slcL (xs.map encT)), (1, .func (.func f) [] [])] ∧ ∀ x ∈ xs.take i, g x = false) (fun i l σ h => by obtain ⟨rfl, h⟩ := h; exact ⟨rfl, rfl⟩) rfl rfl rfl rfl (by omega) ?_ ?_ xs.length 0 _ _ (by omega) ⟨rfl, fun x hx => by simp at hx⟩
  · rintro i l σ hi ⟨rfl, h2⟩
    obtain ⟨x, hx, hmem, htake, _⟩ := take_one hi
    refine WS_block ?_
    refine WS_reg fun K gs P hK hgs hP => ?_
    refine o_mv rfl rfl ?_
    refine o_as rfl rfl ?_
    refine o_nil (hK _ _ ?_); (try clear hK hP hgs K gs P)
    refine WS_reg fun K gs P hK hgs hP => ?_
    refine o_mv rfl rfl ?_
    refine o_mv rfl rfl ?_
    refine o_mv rfl rfl ?_
    refine o_ia rfl rfl rfl (iT hx) ?_
    refine o_ld rfl rfl (ldr wT) ?_
    refine o_callv rfl rfl (.cons rfl .nil) (hf x hmem _) rfl ?_
    refine o_nil (hK _ _ ?_); (try clear hK hP hgs K gs P)
    refine WS_cond rfl (fun hb => ?_) (fun hb => ?_)
    ·
      refine WS_reg fun K gs P hK hgs hP => ?_
      refine o_mv rfl rfl ?_
      refine o_as rfl rfl ?_
      refine o_nil (hK _ _ ?_); (try clear hK hP hgs K gs P)
      refine WS_ret fun tm ht => ?_
      (try simp only [thenQ, blockQ]); exact endM_tmp ht rfl .nil ⟨_, ⟨_, rfl, by rw [List.any_eq_true.2 ⟨x, hmem, hb⟩]; exact decide_eq_true (Int.natCast_nonneg i)⟩, rfl⟩
    ·
      refine WS_skip fun tm ht => ?_
      (try simp only [thenQ, blockQ]); exact RoundTo.mk ht (l' := [(8, _), (7, _), (0, _), (1, _)]) (sub_cons rfl (sub_cons rfl (sub_cons rfl (sub_cons rfl (sub_nil))))) ⟨rfl, _, sub_cons rfl (sub_cons rfl (sub_cons rfl (sub_cons rfl (sub_nil)))), rfl, fun y hy => by
          rw [htake] at hy
          rcases List.mem_append.1 hy with hy | hy
          · exact h2 y hy
          · simp only [List.mem_singleton] at hy; subst hy; exact hb⟩
  · rintro l σ ⟨rfl, h2⟩ tm ht
    rw [List.take_length] at h2
    simp only [thenQ, blockQ, if_true]; refine WS_of ?_ ht; clear ht tm
    refine WS_reg fun K gs P hK hgs hP => ?_
    refine o_as rfl rfl ?_
    refine o_nil (hK _ _ ?_); (try clear hK hP hgs K gs P)
    refine WS_ret fun tm ht => ?_
    (try simp only [thenQ, blockQ]); exact endM_tmp ht rfl .nil ⟨_, ⟨-1, rfl, by rw [show xs.any g = false from by rw [List.any_eq_false]; exact fun x hx => by simp [h2 x hx]]; rfl⟩, rfl⟩
theorem fn44 : look.fnOf 44 = some fl44 := by kernel_rfl
theorem ContainsFunc_ok (hpr : NoPr pr) {f : FuncId} {g : Term → Bool} (xs : List Term) (hlen : xs.length < 1073741824) (hf : ∀ x ∈ xs, Ret look pr f [encT x] (.bool (g x))) : Ret look pr 44 [slcL (xs.map encT), .func (.func f) [] []] (.bool (xs.any g)) := by
  obtain ⟨_, ⟨n, rfl, hn⟩, hix⟩ := IndexFunc_ok hpr xs hlen hf
  refine Ret.of (fn := fl44) fn44 (hpr.at rfl) ⟨Nat.le_of_ble_eq_true rfl, Nat.le_of_ble_eq_true rfl⟩ (gargs_cons (gslc encT_good) (gargs_cons gfun gargs_nil)) good_bool (by simp) ?_
  show WS look pr false 9 [] (bodyOf f44) _ _ _
  simp only [bodyOf, f44]
  refine WS_reg fun K gs P hK hgs hP => ?_
  refine o_as rfl rfl ?_
  refine o_nil (hK _ _ ?_); (try clear hK hP hgs K gs P)
  refine WS_reg fun K gs P hK hgs hP => ?_
  refine o_mv rfl rfl ?_
  refine o_mv rfl rfl ?_
  refine o_call rfl (.cons rfl (.cons rfl .nil)) hix ?_
  refine o_bin rfl rfl rfl geq_int ?_
  refine o_as rfl rfl ?_
  refine o_nil (hK _ _ ?_); (try clear hK hP hgs K gs P)
  refine WS_ret fun tm ht => ?_
  (try simp only [thenQ, blockQ]); refine endQ_tmp ht rfl (by rw [← hn]; rfl)
theorem fn29 : look.fnOf 29 = some fl29 := by kernel_rfl
def hasVarT (t : Term) : Bool := t.fold fun t bs => (t.kind == 4) || bs.any id
theorem hasVarT_eq (t : Term) : hasVarT t = ((t.kind == 4) || t.args.any hasVarT) := by
  unfold hasVarT
  rw [Term.fold_eq, List.any_map]; rfl
theorem hasVar_ok (hpr : NoPr pr) : ∀ t : Term, t.Small → Ret look pr 29 [encT t] (.bool (hasVarT t)) := by
  refine Term.ind fun t ih hsm => ?_
  have hS := (Term.small_iff t).1 hsm
  refine Ret.of (fn := fl29) fn29 (hpr.at rfl) ⟨Nat.le_of_ble_eq_true rfl, Nat.le_of_ble_eq_true rfl⟩ (gargs_cons gT gargs_nil) good_bool (by simp) ?_
  show WS look pr false 11 [] (bodyOf f29) _ _ _
  simp only [bodyOf, f29]
  refine WS_reg fun K gs P hK hgs hP => ?_
  refine o_box rfl rfl zT fT rT ?_
  refine o_as rfl rfl ?_
  refine o_nil (hK _ _ ?_); (try clear hK hP hgs K gs P)
  refine WS_regB (l1 := []) (sub_nil) 2 ((t.kind == 4) || t.args.any hasVarT) (fun K gs P hK hgs hP => ?_) ?_
  ·
    have s3 : gs 3 = some 6 := by rw [hgs]; rfl
    refine o_fa rfl rfl fa25_0 ?_
    refine o_ld rfl rfl (ldb box_push (pl3.trans cT0)) ?_
    refine o_bin rfl rfl rfl eql_int ?_
    refine o_mv rfl rfl ?_
    refine o_split 6 rfl (fun e6 => ?_) (fun e6 => ?_)
    ·
      refine o_no rfl rfl rfl s3 rfl ?_
      refine o_no rfl rfl rfl s3 rfl ?_
      refine o_no rfl rfl rfl s3 rfl ?_
      refine o_pick rfl rfl rfl ?_
      refine o_as rfl rfl ?_
      exact o_nil (hK _ (by (show some (LV.bool _) = some (LV.bool _); refine congrArg (fun b => some (LV.bool b)) ?_; first | (simp_all; done) | (simp_all; intros; omega))) (sub_nil))
    ·
      refine o_yes rfl s3 rfl (o_fa rfl rfl fa25_3 ?_)
      refine o_yes rfl s3 rfl (o_ld rfl rfl (ldb box_push (pl23.trans cT3)) ?_)
      refine o_yes rfl s3 rfl (o_call rfl (.cons rfl (.cons rfl .nil)) (ContainsFunc_ok hpr t.args hS.1.1 fun x hx => ih x hx (hS.2 x hx)) ?_)
      refine o_pick rfl rfl rfl ?_
      refine o_as rfl rfl ?_
      exact o_nil (hK _ (by (show some (LV.bool _) = some (LV.bool _); refine congrArg (fun b => some (LV.bool b)) ?_; first | (simp_all; done) | (simp_all; intros; omega))) (sub_nil))
  refine WS_ret fun tm ht => ?_
  (try simp only [thenQ, blockQ]); refine endQ_tmp ht rfl (by rw [hasVarT_eq]; rfl)
end Go.Lg
end
section
set_option linter.unusedSimpArgs false
set_option maxRecDepth 20000
namespace Go.Lg
open Go.Proofs.Tryz
variable {pr : Prim}
theorem fn48 : look.fnOf 48 = some fl48 := by kernel_rfl
def rehK (t : Term) (from_ to : Int) : Int := if (t.kind == from_) = true then to else t.kind
def rehN (t : Term) (from_ by_ : Int) : Int := if (t.kind == from_) = true then IntKind.i64.wrap (t.n + by_) else t.n
def rehT (from_ to by_ : Int) (t : Term) : Term := t.fold fun t bs => .mk (rehK t from_ to) (rehN t from_ by_) t.name bs
theorem rehT_eq (from_ to by_ : Int) (t : Term) : rehT from_ to by_ t = .mk (rehK t from_ to) (rehN t from_ by_) t.name (t.args.map (rehT from_ to by_)) := by
  unfold rehT
  rw [Term.fold_eq]
theorem reheaded_ok (hpr : NoPr pr) (from_ to by_ : Int) : ∀ t : Term, t.Small → Ret look pr 48 [encT t, .int .i64 from_, .int .i64 to, .int .i64 by_] (encT (rehT from_ to by_ t)) := by
  refine Term.ind fun t ih hsm => ?_
  have hS := (Term.small_iff t).1 hsm
  refine Ret.of (fn := fl48) fn48 (hpr.at rfl) ⟨Nat.le_of_ble_eq_true rfl, Nat.le_of_ble_eq_true rfl⟩ (gargs_cons gT (gargs_cons gint (gargs_cons gint (gargs_cons gint gargs_nil)))) gT.1 (by rw [encT_eq]; simp) ?_
  show WS look pr false 49 [] (bodyOf f48) _ _ _
  simp only [bodyOf, f48]
  refine WS_reg fun K gs P hK hgs hP => ?_
  refine o_box rfl rfl zT fT rT ?_
  refine o_al rfl zr25 rfl rfl ?_
  refine o_nil (hK _ _ ?_); (try clear hK hP hgs K gs P)
  refine WS_reg fun K gs P hK hgs hP => ?_
  refine o_fa rfl rfl fa25_0 ?_
  refine o_ld rfl rfl (ldb (box_push_of (box_push)) (pl3.trans cT0)) ?_
  refine o_fa rfl rfl fa25_1 ?_
  refine o_ld rfl rfl (ldb (box_push_of (box_push)) (pl3.trans cT1)) ?_
  refine o_fa rfl rfl fa25_2 ?_
  refine o_ld rfl rfl (ldb (box_push_of (box_push)) (pl9.trans cT2)) ?_
  refine o_bld rfl (.cons rfl (.cons rfl (.cons rfl .nil))) rfl ?_
  refine o_al rfl zr25 rfl rfl ?_
  refine o_st rfl rfl (stn sz25 rfl rfl rfl) ?_
  refine o_nil (hK _ _ ?_); (try clear hK hP hgs K gs P)
  refine WS_seqI (l1 := [(1, _), (2, _), (3, _), (4, _), (8, _), (9, _)]) (sub_cons rfl (sub_cons rfl (sub_cons rfl (sub_cons rfl (sub_cons rfl (sub_cons rfl sub_nil)))))) (fun σ => boxOf σ 0 = some (25, (encT t).cells) ∧ (∃ cs1, boxOf σ 1 = some (25, cs1) ∧ cs1.length = 4) ∧ boxOf σ 2 = some (25, [.int .i64 (rehK t from_ to), .int .i64 (rehN t from_ by_), .str t.name, .slice [] .exact (some true)])) ?_ ?_
  case refine_2 =>
    refine WS_reg fun K gs P hK hgs hP => ?_
    refine o_fa rfl rfl fa25_0 ?_
    refine o_ld rfl rfl (ldb (box_put_of (box_push_of (box_push))) (pl3.trans cT0)) ?_
    refine o_mv rfl rfl ?_
    refine o_bin rfl rfl rfl eql_int ?_
    refine o_nil (hK _ _ ?_); (try clear hK hP hgs K gs P)
    refine WS_cond rfl (fun hb => ?_) (fun hb => ?_)
    ·
      refine WS_draw1 rfl fun K gs P hK hgs => ?_
      refine d_p rfl rfl rfl (fun _ => rfl) (o_mv rfl rfl (o_nil ?_))
      refine d_p rfl rfl rfl (fun _ => rfl) (o_fa rfl rfl fa25_1 (o_nil ?_))
      refine d_ld rfl (o_ld rfl rfl (ldb (box_put_of (box_push_of (box_push))) (pl3.trans cT1)) (o_nil ?_))
      refine d_p rfl rfl rfl (fun _ => rfl) (o_mv rfl rfl (o_nil ?_))
      refine d_p rfl rfl rfl (fun _ => rfl) (o_bin rfl rfl rfl add_int (o_nil ?_))
      refine d_p rfl rfl rfl (fun _ => rfl) (o_fa rfl rfl fa25_0 (o_nil ?_))
      refine d_st rfl (o_st rfl rfl (store_box box_put sz3 rfl (Nat.le_of_ble_eq_true rfl) rfl rfl) (o_nil ?_))
      refine d_p rfl rfl rfl (fun _ => rfl) (o_fa rfl rfl fa25_1 (o_nil ?_))
      refine d_st rfl (o_st rfl rfl (store_box (box_upd' (box_put)) sz3 rfl (Nat.le_of_ble_eq_true rfl) rfl rfl) (o_nil ?_))
      refine d_nil (hK _ _ _ (by kernel_rfl) fun tm ht => ?_); (try clear hK hgs K gs P)
      simp only [thenQ, blockQ]
      exact ⟨trivial, ht.sub (sub_cons rfl (sub_cons rfl (sub_cons rfl (sub_cons rfl (sub_cons rfl (sub_cons rfl sub_nil)))))), box_upd_of (box_upd_of (box_put_of (box_push_of box_push)) (nd rfl)) (nd rfl), ⟨_, box_upd_of (box_upd_of (box_put_of box_push) (nd rfl)) (nd rfl), rfl⟩, by rw [rehK, rehN, if_pos hb, if_pos hb]; exact box_upd' (box_upd' box_put)⟩
    · refine WS_skip fun tm ht => ?_
      simp only [thenQ, blockQ]
      exact ⟨trivial, ht.sub (sub_cons rfl (sub_cons rfl (sub_cons rfl (sub_cons rfl (sub_cons rfl (sub_cons rfl sub_nil)))))), box_put_of (box_push_of box_push), ⟨_, box_put_of box_push, rfl⟩, by rw [rehK, rehN, if_neg (by rw [hb]; simp), if_neg (by rw [hb]; simp)]; exact box_put⟩
  case refine_1 =>
    rintro σ ⟨hb0, ⟨cs1, hb1, hl1⟩, hb2⟩
    refine WS_seq ?_
    refine WS_reg fun K gs P hK hgs hP => ?_
    refine o_fa rfl rfl fa25_3 ?_
    refine o_ld rfl rfl (ldb hb0 (pl23.trans cT3)) ?_
    refine o_len rfl rfl rfl lT ?_
    refine o_mv rfl rfl ?_
    refine o_nil (hK _ _ ?_); (try clear hK hP hgs K gs P)
    refine WS_block ?_
    refine WS.weaken (l0 := [(33, _), (32, _), (1, _), (2, _), (3, _), (8, _), (9, _), (31, _)]) (sub_cons rfl (sub_cons rfl (sub_cons rfl (sub_cons rfl (sub_cons rfl (sub_cons rfl (sub_cons rfl (sub_cons rfl (sub_nil))))))))) ?_
    refine WS_range (n := t.args.length) (fun i l σ => l = [(33, .int .i64 i), (32, .int .i64 (t.args.length : Nat)), (1, .int .i64 from_), (2, .int .i64 to), (3, .int .i64 by_), (8, .ptr 1 0), (9, .ptr 2 0), (31, slc (t.args.map encT))] ∧ ∃ own nz cs1, boxOf σ 1 = some (25, cs1) ∧ cs1.length = 4 ∧ boxOf σ 2 = some (25, [.int .i64 (rehK t from_ to), .int .i64 (rehN t from_ by_), .str t.name, .slice (((t.args.take i).map (rehT from_ to by_)).map encT) own nz]) ∧ App σ own) (fun i l σ h => by obtain ⟨rfl, h⟩ := h; exact ⟨rfl, rfl⟩) rfl rfl rfl rfl (by have := hS.1.1; omega) ?_ ?_ t.args.length 0 _ _ (by omega) ⟨rfl, _, _, _, hb1, hl1, hb2, app_exact⟩
    · rintro i l σ hi ⟨rfl, own, nz, cs1, hb1, hl1, hb2, ha⟩
      obtain ⟨x, hx, hmem, htake, _⟩ := take_one hi
      have hl := hS.1.1
      have he : (t.args.take (i + 1)).map (rehT from_ to by_) = (t.args.take i).map (rehT from_ to by_) ++ [rehT from_ to by_ x] := by rw [htake, List.map_append]; rfl
      refine WS_block ?_
      refine WS_reg fun K gs P hK hgs hP => ?_
      refine o_ia rfl rfl rfl (iT hx) ?_
      refine o_ld rfl rfl (ldr wT) ?_
      refine o_al rfl zr25 rfl rfl ?_
      refine o_st rfl rfl stT ?_
      refine o_nil (hK _ _ ?_); (try clear hK hP hgs K gs P)
      refine WS_draw1 rfl fun K gs P hK hgs => ?_
      refine d_p rfl rfl rfl (fun _ => rfl) (o_fa rfl rfl fa25_3 (o_nil ?_))
      refine d_ld rfl (o_ld rfl rfl (ldb (box_put_of hb2) (pl23.trans rfl)) (o_nil ?_))
      refine d_ld rfl (o_ld rfl rfl (ldb box_put wT) (o_nil ?_))
      refine d_p rfl rfl rfl (fun _ => rfl) (o_mv rfl rfl (o_nil ?_))
      refine d_p rfl rfl rfl (fun _ => rfl) (o_mv rfl rfl (o_nil ?_))
      refine d_p rfl rfl rfl (fun _ => rfl) (o_mv rfl rfl (o_nil ?_))
      refine d_call rfl (.cons rfl (.cons rfl (.cons rfl (.cons rfl .nil)))) (ih x hmem (hS.2 x hmem)) ?_
      refine d_p rfl rfl rfl (fun _ => rfl) (o_bsl rfl (.cons rfl .nil) bsT (o_nil ?_))
      refine d_m rfl rfl rfl (fun _ => rfl) (o_app rfl (.cons rfl (.cons rfl .nil)) rfl (apT (by rw [List.length_map, List.length_take]; omega) (app_put.2 ha)) (o_nil ?_))
      refine d_p rfl rfl rfl (fun _ => rfl) (o_fa rfl rfl fa25_3 (o_nil ?_))
      refine d_st rfl (o_st rfl rfl (store_box (box_own_of (box_put_of hb2)) sz23 rfl (Nat.le_of_ble_eq_true rfl) rfl (refS encT_good)) (o_nil ?_))
      refine d_nil (hK _ _ _ (by kernel_rfl) fun tm ht => ?_); (try clear hK hgs K gs P)
      (try simp only [thenQ, blockQ]); exact RoundTo.mk ht (l' := [(33, _), (32, _), (1, _), (2, _), (3, _), (8, _), (9, _), (31, _)]) (sub_cons rfl (sub_cons rfl (sub_cons rfl (sub_cons rfl (sub_cons rfl (sub_cons rfl (sub_cons rfl (sub_cons rfl (sub_nil))))))))) ⟨rfl, _, sub_cons rfl (sub_cons rfl (sub_cons rfl (sub_cons rfl (sub_cons rfl (sub_cons rfl (sub_cons rfl (sub_cons rfl (sub_nil)))))))), rfl, _, _, _, box_upd_of (box_own_of (box_put_of hb1)) (nd rfl), hl1, (by rw [he]; exact box_upd' (box_own_of (box_put_of hb2))), app_upd.2 app_own⟩
    · rintro l σ ⟨rfl, own, nz, cs1, hb1, hl1, hb2, ha⟩ tm ht
      rw [List.take_length] at hb2
      simp only [thenQ, blockQ, if_true]; refine WS_of ?_ ht; clear ht tm
      refine WS_reg fun K gs P hK hgs hP => ?_
      refine o_ld rfl rfl (ldb hb2 (pl25.trans rfl)) ?_
      refine o_st rfl rfl (store_box hb1 sz25 rfl (by rw [hl1]; exact Nat.le_of_ble_eq_true rfl) rfl (refA (refs_cons rfl (refs_cons rfl (refs_cons rfl (refs_cons (refS encT_good) rfl)))))) ?_
      refine o_nil (hK _ _ ?_); (try clear hK hP hgs K gs P)
      refine WS_ret fun tm ht => ?_
      refine endQ_cell ht rfl (ldb (box_upd' hb1) (pl25.trans rfl)) ?_
      rw [rehT_eq, encT_eq]; rfl
def slcX (o : Bool) (z : Option Bool) (xs : List LV) : LV := .slice xs (bif o then .exact else .none) z
theorem gslcX {α : Type} {f : α → LV} {l : List α} {o : Bool} {z : Option Bool} (h : ∀ x, (f x).Good) : (slcX o z (l.map f)).Good ∧ (slcX o z (l.map f)).argC = slcX o z (l.map f) := by
  have hg : ∀ y ∈ l.map f, y.Good := fun y hy => by obtain ⟨z, hz, rfl⟩ := List.mem_map.1 hy; exact h z
  have g : (LV.slice (l.map f) .none z).Good := good_slice hg
  refine ⟨⟨fun n => g.ref n, fun n => ?_⟩, by cases o <;> rfl⟩
  have := g.tok n
  simp only [LV.tokOK, Bool.and_eq_true] at this
  cases o <;> simp only [slcX, cond_true, cond_false, LV.tokOK, Own.ok, Bool.true_and] <;> exact this.2
variable {o : Bool} {z : Option Bool}
theorem fn26 : look.fnOf 26 = some fl26 := by kernel_rfl
def replL (nb : ByteArray → Bool) : List Term → Int
  | [] => 0
  | t :: l => if (!(rawT nb t == 0)) = true then rawT nb t else replL nb l
def replacingT (nb : ByteArray → Bool) (l : List Term) (by_ : Int) : Int := if ((decide (by_ < 0) || decide (by_ > 60)) || decide ((l.length : Int) > 60)) = true then 1 else replL nb l
theorem replacing_ok (hpr : NoPr pr) {nb : ByteArray → Bool} (hnb : Names pr nb) (l : List Term) (hl : l.length < 1073741824) (hsm : ∀ t ∈ l, t.Small) (by_ : Int) : Ret look pr 26 [slcX o z (l.map encT), .int .i64 by_] (.int .i64 (replacingT nb l by_)) := by
  refine Ret.of (fn := fl26) fn26 (hpr.at rfl) ⟨Nat.le_of_ble_eq_true rfl, Nat.le_of_ble_eq_true rfl⟩ (gargs_cons (gslcX encT_good) (gargs_cons gint gargs_nil)) good_int (by simp) ?_
  show WS look pr false 31 [] (bodyOf f26) _ _ _
  simp only [bodyOf, f26]
  refine WS_reg fun K gs P hK hgs hP => ?_
  refine o_as rfl rfl ?_
  refine o_nil (hK _ _ ?_); (try clear hK hP hgs K gs P)
  refine WS_seq ?_
  refine WS_regB (l1 := [(0, _)]) (sub_cons rfl (sub_nil)) 18 ((decide (by_ < 0) || decide (by_ > 60)) || decide ((l.length : Int) > 60)) (fun K gs P hK hgs hP => ?_) ?_
  ·
    have s2 : gs 2 = some 10 := by rw [hgs]; rfl
    have s6 : gs 6 = some 14 := by rw [hgs]; rfl
    refine o_mv rfl rfl ?_
    refine o_bin rfl rfl rfl lss_int ?_
    refine o_mv rfl rfl ?_
    refine o_split 10 rfl (fun e10 => ?_) (fun e10 => ?_)
    ·
      refine o_no rfl rfl rfl s2 rfl ?_
      refine o_no rfl rfl rfl s2 rfl ?_
      refine o_pick rfl rfl rfl ?_
      refine o_mv rfl rfl ?_
      refine o_no rfl rfl rfl s6 rfl ?_
      refine o_no rfl rfl rfl s6 rfl ?_
      refine o_no rfl rfl rfl s6 rfl ?_
      refine o_pick rfl rfl rfl ?_
      exact o_nil (hK _ (by (show some (LV.bool _) = some (LV.bool _); refine congrArg (fun b => some (LV.bool b)) ?_; first | (simp_all; done) | (simp_all; intros; omega))) (sub_cons rfl (sub_nil)))
    ·
      refine o_yes rfl s2 rfl (o_mv rfl rfl ?_)
      refine o_yes rfl s2 rfl (o_bin rfl rfl rfl gtr_int ?_)
      refine o_pick rfl rfl rfl ?_
      refine o_mv rfl rfl ?_
      refine o_split 14 rfl (fun e14 => ?_) (fun e14 => ?_)
      ·
        refine o_no rfl rfl rfl s6 rfl ?_
        refine o_no rfl rfl rfl s6 rfl ?_
        refine o_no rfl rfl rfl s6 rfl ?_
        refine o_pick rfl rfl rfl ?_
        exact o_nil (hK _ (by (show some (LV.bool _) = some (LV.bool _); refine congrArg (fun b => some (LV.bool b)) ?_; first | (simp_all; done) | (simp_all; intros; omega))) (sub_cons rfl (sub_nil)))
      ·
        refine o_yes rfl s6 rfl (o_mv rfl rfl ?_)
        refine o_yes rfl s6 rfl (o_len rfl rfl rfl lT ?_)
        refine o_yes rfl s6 rfl (o_bin rfl rfl rfl gtr_int ?_)
        refine o_pick rfl rfl rfl ?_
        exact o_nil (hK _ (by (show some (LV.bool _) = some (LV.bool _); refine congrArg (fun b => some (LV.bool b)) ?_; first | (simp_all; done) | (simp_all; intros; omega))) (sub_cons rfl (sub_nil)))
  refine WS_cond rfl (fun hb => ?_) (fun hb => ?_)
  ·
    refine WS_reg fun K gs P hK hgs hP => ?_
    refine o_as rfl rfl ?_
    refine o_nil (hK _ _ ?_); (try clear hK hP hgs K gs P)
    refine WS_ret fun tm ht => ?_
    (try simp only [thenQ, blockQ]); refine endQ_tmp ht rfl (by rw [replacingT, if_pos hb]; rfl)
  ·
    have hb0 := hb
    refine WS_skip fun tm ht => ?_
    simp only [thenQ, blockQ, if_true]; refine WS_of ?_ ht; clear ht tm
    refine WS_seq ?_
    refine WS_reg fun K gs P hK hgs hP => ?_
    refine o_mv rfl rfl ?_
    refine o_len rfl rfl rfl lT ?_
    refine o_mv rfl rfl ?_
    refine o_nil (hK _ _ ?_); (try clear hK hP hgs K gs P)
    refine WS_block ?_
    refine WS.weaken (l0 := [(21, _), (20, _), (19, _)]) (sub_cons rfl (sub_cons rfl (sub_cons rfl (sub_nil)))) ?_
    refine WS_range (n := l.length) (fun i ll σ => ll = [(21, .int .i64 i), (20, .int .i64 (l.length : Nat)), (19, slcX o z (l.map encT))] ∧ replL nb (l.drop i) = replL nb l) (fun i l σ h => by obtain ⟨rfl, h⟩ := h; exact ⟨rfl, rfl⟩) rfl rfl rfl rfl (by omega) ?_ ?_ l.length 0 _ _ (by omega) ⟨rfl, rfl⟩
    · rintro i ll σ hi ⟨rfl, h2⟩
      obtain ⟨x, hx, hmem, htake, hdrop⟩ := take_one hi
      refine WS_block ?_
      refine WS_reg fun K gs P hK hgs hP => ?_
      refine o_ia rfl rfl rfl (iT hx) ?_
      refine o_ld rfl rfl (ldr wT) ?_
      refine o_al rfl zr25 rfl rfl ?_
      refine o_st rfl rfl stT ?_
      refine o_nil (hK _ _ ?_); (try clear hK hP hgs K gs P)
      refine WS_reg fun K gs P hK hgs hP => ?_
      refine o_ld rfl rfl (ldb box_put wT) ?_
      refine o_call rfl (.cons rfl .nil) (rawTerm_ok hpr hnb x (hsm x hmem)) ?_
      refine o_as rfl rfl ?_
      refine o_nil (hK _ _ ?_); (try clear hK hP hgs K gs P)
      refine WS_reg fun K gs P hK hgs hP => ?_
      refine o_mv rfl rfl ?_
      refine o_bin rfl rfl rfl neq_int ?_
      refine o_nil (hK _ _ ?_); (try clear hK hP hgs K gs P)
      refine WS_cond rfl (fun hb => ?_) (fun hb => ?_)
      ·
        refine WS_reg fun K gs P hK hgs hP => ?_
        refine o_mv rfl rfl ?_
        refine o_as rfl rfl ?_
        refine o_nil (hK _ _ ?_); (try clear hK hP hgs K gs P)
        refine WS_ret fun tm ht => ?_
        (try simp only [thenQ, blockQ]); refine endQ_tmp ht rfl (by rw [replacingT, if_neg (by rw [hb0]; simp), ← h2, hdrop, replL, if_pos hb]; rfl)
      ·
        refine WS_skip fun tm ht => ?_
        (try simp only [thenQ, blockQ]); exact RoundTo.mk ht (l' := [(21, _), (20, _), (19, _)]) (sub_cons rfl (sub_cons rfl (sub_cons rfl (sub_nil)))) ⟨rfl, _, sub_cons rfl (sub_cons rfl (sub_cons rfl (sub_nil))), rfl, by rw [← h2, hdrop, replL, if_neg (by rw [hb]; simp)]⟩
    · rintro ll σ ⟨rfl, h2⟩ tm ht
      rw [List.drop_length] at h2
      simp only [thenQ, blockQ, if_true]; refine WS_of ?_ ht; clear ht tm
      refine WS_reg fun K gs P hK hgs hP => ?_
      refine o_as rfl rfl ?_
      refine o_nil (hK _ _ ?_); (try clear hK hP hgs K gs P)
      refine WS_ret fun tm ht => ?_
      (try simp only [thenQ, blockQ]); refine endQ_tmp ht rfl (by rw [replacingT, if_neg (by rw [hb0]; simp), ← h2]; rfl)
end Go.Lg
end
section
set_option linter.unusedSimpArgs false
set_option maxRecDepth 20000
namespace Go.Lg
open Go.Proofs.Tryz
variable {pr : Prim}
theorem fn85 : look.fnOf 85 = some fl85 := by kernel_rfl
def greatestT (t : Term) : Int := t.fold fun t bs => bs.foldl max t.n
theorem greatestT_eq (t : Term) : greatestT t = (t.args.map greatestT).foldl max t.n := by
  unfold greatestT
  rw [Term.fold_eq]
theorem greatest_ok (hpr : NoPr pr) : ∀ t : Term, t.Small → Ret look pr 85 [encT t] (.int .i64 (greatestT t)) := by
  refine Term.ind fun t ih hsm => ?_
  have hS := (Term.small_iff t).1 hsm
  refine Ret.of (fn := fl85) fn85 (hpr.at rfl) ⟨Nat.le_of_ble_eq_true rfl, Nat.le_of_ble_eq_true rfl⟩ (gargs_cons gT gargs_nil) good_int (by simp) ?_
  show WS look pr false 21 [] (bodyOf f85) _ _ _
  simp only [bodyOf, f85]
  refine WS_reg fun K gs P hK hgs hP => ?_
  refine o_box rfl rfl zT fT rT ?_
  refine o_as rfl rfl ?_
  refine o_nil (hK _ _ ?_); (try clear hK hP hgs K gs P)
  refine WS_reg fun K gs P hK hgs hP => ?_
  refine o_fa rfl rfl fa25_1 ?_
  refine o_ld rfl rfl (ldb box_push (pl3.trans cT1)) ?_
  refine o_as rfl rfl ?_
  refine o_nil (hK _ _ ?_); (try clear hK hP hgs K gs P)
  refine WS_seq ?_
  refine WS_reg fun K gs P hK hgs hP => ?_
  refine o_fa rfl rfl fa25_3 ?_
  refine o_ld rfl rfl (ldb box_push (pl23.trans cT3)) ?_
  refine o_len rfl rfl rfl lT ?_
  refine o_mv rfl rfl ?_
  refine o_nil (hK _ _ ?_); (try clear hK hP hgs K gs P)
  refine WS_block ?_
  refine WS.weaken (l0 := [(11, _), (10, _), (3, _), (9, _)]) (sub_cons rfl (sub_cons rfl (sub_cons rfl (sub_cons rfl (sub_nil))))) ?_
  refine WS_range (n := t.args.length) (fun i l σ => l = [(11, .int .i64 i), (10, .int .i64 (t.args.length : Nat)), (3, .int .i64 (((t.args.take i).map greatestT).foldl max t.n)), (9, slc (t.args.map encT))] ∧ True) (fun i l σ h => by obtain ⟨rfl, h⟩ := h; exact ⟨rfl, rfl⟩) rfl rfl rfl rfl (by have := hS.1.1; omega) ?_ ?_ t.args.length 0 _ _ (by omega) ⟨rfl, trivial⟩
  · rintro i l σ hi ⟨rfl, -⟩
    obtain ⟨x, hx, hmem, htake, _⟩ := take_one hi
    have he : max (((t.args.take i).map greatestT).foldl max t.n) (greatestT x) = ((t.args.take (i + 1)).map greatestT).foldl max t.n := by rw [htake, List.map_append, List.foldl_append]; rfl
    refine WS_block ?_
    refine WS_reg fun K gs P hK hgs hP => ?_
    refine o_ia rfl rfl rfl (iT hx) ?_
    refine o_ld rfl rfl (ldr wT) ?_
    refine o_al rfl zr25 rfl rfl ?_
    refine o_st rfl rfl stT ?_
    refine o_nil (hK _ _ ?_); (try clear hK hP hgs K gs P)
    refine WS_reg1 fun K gs P hK hgs hP => ?_
    refine o_mv rfl rfl ?_
    refine o_ld rfl rfl (ldb box_put wT) ?_
    refine o_call rfl (.cons rfl .nil) (ih x hmem (hS.2 x hmem)) ?_
    refine o_max rfl (.cons rfl (.cons rfl .nil)) imax ?_
    refine o_as rfl rfl ?_
    refine o_nil (hK _ _ fun tm ht => ?_); (try clear hK hP hgs K gs P)
    rw [he] at ht
    (try simp only [thenQ, blockQ]); exact RoundTo.mk ht (l' := [(11, _), (10, _), (3, _), (9, _)]) (sub_cons rfl (sub_cons rfl (sub_cons rfl (sub_cons rfl (sub_nil))))) ⟨rfl, _, sub_cons rfl (sub_cons rfl (sub_cons rfl (sub_cons rfl (sub_nil)))), rfl, trivial⟩
  · rintro l σ ⟨rfl, -⟩ tm ht
    rw [List.take_length] at ht
    simp only [thenQ, blockQ, if_true]; refine WS_of ?_ ht; clear ht tm
    refine WS_reg fun K gs P hK hgs hP => ?_
    refine o_mv rfl rfl ?_
    refine o_as rfl rfl ?_
    refine o_nil (hK _ _ ?_); (try clear hK hP hgs K gs P)
    refine WS_ret fun tm ht => ?_
    (try simp only [thenQ, blockQ]); refine endQ_tmp ht rfl (by rw [greatestT_eq]; rfl)
theorem fn65 : look.fnOf 65 = some fl65 := by kernel_rfl
def tooLargeT (t : Term) : Bool := decide (nodesT t 0 4000 1073741824 > 4000) || decide (greatestT t > 100000)
theorem tooLarge_ok (hpr : NoPr pr) (t : Term) (hsm : t.Small) : Ret look pr 65 [encT t] (.bool (tooLargeT t)) := by
  refine Ret.of (fn := fl65) fn65 (hpr.at rfl) ⟨Nat.le_of_ble_eq_true rfl, Nat.le_of_ble_eq_true rfl⟩ (gargs_cons gT gargs_nil) good_bool (by simp) ?_
  show WS look pr false 11 [] (bodyOf f65) _ _ _
  simp only [bodyOf, f65]
  refine WS_reg fun K gs P hK hgs hP => ?_
  refine o_box rfl rfl zT fT rT ?_
  refine o_as rfl rfl ?_
  refine o_nil (hK _ _ ?_); (try clear hK hP hgs K gs P)
  refine WS_regB (l1 := []) (sub_nil) 2 (decide (nodesT t 0 4000 1073741824 > 4000) || decide (greatestT t > 100000)) (fun K gs P hK hgs hP => ?_) ?_
  ·
    have s3 : gs 3 = some 6 := by rw [hgs]; rfl
    refine o_ld rfl rfl (ldb box_push wT) ?_
    refine o_call rfl (.cons rfl (.cons rfl (.cons rfl (.cons rfl .nil)))) (nodes_ok (hpr.at rfl) t hsm 0 4000 1073741824 (by omega) (by omega) (by omega) (by omega) (by omega)) ?_
    refine o_bin rfl rfl rfl gtr_int ?_
    refine o_mv rfl rfl ?_
    refine o_split 6 rfl (fun e6 => ?_) (fun e6 => ?_)
    ·
      refine o_no rfl rfl rfl s3 rfl ?_
      refine o_no rfl rfl rfl s3 rfl ?_
      refine o_no rfl rfl rfl s3 rfl ?_
      refine o_pick rfl rfl rfl ?_
      refine o_as rfl rfl ?_
      exact o_nil (hK _ (by (show some (LV.bool _) = some (LV.bool _); refine congrArg (fun b => some (LV.bool b)) ?_; first | (simp_all; done) | (simp_all; intros; omega))) (sub_nil))
    ·
      refine o_yes rfl s3 rfl (o_ld rfl rfl (ldb box_push wT) ?_)
      refine o_yes rfl s3 rfl (o_call rfl (.cons rfl .nil) (greatest_ok hpr t hsm) ?_)
      refine o_yes rfl s3 rfl (o_bin rfl rfl rfl gtr_int ?_)
      refine o_pick rfl rfl rfl ?_
      refine o_as rfl rfl ?_
      exact o_nil (hK _ (by (show some (LV.bool _) = some (LV.bool _); refine congrArg (fun b => some (LV.bool b)) ?_; first | (simp_all; done) | (simp_all; intros; omega))) (sub_nil))
  refine WS_ret fun tm ht => ?_
  (try simp only [thenQ, blockQ]); refine endQ_tmp ht rfl rfl
theorem fn49 : look.fnOf 49 = some fl49 := by kernel_rfl
def failedV (e : Int) : LV := .iface 103 (.agg [.int .i64 e])
theorem mk_failed {e : Int} : ifaceL look 103 (.agg [.int .i64 e]) = some (failedV e) := by kernel_rfl
theorem failedV_good {e : Int} : (failedV e).Good := ⟨fun n => rfl, fun n => rfl⟩
def wholeT (t : Term) : LOut := if tooLargeT t = true then .pan (failedV 2) else if deepT t 100 = true then .pan (failedV 5) else .ret (encT t)
theorem whole_ok (hpr : NoPr pr) (t : Term) (hsm : t.Small) : Out look pr 49 [encT t] (wholeT t) := by
  have hgood : (wholeT t).val.Good ∧ ∀ xs k nz, (wholeT t).val ≠ .slice xs (.tok k) nz := by
    unfold wholeT
    split
    · exact ⟨failedV_good, by simp [LOut.val, failedV]⟩
    · split
      · exact ⟨failedV_good, by simp [LOut.val, failedV]⟩
      · exact ⟨encT_good t, by rw [encT_eq]; simp [LOut.val]⟩
  refine Out.of (fn := fl49) fn49 (hpr.at rfl) ⟨Nat.le_of_ble_eq_true rfl, Nat.le_of_ble_eq_true rfl⟩ (gargs_cons gT gargs_nil) hgood.1 hgood.2 ?_
  show WS look pr false 14 [] (bodyOf f49) _ _ _
  simp only [bodyOf, f49]
  refine WS_reg fun K gs P hK hgs hP => ?_
  refine o_box rfl rfl zT fT rT ?_
  refine o_al rfl zr25 rfl rfl ?_
  refine o_nil (hK _ _ ?_); (try clear hK hP hgs K gs P)
  refine WS_seq ?_
  refine WS_block ?_
  refine WS_reg fun K gs P hK hgs hP => ?_
  refine o_ld rfl rfl (ldb (box_push_of (box_push)) wT) ?_
  refine o_call rfl (.cons rfl .nil) (tooLarge_ok hpr t hsm) ?_
  refine o_as rfl rfl ?_
  refine o_nil (hK _ _ ?_); (try clear hK hP hgs K gs P)
  refine WS_cond rfl (fun hb0 => ?_) (fun hb0 => ?_)
  ·
    refine WS_reg1 fun K gs P hK hgs hP => ?_
    refine o_bld rfl (.cons rfl .nil) rfl ?_
    refine o_mki rfl rfl mk_failed ?_
    refine o_pan rfl fun tm ht => hP _ _ _ ?_
    simp only [thenQ, blockQ]
    exact ⟨_, .nil, by rw [wholeT, if_pos hb0]; rfl⟩
  ·
    refine WS_reg fun K gs P hK hgs hP => ?_
    refine o_ld rfl rfl (ldb (box_push_of (box_push)) wT) ?_
    refine o_call rfl (.cons rfl (.cons rfl .nil)) (deeper_ok (hpr.at rfl) t hsm 100 (by omega) (by omega)) ?_
    refine o_as rfl rfl ?_
    refine o_nil (hK _ _ ?_); (try clear hK hP hgs K gs P)
    refine WS_cond rfl (fun hb => ?_) (fun hb => ?_)
    ·
      refine WS_reg1 fun K gs P hK hgs hP => ?_
      refine o_bld rfl (.cons rfl .nil) rfl ?_
      refine o_mki rfl rfl mk_failed ?_
      refine o_pan rfl fun tm ht => hP _ _ _ ?_
      simp only [thenQ, blockQ]
      exact ⟨_, .nil, by rw [wholeT, if_neg (by rw [hb0]; simp), if_pos hb]; rfl⟩
    ·
      refine WS_skip fun tm ht => ?_
      simp only [thenQ, blockQ, if_true]; refine WS_of ?_ ht; clear ht tm
      refine WS_reg fun K gs P hK hgs hP => ?_
      refine o_ld rfl rfl (ldb (box_push_of (box_push)) wT) ?_
      refine o_st rfl rfl (store_box box_push sz25 (encT_wd t) (Nat.le_of_ble_eq_true rfl) (encT_flat t) rT) ?_
      refine o_nil (hK _ _ ?_); (try clear hK hP hgs K gs P)
      refine WS_ret fun tm ht => ?_
      refine endM_cell ht rfl .nil (ldb (box_upd' box_push) (show partL look 25 _ _ = some (encT t) by rw [pl25, encT_cells, encT_eq]; rfl)) ?_
      rw [wholeT, if_neg (by rw [hb0]; simp), if_neg (by rw [hb]; simp), encT_eq]; rfl
end Go.Lg
end
section
set_option linter.unusedSimpArgs false
set_option maxRecDepth 20000
namespace Go.Lg
open Go.Proofs.Tryz
variable {pr : Prim}
theorem fn69 : look.fnOf 69 = some fl69 := by kernel_rfl
theorem shifted_ok (hpr : NoPr pr) (t : Term) (hk : t.kind = 3) (ha : t.args = []) (by_ k : Int) : Ret look pr 69 [encT t, .int .i64 by_, .int .i64 k] (encT t) := by
  refine Ret.of (fn := fl69) fn69 (hpr.at rfl) ⟨Nat.le_of_ble_eq_true rfl, Nat.le_of_ble_eq_true rfl⟩ (gargs_cons gT (gargs_cons gint (gargs_cons gint gargs_nil))) gT.1 (by rw [encT_eq]; simp) ?_
  show WS look pr false 56 [] (bodyOf f69) _ _ _
  simp only [bodyOf, f69]
  refine WS_reg fun K gs P hK hgs hP => ?_
  refine o_box rfl rfl zT fT rT ?_
  refine o_al rfl zr25 rfl rfl ?_
  refine o_nil (hK _ _ ?_); (try clear hK hP hgs K gs P)
  refine WS_reg fun K gs P hK hgs hP => ?_
  refine o_fa rfl rfl fa25_0 ?_
  refine o_ld rfl rfl (ldb (box_push_of (box_push)) (pl3.trans cT0)) ?_
  refine o_fa rfl rfl fa25_1 ?_
  refine o_ld rfl rfl (ldb (box_push_of (box_push)) (pl3.trans cT1)) ?_
  refine o_fa rfl rfl fa25_2 ?_
  refine o_ld rfl rfl (ldb (box_push_of (box_push)) (pl9.trans cT2)) ?_
  refine o_bld rfl (.cons rfl (.cons rfl (.cons rfl .nil))) rfl ?_
  refine o_al rfl zr25 rfl rfl ?_
  refine o_st rfl rfl (stn sz25 rfl rfl rfl) ?_
  refine o_nil (hK _ _ ?_); (try clear hK hP hgs K gs P)
  refine WS_seq ?_
  refine WS_block ?_
  refine WS_regB (l1 := [(1, _), (2, _), (3, _), (6, _), (7, _)]) (sub_cons rfl (sub_cons rfl (sub_cons rfl (sub_cons rfl (sub_cons rfl (sub_nil)))))) 17 ((t.kind == 2) && decide (t.n ≥ k)) (fun K gs P hK hgs hP => ?_) ?_
  ·
    have s3 : gs 3 = some 21 := by rw [hgs]; rfl
    refine o_fa rfl rfl fa25_0 ?_
    refine o_ld rfl rfl (ldb (box_put_of (box_push_of (box_push))) (pl3.trans cT0)) ?_
    refine o_bin rfl rfl rfl eql_int ?_
    refine o_mv rfl rfl ?_
    refine o_split 21 rfl (fun e21 => ?_) (fun e21 => ?_)
    ·
      refine o_yes rfl s3 rfl (o_fa rfl rfl fa25_1 ?_)
      refine o_yes rfl s3 rfl (o_ld rfl rfl (ldb (box_put_of (box_push_of (box_push))) (pl3.trans cT1)) ?_)
      refine o_yes rfl s3 rfl (o_mv rfl rfl ?_)
      refine o_yes rfl s3 rfl (o_bin rfl rfl rfl geq_int ?_)
      refine o_pick rfl rfl rfl ?_
      refine o_as rfl rfl ?_
      exact o_nil (hK _ (by (show some (LV.bool _) = some (LV.bool _); refine congrArg (fun b => some (LV.bool b)) ?_; first | (simp_all; done) | (simp_all; intros; omega))) (sub_cons rfl (sub_cons rfl (sub_cons rfl (sub_cons rfl (sub_cons rfl (sub_nil)))))))
    ·
      refine o_no rfl rfl rfl s3 rfl ?_
      refine o_no rfl rfl rfl s3 rfl ?_
      refine o_no rfl rfl rfl s3 rfl ?_
      refine o_no rfl rfl rfl s3 rfl ?_
      refine o_pick rfl rfl rfl ?_
      refine o_as rfl rfl ?_
      exact o_nil (hK _ (by (show some (LV.bool _) = some (LV.bool _); refine congrArg (fun b => some (LV.bool b)) ?_; first | (simp_all; done) | (simp_all; intros; omega))) (sub_cons rfl (sub_cons rfl (sub_cons rfl (sub_cons rfl (sub_cons rfl (sub_nil)))))))
  refine WS_cond rfl (fun hb => by rw [hk] at hb; cases hb) (fun hb => ?_)
  refine WS_reg fun K gs P hK hgs hP => ?_
  refine o_fa rfl rfl fa25_0 ?_
  refine o_ld rfl rfl (ldb (box_put_of (box_push_of (box_push))) (pl3.trans cT0)) ?_
  refine o_bin rfl rfl rfl eql_int ?_
  refine o_as rfl rfl ?_
  refine o_nil (hK _ _ ?_); (try clear hK hP hgs K gs P)
  refine WS_cond rfl (fun hb => by rw [hk] at hb; cases hb) (fun hb => ?_)
  refine WS_skip fun tm ht => ?_
  simp only [thenQ, blockQ, if_true]; refine WS_of ?_ ht; clear ht tm
  refine WS_seq ?_
  refine WS_reg fun K gs P hK hgs hP => ?_
  refine o_fa rfl rfl fa25_3 ?_
  refine o_ld rfl rfl (ldb (box_put_of (box_push_of (box_push))) (pl23.trans cT3)) ?_
  refine o_len rfl rfl rfl lT ?_
  refine o_mv rfl rfl ?_
  refine o_nil (hK _ _ ?_); (try clear hK hP hgs K gs P)
  refine WS_block ?_
  refine WS.weaken (l0 := [(41, _), (40, _), (1, _), (2, _), (6, _), (7, _), (39, _)]) (sub_cons rfl (sub_cons rfl (sub_cons rfl (sub_cons rfl (sub_cons rfl (sub_cons rfl (sub_cons rfl (sub_nil)))))))) ?_
  refine WS_range (n := t.args.length) (fun i l σ => l = [(41, .int .i64 i), (40, .int .i64 (t.args.length : Nat)), (1, .int .i64 by_), (2, .int .i64 k), (6, .ptr 1 0), (7, .ptr 2 0), (39, slc (t.args.map encT))] ∧ (∃ cs1, boxOf σ 1 = some (25, cs1) ∧ cs1.length = 4) ∧ ∃ own nz, boxOf σ 2 = some (25, [.int .i64 t.kind, .int .i64 t.n, .str t.name, .slice [] own nz])) (fun i l σ h => by obtain ⟨rfl, h⟩ := h; exact ⟨rfl, rfl⟩) rfl rfl rfl rfl (by rw [ha]; decide) ?_ ?_ t.args.length 0 _ _ (by omega) ⟨rfl, ⟨_, box_put_of box_push, rfl⟩, _, _, box_put⟩
  · rintro i l σ hi ⟨rfl, HI⟩
    rw [ha] at hi; cases hi
  · rintro l σ ⟨rfl, ⟨cs1, hb1, hl1⟩, own, nz, hb2⟩ tm ht
    simp only [thenQ, blockQ, if_true]; refine WS_of ?_ ht; clear ht tm
    refine WS_reg fun K gs P hK hgs hP => ?_
    refine o_ld rfl rfl (ldb hb2 (pl25.trans rfl)) ?_
    refine o_st rfl rfl (store_box hb1 sz25 rfl (by rw [hl1]; exact Nat.le_of_ble_eq_true rfl) rfl rfl) ?_
    refine o_nil (hK _ _ ?_); (try clear hK hP hgs K gs P)
    refine WS_ret fun tm ht => ?_
    refine endQ_cell ht rfl (ldb (box_upd' hb1) (pl25.trans rfl)) ?_
    rw [encT_eq, ha]; rfl
end Go.Lg
end
section
set_option linter.unusedSimpArgs false
set_option maxRecDepth 20000
namespace Go.Lg
open Go.Proofs.Tryz
variable {pr : Prim}
theorem sl_all_map {xs : List Term} {own : Own} {nz : Option Bool} {k k' : IntKind} : sliceL look 23 (.slice (xs.map encT) own nz) none (some (.int k xs.length)) (some (.int k' xs.length)) = some (.slice (xs.map encT) .exact nz) := by
  have h := sl_all (L := look) (xs := xs.map encT) (own := own) (nz := nz) (k := k) (k' := k') ud23 sz25 (by decide) (fun x hx => by obtain ⟨y, _, rfl⟩ := List.mem_map.1 hx; exact encT_wd y)
  rw [List.length_map] at h; exact h
theorem fn68 : look.fnOf 68 = some fl68 := by kernel_rfl
theorem apply_ok (hpr : NoPr pr) (b : Nat) (t : Term) (hk : t.kind ≠ 5) (l : List Term) (hl : t.args.length + l.length ≤ 8) : ∀ σ, EvF look pr (.func (.func 68) [] []) [.ptr b 0, encT t, slcL (l.map encT)] σ (.still (.ret (encT (.mk t.kind t.n t.name (t.args ++ l))))) := by
  have key := EvO (L := look) (pr := pr) (g := 68) (fn := fl68) (fs := []) (args := [.ptr b 0, encT t, slcL (l.map encT)]) (cs := []) (v := encT (.mk t.kind t.n t.name (t.args ++ l))) (S := fun _ => True) fn68 (hpr.at rfl) ⟨Nat.le_of_ble_eq_true rfl, Nat.le_of_ble_eq_true rfl⟩ (by simp [LV.refsOK, LV.argC, LV.canonA, LV.disown, LV.refOK]) (by rw [encT_eq]; rfl) (encT_good _) (by rw [encT_eq]; simp) (fun _ _ h => h) ?_
  · exact fun σ => key σ trivial
  intro σ0 _ hws
  have hFo : Fo σ0 σ0 := Fo.refl hws
  generalize hfin : (endM look fl68.results fun out σ' => out.fin = .ret (encT (.mk t.kind t.n t.name (t.args ++ l))) ∧ Fo σ0 σ') = QQ
  show WS look pr false 67 [] (bodyOf f68) _ _ _
  simp only [bodyOf, f68]
  refine WS_reg fun K gs P hK hgs hP => ?_
  refine o_box rfl rfl zT fT rT ?_
  refine o_al rfl zr25 rfl rfl ?_
  refine o_nil (hK _ _ ?_); (try clear hK hP hgs K gs P)
  refine WS_seq ?_
  refine WS_reg fun K gs P hK hgs hP => ?_
  refine o_mv rfl rfl ?_
  refine o_len rfl rfl rfl lT ?_
  refine o_mv rfl rfl ?_
  refine o_nil (hK _ _ ?_); (try clear hK hP hgs K gs P)
  refine WS_block ?_
  refine WS.weaken (l0 := [(10, _), (9, _), (2, _), (4, _), (6, _)]) (sub_cons rfl (sub_cons rfl (sub_cons rfl (sub_cons rfl (sub_cons rfl (sub_nil)))))) ?_
  refine WS_range (n := l.length) (fun i ll σ => ll = [(10, .int .i64 i), (9, .int .i64 (l.length : Nat)), (2, slcL (l.map encT)), (4, .ptr σ0.len 0), (6, .ptr (σ0.push (.cells 25 (encT t).cells)).len 0)] ∧ i = 0 ∧ boxOf σ σ0.len = some (25, (encT t).cells) ∧ (∃ cs1, boxOf σ (σ0.push (.cells 25 (encT t).cells)).len = some (25, cs1) ∧ cs1.length = 4) ∧ Fo σ0 σ) (fun i l σ h => by obtain ⟨rfl, h⟩ := h; exact ⟨rfl, rfl⟩) rfl rfl rfl rfl (by omega) ?_ ?_ l.length 0 _ _ (by omega) ⟨rfl, rfl, box_push_of box_push, ⟨_, box_push, rfl⟩, hFo.push.push⟩
  · rintro i ll σ hi ⟨rfl, rfl, hb4, ⟨cs1, hb6, hl6⟩, hfo⟩
    refine WS_block ?_
    refine WS_reg fun K gs P hK hgs hP => ?_
    refine o_mv rfl rfl ?_
    refine o_as rfl rfl ?_
    refine o_nil (hK _ _ ?_); (try clear hK hP hgs K gs P)
    have hw4 : ∀ x ∈ l.map encT, x.wd = 4 := fun x hx => by obtain ⟨y, _, rfl⟩ := List.mem_map.1 hx; exact encT_wd y
    have hw4a : ∀ x ∈ t.args.map encT, x.wd = 4 := fun x hx => by obtain ⟨y, _, rfl⟩ := List.mem_map.1 hx; exact encT_wd y
    have hne : l.map encT ≠ [] := fun h => by rw [List.map_eq_nil_iff] at h; rw [h] at hi; cases hi
    have hgl : ∀ (own : Own) (nz : Option Bool) (n : Nat), (LV.slice (t.args.map encT ++ l.map encT) own nz).refOK n = true := fun own nz n => by rw [← List.map_append]; exact refS encT_good
    have hc3 : ∀ (xs : List LV) (own : Own) (nz : Option Bool), (setRange (encT t).cells (0 + 3) (LV.slice xs own nz).cells)[0 + 3]? = some (.slice xs own nz) := fun xs own nz => by rw [encT_cells]; rfl
    have hwt : ∀ (xs : List LV) (own : Own) (nz : Option Bool), partL look 25 (setRange (encT t).cells (0 + 3) (LV.slice xs own nz).cells) 0 = some (.agg [.int .i64 t.kind, .int .i64 t.n, .str t.name, .slice xs own nz]) := fun xs own nz => by rw [pl25, encT_cells]; rfl
    have hl8 : ¬ ((t.args.map encT ++ l.map encT).length : Int) > 8 := by simp only [List.length_append, List.length_map]; omega
    refine WS_seq ?_
    refine WS_reg fun K gs P hK hgs hP => ?_
    refine o_fa rfl rfl fa25_0 ?_
    refine o_ld rfl rfl (ldb hb4 (pl3.trans cT0)) ?_
    refine o_bin rfl rfl rfl neq_int ?_
    refine o_nil (hK _ _ ?_); (try clear hK hP hgs K gs P)
    refine WS_cond rfl (fun hb => ?_) (fun hb => absurd (show t.kind = 5 by simpa using hb) hk)
    ·
      refine WS_draw rfl fun K gs P hK hgs => ?_
      refine d_p rfl rfl rfl (fun _ => rfl) (o_fa rfl rfl fa25_3 (o_nil ?_))
      refine d_ld rfl (o_ld rfl rfl (ldb hb4 (pl23.trans cT3)) (o_nil ?_))
      refine d_p rfl rfl rfl (fun _ => rfl) (o_fa rfl rfl fa25_3 (o_nil ?_))
      refine d_ld rfl (o_ld rfl rfl (ldb hb4 (pl23.trans cT3)) (o_nil ?_))
      refine d_p rfl rfl rfl (fun _ => rfl) (o_len rfl rfl rfl lT (o_nil ?_))
      refine d_p rfl rfl rfl (fun _ => rfl) (o_fa rfl rfl fa25_3 (o_nil ?_))
      refine d_ld rfl (o_ld rfl rfl (ldb hb4 (pl23.trans cT3)) (o_nil ?_))
      refine d_p rfl rfl rfl (fun _ => rfl) (o_len rfl rfl rfl lT (o_nil ?_))
      refine d_p rfl rfl rfl (fun _ => rfl) (o_slc2 rfl rfl rfl rfl (sl_all_map (xs := t.args)) (o_nil ?_))
      refine d_p rfl rfl rfl (fun _ => rfl) (o_mv rfl rfl (o_nil ?_))
      refine d_p rfl rfl rfl (fun _ => rfl) (o_mv rfl rfl (o_nil ?_))
      refine d_p rfl rfl rfl (fun _ => rfl) (o_slc rfl rfl rfl (sl_from0 ud23 sz25 (by decide) hw4) (o_nil ?_))
      refine d_m rfl rfl rfl (fun _ => rfl) (o_app rfl (.cons rfl (.cons rfl .nil)) rfl (app_ok (show appOK look 23 23 4 = true by kernel_rfl) (by simp only [List.length_map]; omega) hw4a hw4 hne app_exact) (o_nil ?_))
      refine d_p rfl rfl rfl (fun _ => rfl) (o_fa rfl rfl fa25_3 (o_nil ?_))
      refine d_st rfl (o_st rfl rfl (store_box (box_own_of hb4) sz23 rfl (by rw [encT_cells]; exact Nat.le_of_ble_eq_true rfl) rfl (hgl _ _ _)) (o_nil ?_))
      refine d_nil (hK _ _ _ (by kernel_rfl) ?_); (try clear hK hgs K gs P)
      refine WS_seq ?_
      refine WS_reg fun K gs P hK hgs hP => ?_
      refine o_fa rfl rfl fa25_3 ?_
      refine o_ld rfl rfl (ldb (box_upd' (box_own_of hb4)) (pl23.trans (hc3 _ _ _))) ?_
      refine o_len rfl rfl rfl (len_slice ud23) ?_
      refine o_bin rfl rfl rfl gtr_int ?_
      refine o_nil (hK _ _ ?_); (try clear hK hP hgs K gs P)
      refine WS_cond rfl (fun hb => absurd (of_decide_eq_true hb) hl8) (fun hb => ?_)
      ·
        refine WS_skip fun tm ht => ?_
        simp only [thenQ, blockQ, if_true]; refine WS_of ?_ ht; clear ht tm
        refine WS_reg fun K gs P hK hgs hP => ?_
        refine o_ld rfl rfl (ldb (box_upd' (box_own_of hb4)) (hwt _ _ _)) ?_
        refine o_st rfl rfl (store_box (box_upd_of (box_own_of hb6) (by rw [push_len]; omega)) sz25 rfl (by rw [hl6]; exact Nat.le_of_ble_eq_true rfl) rfl (refA (refs_cons rfl (refs_cons rfl (refs_cons rfl (refs_cons (hgl _ _ _) rfl)))))) ?_
        refine o_nil (hK _ _ ?_); (try clear hK hP hgs K gs P)
        refine WS_ret fun tm ht => ?_
        simp only [thenQ, blockQ]; rw [← hfin]
        refine endM_cell ht rfl .nil (ldb (box_upd' (box_upd_of (box_own_of hb6) (by rw [push_len]; omega))) (pl25.trans rfl)) ⟨?_, ((hfo.own (w := .exact) trivial).1.upd (Nat.le_refl _)).upd (by rw [push_len]; omega)⟩
        rw [encT_eq]; simp only [Term.kind, Term.n, Term.name, Term.args, List.map_append]; rfl
  · rintro ll σ ⟨rfl, h0, hb4, ⟨cs1, hb6, hl6⟩, hfo⟩ tm ht
    have hl0 : l = [] := List.length_eq_zero_iff.1 h0
    simp only [thenQ, blockQ, if_true]; refine WS_of ?_ ht; clear ht tm
    refine WS_reg fun K gs P hK hgs hP => ?_
    refine o_ld rfl rfl (ldb hb4 wT) ?_
    refine o_st rfl rfl (store_box hb6 sz25 (encT_wd t) (by rw [hl6]; exact Nat.le_of_ble_eq_true rfl) (encT_flat t) rT) ?_
    refine o_nil (hK _ _ ?_); (try clear hK hP hgs K gs P)
    refine WS_ret fun tm ht => ?_
    rw [← hfin]
    refine endM_cell ht rfl .nil (ldb (box_upd' hb6) (show partL look 25 _ _ = some (encT t) by rw [pl25, encT_cells, encT_eq]; rfl)) ⟨?_, hfo.upd (by rw [push_len]; omega)⟩
    rw [hl0, List.append_nil, encT_eq, encT_eq]; rfl
end Go.Lg
end
section
set_option linter.unusedSimpArgs false
set_option maxRecDepth 20000
namespace Go.Lg
open Go.Proofs.Tryz
variable {pr : Prim}
theorem fn66 : look.fnOf 66 = some fl66 := by kernel_rfl
def Narrow (t : Term) : Prop := t.fold fun t bs => (t.args.length ≤ 8 ∧ (t.kind = 4 → 0 ≤ t.n)) ∧ ∀ b ∈ bs, b
theorem narrow_iff (t : Term) : Narrow t ↔ (t.args.length ≤ 8 ∧ (t.kind = 4 → 0 ≤ t.n)) ∧ ∀ x ∈ t.args, Narrow x := by
  unfold Narrow
  rw [Term.fold_eq]
  simp only [List.mem_map, forall_exists_index, and_imp, forall_apply_eq_imp_iff₂]
def walkT (hd : Term → Int → Term) (t : Term) : Int → Term := t.fold fun t bs k =>
  if (t.kind == 5) = true then .mk t.kind t.n t.name (bs.map fun f => f (if (t.kind == 5) = true then IntKind.i64.wrap (k + 1) else k))
  else hd (.mk t.kind t.n t.name (bs.map fun f => f (if (t.kind == 5) = true then IntKind.i64.wrap (k + 1) else k))) k
def innerK (t : Term) (k : Int) : Int := if (t.kind == 5) = true then IntKind.i64.wrap (k + 1) else k
def outT (hd : Term → Int → Term) (t : Term) (k : Int) : Term := .mk t.kind t.n t.name (t.args.map fun x => walkT hd x (innerK t k))
theorem walkT_eq (hd : Term → Int → Term) (t : Term) (k : Int) : walkT hd t k = if (t.kind == 5) = true then outT hd t k else hd (outT hd t k) k := by
  conv => lhs; unfold walkT
  rw [Term.fold_eq, List.map_map]; rfl
theorem walk_ok (hpr : NoPr pr) (b : Nat) {hg : FuncId} (hgp : ∀ l σ, pr hg l σ = none) {cs : List LV} {hd : Term → Int → Term} {S : LH → Prop} (hcs : cs.map LV.canonA = cs) (hlow : ∀ τ τ' : LH, (∀ b, b < τ.len → τ'.boxes[b]? = τ.boxes[b]?) → S τ → S τ')
    (hhead : ∀ t k σ, t.args.length ≤ 8 → (t.kind = 4 → 0 ≤ t.n) → S σ → EvF look pr (.func (.func hg) [] cs) [encT t, .int .i64 k] σ (.still (.ret (encT (hd t k))))) : ∀ t : Term, Narrow t → ∀ k σ, S σ →
    EvF look pr (.func (.func 66) [] []) [.ptr b 0, encT t, .int .i64 k, .func (.func hg) [] cs] σ (.still (.ret (encT (walkT hd t k)))) := by
  refine Term.ind fun t ih hnar k => ?_
  have hN := (narrow_iff t).1 hnar
  refine EvO (L := look) (pr := pr) (g := 66) (fn := fl66) (fs := []) (args := [.ptr b 0, encT t, .int .i64 k, .func (.func hg) [] cs]) (cs := []) (v := encT (walkT hd t k)) (S := S) fn66 (hpr.at rfl) ⟨Nat.le_of_ble_eq_true rfl, Nat.le_of_ble_eq_true rfl⟩ (by simp [LV.refsOK, LV.argC, LV.canonA, LV.disown, LV.refOK]) (by rw [encT_eq]; rfl) (encT_good _) (by rw [encT_eq]; simp) (fun σ ws h => hlow σ _ (fun b _ => rfl) h) ?_
  intro σ0 hS0 hws
  have hFo : Fo σ0 σ0 := Fo.refl hws
  have hst : ∀ σ, Fo σ0 σ → S σ := fun σ h => hlow σ0 σ h.box hS0
  generalize hfin : (endM look fl66.results fun out σ' => out.fin = .ret (encT (walkT hd t k)) ∧ Fo σ0 σ') = QQ
  show WS look pr false 52 [] (bodyOf f66) _ _ _
  simp only [bodyOf, f66]
  refine WS_reg fun K gs P hK hgs hP => ?_
  refine o_box rfl rfl zT fT rT ?_
  refine o_al rfl zr25 rfl rfl ?_
  refine o_nil (hK _ _ ?_); (try clear hK hP hgs K gs P)
  refine WS_reg fun K gs P hK hgs hP => ?_
  refine o_mv rfl rfl ?_
  refine o_as rfl rfl ?_
  refine o_nil (hK _ _ ?_); (try clear hK hP hgs K gs P)
  refine WS_seqV (l1 := [(0, _), (2, _), (3, _), (5, _), (8, _)]) (sub_cons rfl (sub_cons rfl (sub_cons rfl (sub_cons rfl (sub_cons rfl (sub_nil)))))) 9 (.int .i64 (innerK t k)) ?_ ?_
  ·
    refine WS_reg fun K gs P hK hgs hP => ?_
    refine o_fa rfl rfl fa25_0 ?_
    refine o_ld rfl rfl (ldb (box_push_of (box_push)) (pl3.trans cT0)) ?_
    refine o_bin rfl rfl rfl eql_int ?_
    refine o_nil (hK _ _ ?_); (try clear hK hP hgs K gs P)
    refine WS_cond rfl (fun hb => ?_) (fun hb => ?_)
    ·
      refine WS_reg1 fun K gs P hK hgs hP => ?_
      refine o_mv rfl rfl ?_
      refine o_bin rfl rfl rfl add_int ?_
      refine o_as rfl rfl ?_
      refine o_nil (hK _ _ fun tm ht => ?_); (try clear hK hP hgs K gs P)
      simp only [thenQ, blockQ, if_true]; exact ⟨trivial, ht.sub (sub_cons (by rw [innerK, if_pos hb]; rfl) (sub_cons rfl (sub_cons rfl (sub_cons rfl (sub_cons rfl (sub_cons rfl (sub_nil))))))), trivial⟩
    ·
      refine WS_skip fun tm ht => ?_
      simp only [thenQ, blockQ, if_true]; exact ⟨trivial, ht.sub (sub_cons (by rw [innerK, if_neg (by rw [hb]; simp)]; rfl) (sub_cons rfl (sub_cons rfl (sub_cons rfl (sub_cons rfl (sub_cons rfl (sub_nil))))))), trivial⟩
  refine WS_reg fun K gs P hK hgs hP => ?_
  refine o_fa rfl rfl fa25_0 ?_
  refine o_ld rfl rfl (ldb (box_push_of (box_push)) (pl3.trans cT0)) ?_
  refine o_fa rfl rfl fa25_1 ?_
  refine o_ld rfl rfl (ldb (box_push_of (box_push)) (pl3.trans cT1)) ?_
  refine o_fa rfl rfl fa25_2 ?_
  refine o_ld rfl rfl (ldb (box_push_of (box_push)) (pl9.trans cT2)) ?_
  refine o_bld rfl (.cons rfl (.cons rfl (.cons rfl .nil))) rfl ?_
  refine o_al rfl zr25 rfl rfl ?_
  refine o_st rfl rfl (stn sz25 rfl rfl rfl) ?_
  refine o_nil (hK _ _ ?_); (try clear hK hP hgs K gs P)
  refine WS_seq ?_
  refine WS_reg fun K gs P hK hgs hP => ?_
  refine o_fa rfl rfl fa25_3 ?_
  refine o_ld rfl rfl (ldb (box_put_of (box_push_of (box_push))) (pl23.trans cT3)) ?_
  refine o_len rfl rfl rfl lT ?_
  refine o_mv rfl rfl ?_
  refine o_nil (hK _ _ ?_); (try clear hK hP hgs K gs P)
  refine WS_block ?_
  refine WS.weaken (l0 := [(29, _), (28, _), (0, _), (2, _), (3, _), (5, _), (8, _), (9, _), (10, _), (27, _)]) (sub_cons rfl (sub_cons rfl (sub_cons rfl (sub_cons rfl (sub_cons rfl (sub_cons rfl (sub_cons rfl (sub_cons rfl (sub_cons rfl (sub_cons rfl (sub_nil))))))))))) ?_
  refine WS_range (n := t.args.length) (fun i l σ => l = [(29, .int .i64 i), (28, .int .i64 (t.args.length : Nat)), (0, .ptr b 0), (2, .int .i64 k), (3, .func (.func hg) [] cs), (5, .ptr σ0.len 0), (8, .ptr (σ0.push (.cells 25 (encT t).cells)).len 0), (9, .int .i64 (innerK t k)), (10, .ptr ((σ0.push (.cells 25 (encT t).cells)).push (.cells 25 (LV.agg [.int .i64 0, .int .i64 0, .str ⟨#[]⟩, .slice [] .exact (some true)]).cells)).len 0), (27, slc (t.args.map encT))] ∧ Fo σ0 σ ∧ boxOf σ σ0.len = some (25, (encT t).cells) ∧ (∃ cs1, boxOf σ (σ0.push (.cells 25 (encT t).cells)).len = some (25, cs1) ∧ cs1.length = 4) ∧ ∃ own nz, boxOf σ ((σ0.push (.cells 25 (encT t).cells)).push (.cells 25 (LV.agg [.int .i64 0, .int .i64 0, .str ⟨#[]⟩, .slice [] .exact (some true)]).cells)).len = some (25, [.int .i64 t.kind, .int .i64 t.n, .str t.name, .slice (((t.args.take i).map fun x => walkT hd x (innerK t k)).map encT) own nz]) ∧ App σ own ∧ Own1 σ0.toks.length own) (fun i l σ h => by obtain ⟨rfl, h⟩ := h; exact ⟨rfl, rfl⟩) rfl rfl rfl rfl (by have := hN.1.1; omega) ?_ ?_ t.args.length 0 _ _ (by omega) ⟨rfl, hFo.push.push.put, box_put_of (box_push_of box_push), ⟨_, box_put_of box_push, rfl⟩, _, _, box_put, app_put.2 app_exact, trivial⟩
  · rintro i l σ hi ⟨rfl, hfo, hb5, ⟨cs1, hb8, hl8⟩, own, nz, hb10, happ, hown⟩
    obtain ⟨x, hx, hmem, htake, _⟩ := take_one hi
    have hl := hN.1.1
    have he : ((t.args.take (i + 1)).map fun x => walkT hd x (innerK t k)) = ((t.args.take i).map fun x => walkT hd x (innerK t k)) ++ [walkT hd x (innerK t k)] := by rw [htake, List.map_append]; rfl
    have hfo2 : Fo σ0 (σ.put 25 (encT x).cells) := hfo.put
    have hlen := hfo.len
    refine WS_block ?_
    refine WS_reg fun K gs P hK hgs hP => ?_
    refine o_ia rfl rfl rfl (iT hx) ?_
    refine o_ld rfl rfl (ldr wT) ?_
    refine o_al rfl zr25 rfl rfl ?_
    refine o_st rfl rfl stT ?_
    refine o_nil (hK _ _ ?_); (try clear hK hP hgs K gs P)
    refine WS_draw1 rfl fun K gs P hK hgs => ?_
    refine d_p rfl rfl rfl (fun _ => rfl) (o_fa rfl rfl fa25_3 (o_nil ?_))
    refine d_ld rfl (o_ld rfl rfl (ldb (box_put_of hb10) (pl23.trans rfl)) (o_nil ?_))
    refine d_p rfl rfl rfl (fun _ => rfl) (o_mv rfl rfl (o_nil ?_))
    refine d_ld rfl (o_ld rfl rfl (ldb box_put wT) (o_nil ?_))
    refine d_p rfl rfl rfl (fun _ => rfl) (o_mv rfl rfl (o_nil ?_))
    refine d_p rfl rfl rfl (fun _ => rfl) (o_mv rfl rfl (o_nil ?_))
    refine d_callv rfl rfl (.cons rfl (.cons rfl (.cons rfl (.cons rfl .nil)))) (ih x hmem (hN.2 x hmem) (innerK t k) _ (hst _ hfo2)) ?_
    refine d_p rfl rfl rfl (fun _ => rfl) (o_bsl rfl (.cons rfl .nil) bsT (o_nil ?_))
    refine d_m rfl rfl rfl (fun _ => rfl) (o_app rfl (.cons rfl (.cons rfl .nil)) rfl (apT (by rw [List.length_map, List.length_take]; omega) (app_put.2 happ)) (o_nil ?_))
    refine d_p rfl rfl rfl (fun _ => rfl) (o_fa rfl rfl fa25_3 (o_nil ?_))
    refine d_st rfl (o_st rfl rfl (store_box (box_own_of (box_put_of hb10)) sz23 rfl (Nat.le_of_ble_eq_true rfl) rfl (refS encT_good)) (o_nil ?_))
    refine d_nil (hK _ _ _ (by kernel_rfl) fun tm ht => ?_); (try clear hK hgs K gs P)
    (try simp only [thenQ, blockQ]); exact RoundTo.mk ht (l' := [(29, _), (28, _), (0, _), (2, _), (3, _), (5, _), (8, _), (9, _), (10, _), (27, _)]) (sub_cons rfl (sub_cons rfl (sub_cons rfl (sub_cons rfl (sub_cons rfl (sub_cons rfl (sub_cons rfl (sub_cons rfl (sub_cons rfl (sub_cons rfl (sub_nil))))))))))) ⟨rfl, _, sub_cons rfl (sub_cons rfl (sub_cons rfl (sub_cons rfl (sub_cons rfl (sub_cons rfl (sub_cons rfl (sub_cons rfl (sub_cons rfl (sub_cons rfl (sub_nil)))))))))), rfl, (hfo2.own hown).1.upd (by simp only [push_len]; omega), box_upd_of (box_own_of (box_put_of hb5)) (by simp only [push_len]; omega), ⟨cs1, box_upd_of (box_own_of (box_put_of hb8)) (by simp only [push_len]; omega), hl8⟩, _, _, (by rw [he]; exact box_upd' (box_own_of (box_put_of hb10))), app_upd.2 app_own, (hfo2.own hown).2⟩
  · rintro l σ ⟨rfl, hfo, hb5, ⟨cs1, hb8, hl8⟩, own, nz, hb10, happ, hown⟩ tm ht
    rw [List.take_length] at hb10
    simp only [thenQ, blockQ, if_true]; refine WS_of ?_ ht; clear ht tm
    refine WS_seq ?_
    refine WS_reg fun K gs P hK hgs hP => ?_
    refine o_fa rfl rfl fa25_0 ?_
    refine o_ld rfl rfl (ldb hb5 (pl3.trans cT0)) ?_
    refine o_bin rfl rfl rfl eql_int ?_
    refine o_nil (hK _ _ ?_); (try clear hK hP hgs K gs P)
    refine WS_cond rfl (fun hb => ?_) (fun hb => ?_)
    ·
      refine WS_reg fun K gs P hK hgs hP => ?_
      refine o_ld rfl rfl (ldb hb10 (pl25.trans rfl)) ?_
      refine o_st rfl rfl (store_box hb8 sz25 rfl (by rw [hl8]; exact Nat.le_of_ble_eq_true rfl) rfl (refA (refs_cons rfl (refs_cons rfl (refs_cons rfl (refs_cons (refS encT_good) rfl)))))) ?_
      refine o_nil (hK _ _ ?_); (try clear hK hP hgs K gs P)
      refine WS_ret fun tm ht => ?_
      (try simp only [thenQ, blockQ]); rw [← hfin]
      refine endM_cell ht rfl .nil (ldb (box_upd' hb8) (pl25.trans rfl)) ⟨?_, hfo.upd (by rw [push_len]; omega)⟩
      rw [walkT_eq, if_pos hb, encT_eq]; rfl
    ·
      have hcall : EvF look pr (.func (.func hg) [] cs) [.agg [.int .i64 t.kind, .int .i64 t.n, .str t.name, .slice ((t.args.map fun x => walkT hd x (innerK t k)).map encT) own nz], .int .i64 k] σ (.still (.ret (encT (hd (outT hd t k) k)))) :=
        EvF_canon hgp (by rw [encT_eq]; rfl) (hhead (outT hd t k) k σ (by rw [outT, Term.args, List.length_map]; exact hN.1.1) hN.1.2 (hst _ hfo))
      refine WS_skip fun tm ht => ?_
      simp only [thenQ, blockQ, if_true]; refine WS_of ?_ ht; clear ht tm
      refine WS_reg fun K gs P hK hgs hP => ?_
      refine o_mv rfl rfl ?_
      refine o_ld rfl rfl (ldb hb10 (pl25.trans rfl)) ?_
      refine o_mv rfl rfl ?_
      refine o_callv rfl rfl (.cons rfl (.cons rfl .nil)) hcall rfl ?_
      refine o_st rfl rfl (store_box hb8 sz25 (encT_wd _) (by rw [hl8]; exact Nat.le_of_ble_eq_true rfl) (encT_flat _) rT) ?_
      refine o_nil (hK _ _ ?_); (try clear hK hP hgs K gs P)
      refine WS_ret fun tm ht => ?_
      rw [← hfin]
      refine endM_cell ht rfl .nil (ldb (box_upd' hb8) (show partL look 25 _ _ = some (encT (hd (outT hd t k) k)) by
        rw [pl25, encT_cells, encT_eq]; simp only [setRange]; simp [hl8])) ⟨?_, hfo.upd (by rw [push_len]; omega)⟩
      rw [walkT_eq, if_neg (by rw [hb]; simp), encT_eq]; rfl
end Go.Lg
end
section
set_option linter.unusedSimpArgs false
set_option maxRecDepth 20000
namespace Go.Lg
open Go.Proofs.Tryz
variable {pr : Prim} {o : Bool} {z : Option Bool}
theorem fn67 : look.fnOf 67 = some fl67 := by kernel_rfl
def putHd (l : List Term) (t : Term) (_ : Int) : Term := if (t.kind == 4) = true then match l[t.n.toNat]? with | some x => .mk x.kind x.n x.name (x.args ++ t.args) | none => t else t
def putS (o : Bool) (z : Option Bool) (l : List Term) (b B2 B3 : Nat) (τ : LH) : Prop := boxOf τ B2 = some (23, [slcX o z (l.map encT)]) ∧ boxOf τ B3 = some (104, [.ptr b 0])
theorem putS_low {l : List Term} {b B2 B3 : Nat} (τ τ' : LH) (h : ∀ b, b < τ.len → τ'.boxes[b]? = τ.boxes[b]?) (hS : putS o z l b B2 B3 τ) : putS o z l b B2 B3 τ' := ⟨box_same hS.1 (h _ (box_lt hS.1)), box_same hS.2 (h _ (box_lt hS.2))⟩
theorem put1_ok (hpr : NoPr pr) (l : List Term) (hpar : ∀ x ∈ l, x.kind = 3 ∧ x.args = []) (b B2 B3 : Nat) (t : Term) (k : Int) (ha : t.args.length ≤ 8) (hn : t.kind = 4 → 0 ≤ t.n) : ∀ σ, putS o z l b B2 B3 σ →
    EvF look pr (.func (.func 67) [] [.ptr B2 0, .ptr B3 0]) [encT t, .int .i64 k] σ (.still (.ret (encT (putHd l t k)))) := by
  refine EvO (L := look) (pr := pr) (g := 67) (fn := fl67) (fs := []) (args := [encT t, .int .i64 k]) (cs := [.ptr B2 0, .ptr B3 0]) (v := encT (putHd l t k)) (S := putS o z l b B2 B3) fn67 (hpr.at rfl) ⟨Nat.le_of_ble_eq_true rfl, Nat.le_of_ble_eq_true rfl⟩ (by simp [LV.refsOK, LV.argC, LV.canonA, LV.disown, LV.refOK]) (by rw [encT_eq]; rfl) (encT_good _) (by rw [encT_eq]; simp) (fun σ ws h => putS_low σ _ (fun b _ => rfl) h) ?_
  intro σ0 hS0 hws
  have hFo : Fo σ0 σ0 := Fo.refl hws
  have h2 := hS0.1
  have h3 := hS0.2
  generalize hfin : (endM look fl67.results fun out σ' => out.fin = .ret (encT (putHd l t k)) ∧ Fo σ0 σ') = QQ
  show WS look pr false 29 [] (bodyOf f67) _ _ _
  simp only [bodyOf, f67]
  refine WS_reg fun K gs P hK hgs hP => ?_
  refine o_box rfl rfl zT fT rT ?_
  refine o_al rfl zr25 rfl rfl ?_
  refine o_nil (hK _ _ ?_); (try clear hK hP hgs K gs P)
  refine WS_seq ?_
  refine WS_regB (l1 := [(1, _), (2, _), (3, _), (4, _), (6, _)]) (sub_cons rfl (sub_cons rfl (sub_cons rfl (sub_cons rfl (sub_cons rfl (sub_nil)))))) 16 ((t.kind == 4) && decide (t.n < (l.length : Int))) (fun K gs P hK hgs hP => ?_) ?_
  ·
    have s3 : gs 3 = some 10 := by rw [hgs]; rfl
    refine o_fa rfl rfl fa25_0 ?_
    refine o_ld rfl rfl (ldb (box_push_of (box_push)) (pl3.trans cT0)) ?_
    refine o_bin rfl rfl rfl eql_int ?_
    refine o_mv rfl rfl ?_
    refine o_split 10 rfl (fun e10 => ?_) (fun e10 => ?_)
    ·
      refine o_yes rfl s3 rfl (o_fa rfl rfl fa25_1 ?_)
      refine o_yes rfl s3 rfl (o_ld rfl rfl (ldb (box_push_of (box_push)) (pl3.trans cT1)) ?_)
      refine o_yes rfl s3 rfl (o_ld rfl rfl (ldb (box_push_of (box_push_of h2)) (pl23.trans rfl)) ?_)
      refine o_yes rfl s3 rfl (o_len rfl rfl rfl lT ?_)
      refine o_yes rfl s3 rfl (o_bin rfl rfl rfl lss_int ?_)
      refine o_pick rfl rfl rfl ?_
      exact o_nil (hK _ (by (show some (LV.bool _) = some (LV.bool _); refine congrArg (fun b => some (LV.bool b)) ?_; first | (simp_all; done) | (simp_all; intros; omega))) (sub_cons rfl (sub_cons rfl (sub_cons rfl (sub_cons rfl (sub_cons rfl (sub_nil)))))))
    ·
      refine o_no rfl rfl rfl s3 rfl ?_
      refine o_no rfl rfl rfl s3 rfl ?_
      refine o_no rfl rfl rfl s3 rfl ?_
      refine o_no rfl rfl rfl s3 rfl ?_
      refine o_no rfl rfl rfl s3 rfl ?_
      refine o_pick rfl rfl rfl ?_
      exact o_nil (hK _ (by (show some (LV.bool _) = some (LV.bool _); refine congrArg (fun b => some (LV.bool b)) ?_; first | (simp_all; done) | (simp_all; intros; omega))) (sub_cons rfl (sub_cons rfl (sub_cons rfl (sub_cons rfl (sub_cons rfl (sub_nil)))))))
  refine WS_cond rfl (fun hb => ?_) (fun hb => ?_)
  ·
    simp only [Bool.and_eq_true, beq_iff_eq, decide_eq_true_eq] at hb
    obtain ⟨c1, c2⟩ := hb
    obtain ⟨n, hn'⟩ : ∃ n : Nat, t.n = n := ⟨t.n.toNat, by have := hn c1; omega⟩
    have hlt : n < l.length := by omega
    obtain ⟨x, hx, hxm, _, _⟩ := take_one hlt
    have hp := hpar x hxm
    have hput : putHd l t k = .mk x.kind x.n x.name (x.args ++ t.args) := by rw [putHd, if_pos (by rw [c1]; rfl), hn', Int.toNat_natCast, hx]
    refine WS_draw rfl fun K gs P hK hgs => ?_
    refine d_ld rfl (o_ld rfl rfl (ldb (box_push_of (box_push_of h3)) (pl104.trans rfl)) (o_nil ?_))
    refine d_ld rfl (o_ld rfl rfl (ldb (box_push_of (box_push_of h2)) (pl23.trans rfl)) (o_nil ?_))
    refine d_p rfl rfl rfl (fun _ => rfl) (o_fa rfl rfl fa25_1 (o_nil ?_))
    refine d_ld rfl (o_ld rfl rfl (ldb (box_push_of (box_push)) (pl3.trans cT1)) (o_nil ?_))
    refine d_p rfl rfl rfl (fun _ => rfl) (o_ia rfl rfl rfl (by rw [hn']; exact iT hx) (o_nil ?_))
    refine d_lr rfl (o_ld rfl rfl (ldr wT) (o_nil ?_))
    refine d_p rfl rfl rfl (fun _ => rfl) (o_mv rfl rfl (o_nil ?_))
    refine d_call rfl (.cons rfl (.cons rfl (.cons rfl .nil))) (shifted_ok hpr x hp.1 hp.2 k 0) ?_
    refine d_p rfl rfl rfl (fun _ => rfl) (o_fa rfl rfl fa25_3 (o_nil ?_))
    refine d_ld rfl (o_ld rfl rfl (ldb (box_push_of (box_push)) (pl23.trans cT3)) (o_nil ?_))
    refine d_callv rfl rfl (.cons rfl (.cons rfl (.cons rfl .nil))) (apply_ok hpr b x (by rw [hp.1]; decide) t.args (by rw [hp.2]; simpa using ha) _) ?_
    refine d_st rfl (o_st rfl rfl (store_box box_push sz25 (encT_wd _) (Nat.le_of_ble_eq_true rfl) (encT_flat _) rT) (o_nil ?_))
    refine d_nil (hK _ _ _ (by kernel_rfl) ?_); (try clear hK hgs K gs P)
    refine WS_ret fun tm ht => ?_
    (try simp only [thenQ, blockQ]); rw [← hfin]
    refine endM_cell ht rfl .nil (ldb (box_upd' box_push) (show partL look 25 _ _ = some (encT (.mk x.kind x.n x.name (x.args ++ t.args))) by rw [pl25, encT_cells, encT_eq]; rfl)) ⟨by rw [hput, encT_eq]; rfl, hFo.push.push.upd (by rw [push_len]; omega)⟩
  ·
    refine WS_skip fun tm ht => ?_
    simp only [thenQ, blockQ, if_true]; refine WS_of ?_ ht; clear ht tm
    refine WS_reg fun K gs P hK hgs hP => ?_
    refine o_ld rfl rfl (ldb (box_push_of (box_push)) wT) ?_
    refine o_st rfl rfl (store_box box_push sz25 (encT_wd _) (Nat.le_of_ble_eq_true rfl) (encT_flat _) rT) ?_
    refine o_nil (hK _ _ ?_); (try clear hK hP hgs K gs P)
    refine WS_ret fun tm ht => ?_
    (try simp only [thenQ, blockQ]); rw [← hfin]
    have hput : putHd l t k = t := by
      rw [putHd]
      split
      · rename_i c1
        rw [c1, Bool.true_and] at hb
        have c2 := of_decide_eq_false hb
        rw [List.getElem?_eq_none (by omega)]
      · rfl
    refine endM_cell ht rfl .nil (ldb (box_upd' box_push) (show partL look 25 _ _ = some (encT t) by rw [pl25, encT_cells, encT_eq]; rfl)) ⟨by rw [hput, encT_eq]; rfl, hFo.push.push.upd (by rw [push_len]; omega)⟩
end Go.Lg
end
