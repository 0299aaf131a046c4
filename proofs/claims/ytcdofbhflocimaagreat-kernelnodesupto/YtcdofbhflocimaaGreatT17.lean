/- Part 17 of the proof: Lt T1 C1 C2 T2 C3 C4 C5 C6 C7 C8. By AI agents; no person has read it. -/
import Derived.KernelRfl
import Derived.Test.YtcdofbhflocimaaGreatT15
import Derived.Test.YtcdofbhflocimaaGreatT5
import Derived.Test.YtcdofbhflocimaaGreatT16
set_option linter.unusedVariables false
set_option linter.unusedSimpArgs false
set_option linter.unusedSectionVars false
section
set_option maxRecDepth 100000
namespace Go.Lg
instance plLook : Pl look := ⟨fun _ => rfl, fun _ _ => rfl⟩
theorem sz3 : sizeL look 3 = some 1 := by kernel_rfl
theorem pl3 {cs : List LV} {o : Nat} : partL look 3 cs o = cs[o]? := by kernel_rfl
theorem sz4 : sizeL look 4 = some 1 := by kernel_rfl
theorem pl4 {cs : List LV} {o : Nat} : partL look 4 cs o = cs[o]? := by kernel_rfl
theorem sz5 : sizeL look 5 = some 1 := by kernel_rfl
theorem pl5 {cs : List LV} {o : Nat} : partL look 5 cs o = cs[o]? := by kernel_rfl
theorem pl9 {cs : List LV} {o : Nat} : partL look 9 cs o = cs[o]? := by kernel_rfl
theorem us9 : look.und 9 = some .string := by kernel_rfl
theorem sz22 : sizeL look 22 = some 1 := by kernel_rfl
theorem pl22 {cs : List LV} {o : Nat} : partL look 22 cs o = cs[o]? := by kernel_rfl
theorem ud22 : look.und 22 = some (.slice 3) := by kernel_rfl
theorem sz23 : sizeL look 23 = some 1 := by kernel_rfl
theorem pl23 {cs : List LV} {o : Nat} : partL look 23 cs o = cs[o]? := by kernel_rfl
theorem ud23 : look.und 23 = some (.slice 25) := by kernel_rfl
theorem sz25 : sizeL look 25 = some 4 := by kernel_rfl
theorem pl25 {cs : List LV} {o : Nat} : partL look 25 cs o = if o + 4 ≤ cs.length then some (.agg ((cs.drop o).take 4)) else none := by kernel_rfl
theorem fa25_0 {b o : Nat} : fieldAddrL look 25 (.ptr b o) 0 = some (.ptr b (o + 0)) := by kernel_rfl
theorem fa25_1 {b o : Nat} : fieldAddrL look 25 (.ptr b o) 1 = some (.ptr b (o + 1)) := by kernel_rfl
theorem fa25_2 {b o : Nat} : fieldAddrL look 25 (.ptr b o) 2 = some (.ptr b (o + 2)) := by kernel_rfl
theorem fa25_3 {b o : Nat} : fieldAddrL look 25 (.ptr b o) 3 = some (.ptr b (o + 3)) := by kernel_rfl
theorem sz26 : sizeL look 26 = some 1 := by kernel_rfl
theorem pl26 {cs : List LV} {o : Nat} : partL look 26 cs o = cs[o]? := by kernel_rfl
theorem ud26 : look.und 26 = some (.slice 64) := by kernel_rfl
theorem sz27 : sizeL look 27 = some 1 := by kernel_rfl
theorem pl27 {cs : List LV} {o : Nat} : partL look 27 cs o = cs[o]? := by kernel_rfl
theorem ud27 : look.und 27 = some (.slice 62) := by kernel_rfl
theorem sz28 : sizeL look 28 = some 1 := by kernel_rfl
theorem pl28 {cs : List LV} {o : Nat} : partL look 28 cs o = cs[o]? := by kernel_rfl
theorem ud28 : look.und 28 = some (.slice 30) := by kernel_rfl
theorem sz30 : sizeL look 30 = some 10 := by kernel_rfl
theorem pl30 {cs : List LV} {o : Nat} : partL look 30 cs o = if o + 10 ≤ cs.length then some (.agg ((cs.drop o).take 10)) else none := by kernel_rfl
theorem fa30_0 {b o : Nat} : fieldAddrL look 30 (.ptr b o) 0 = some (.ptr b (o + 0)) := by kernel_rfl
theorem fa30_1 {b o : Nat} : fieldAddrL look 30 (.ptr b o) 1 = some (.ptr b (o + 1)) := by kernel_rfl
theorem fa30_2 {b o : Nat} : fieldAddrL look 30 (.ptr b o) 2 = some (.ptr b (o + 2)) := by kernel_rfl
theorem fa30_3 {b o : Nat} : fieldAddrL look 30 (.ptr b o) 3 = some (.ptr b (o + 3)) := by kernel_rfl
theorem fa30_4 {b o : Nat} : fieldAddrL look 30 (.ptr b o) 4 = some (.ptr b (o + 7)) := by kernel_rfl
theorem fa30_5 {b o : Nat} : fieldAddrL look 30 (.ptr b o) 5 = some (.ptr b (o + 8)) := by kernel_rfl
theorem fa30_6 {b o : Nat} : fieldAddrL look 30 (.ptr b o) 6 = some (.ptr b (o + 9)) := by kernel_rfl
theorem ud31 : look.und 31 = some (.slice 5) := by kernel_rfl
theorem sz32 : sizeL look 32 = some 2 := by kernel_rfl
theorem sz34 : sizeL look 34 = some 1 := by kernel_rfl
theorem pl34 {cs : List LV} {o : Nat} : partL look 34 cs o = cs[o]? := by kernel_rfl
theorem sz62 : sizeL look 62 = some 3 := by kernel_rfl
theorem pl62 {cs : List LV} {o : Nat} : partL look 62 cs o = if o + 3 ≤ cs.length then some (.agg ((cs.drop o).take 3)) else none := by kernel_rfl
theorem fa62_0 {b o : Nat} : fieldAddrL look 62 (.ptr b o) 0 = some (.ptr b (o + 0)) := by kernel_rfl
theorem fa62_1 {b o : Nat} : fieldAddrL look 62 (.ptr b o) 1 = some (.ptr b (o + 1)) := by kernel_rfl
theorem fa62_2 {b o : Nat} : fieldAddrL look 62 (.ptr b o) 2 = some (.ptr b (o + 2)) := by kernel_rfl
theorem sz64 : sizeL look 64 = some 6 := by kernel_rfl
theorem pl64 {cs : List LV} {o : Nat} : partL look 64 cs o = if o + 6 ≤ cs.length then some (.agg ((cs.drop o).take 6)) else none := by kernel_rfl
theorem fa64_0 {b o : Nat} : fieldAddrL look 64 (.ptr b o) 0 = some (.ptr b (o + 0)) := by kernel_rfl
theorem fa64_1 {b o : Nat} : fieldAddrL look 64 (.ptr b o) 1 = some (.ptr b (o + 1)) := by kernel_rfl
theorem fa64_2 {b o : Nat} : fieldAddrL look 64 (.ptr b o) 2 = some (.ptr b (o + 5)) := by kernel_rfl
theorem sz69 : sizeL look 69 = some 1 := by kernel_rfl
theorem pl69 {cs : List LV} {o : Nat} : partL look 69 cs o = cs[o]? := by kernel_rfl
theorem sz70 : sizeL look 70 = some 1 := by kernel_rfl
theorem pl70 {cs : List LV} {o : Nat} : partL look 70 cs o = cs[o]? := by kernel_rfl
theorem sz92 : sizeL look 92 = some 14 := by kernel_rfl
theorem ua92 : look.und 92 = some (.array 14 3) := by kernel_rfl
theorem sz104 : sizeL look 104 = some 1 := by kernel_rfl
theorem pl104 {cs : List LV} {o : Nat} : partL look 104 cs o = cs[o]? := by kernel_rfl
theorem sz106 : sizeL look 106 = some 1 := by kernel_rfl
theorem zr3 : zeroLV look 3 = some (.int .i64 0) := by kernel_rfl
theorem zr4 : zeroLV look 4 = some (.bool false) := by kernel_rfl
theorem zr25 : zeroLV look 25 = some (.agg [.int .i64 0, .int .i64 0, .str ⟨#[]⟩, .slice [] .exact (some true)]) := by kernel_rfl
theorem zr30 : zeroLV look 30 = some (.agg [.int .i64 0, .int .i64 0, .slice [] .exact (some true), .int .i64 0, .int .i64 0, .str ⟨#[]⟩, .slice [] .exact (some true), .slice [] .exact (some true), .slice [] .exact (some true), .slice [] .exact (some true)]) := by kernel_rfl
theorem zr34 : zeroLV look 34 = some (.int .i64 0) := by kernel_rfl
theorem zr62 : zeroLV look 62 = some (.agg [.int .i64 0, .slice [] .exact (some true), .slice [] .exact (some true)]) := by kernel_rfl
theorem zr64 : zeroLV look 64 = some (.agg [.int .i64 0, .int .i64 0, .int .i64 0, .str ⟨#[]⟩, .slice [] .exact (some true), .slice [] .exact (some true)]) := by kernel_rfl
theorem zr69 : zeroLV look 69 = some (.nilFunc) := by kernel_rfl
theorem zr70 : zeroLV look 70 = some (.nilFunc) := by kernel_rfl
theorem zr92 : zeroLV look 92 = some (.agg [.int .i64 0, .int .i64 0, .int .i64 0, .int .i64 0, .int .i64 0, .int .i64 0, .int .i64 0, .int .i64 0, .int .i64 0, .int .i64 0, .int .i64 0, .int .i64 0, .int .i64 0, .int .i64 0]) := by kernel_rfl
end Go.Lg
end
section
namespace Go.Lg
def NoPr (pr : Prim) : Prop := ∀ g, (Nat.beq g 4 || Nat.beq g 54) = false → ∀ l σ, pr g l σ = none
theorem NoPr.at {pr : Prim} (h : NoPr pr) {g : FuncId} (hg : (Nat.beq g 4 || Nat.beq g 54) = false) : ∀ l σ, pr g l σ = none := h g hg
theorem cT0 {t : Term} : (encT t).cells[0]? = some (.int .i64 t.kind) := by rw [encT_cells]; rfl
theorem cT1 {t : Term} : (encT t).cells[1]? = some (.int .i64 t.n) := by rw [encT_cells]; rfl
theorem cT2 {t : Term} : (encT t).cells[2]? = some (.str t.name) := by rw [encT_cells]; rfl
theorem cT3 {t : Term} : (encT t).cells[3]? = some (.slice (t.args.map encT) .none none) := by rw [encT_cells]; rfl
theorem gT {t : Term} : (encT t).Good ∧ (encT t).argC = encT t := ⟨encT_good t, encT_argC t⟩
theorem zT {t : Term} : sizeL look 25 = some (encT t).wd := by rw [encT_wd]; exact sz25
theorem fT {t : Term} : (encT t).flat = true := encT_flat t
theorem rT {t : Term} : (encT t).refOK 0 = true := (encT_good t).ref 0
theorem wT {t : Term} : partL look 25 (encT t).cells 0 = some (encT t) := by rw [pl25, encT_cells, encT_eq]; rfl
theorem stT {σ : LH} {t : Term} : storeL look (σ.push (.cells 25 [.int .i64 0, .int .i64 0, .str ⟨#[]⟩, .slice [] .exact (some true)])) 25 (.ptr σ.len 0) (encT t) = some (σ.put 25 (encT t).cells) :=
  stn zT (by rw [encT_wd]; rfl) fT rT
theorem iT {xs : List Term} {own : Own} {nz : Option Bool} {k : IntKind} {i : Nat} {x : Term} (hx : xs[i]? = some x) : indexAddrL look 23 (.slice (xs.map encT) own nz) (.int k i) = some (.ro (encT x).cells) :=
  index_slice ud23 (by rw [List.getElem?_map, hx]; rfl) (by rw [encT_wd]; exact sz25)
theorem lT {xs : List Term} {own : Own} {nz : Option Bool} : lenL look 23 (.slice (xs.map encT) own nz) = some (.int .i64 xs.length) := by
  rw [len_slice ud23, List.length_map]
theorem take_one {α : Type} {xs : List α} {i : Nat} (hi : i < xs.length) : ∃ x, xs[i]? = some x ∧ x ∈ xs ∧ xs.take (i + 1) = xs.take i ++ [x] ∧ xs.drop i = x :: xs.drop (i + 1) :=
  ⟨xs[i], by simp [hi], List.getElem_mem hi, by rw [List.take_add_one]; simp [hi], List.drop_eq_getElem_cons hi⟩
end Go.Lg
end
section
set_option linter.unusedSimpArgs false
set_option maxRecDepth 20000
namespace Go.Lg
open Go.Proofs.Tryz
variable {pr : Prim}
def deepT : Term → Int → Bool
  | .mk k n s l, m => m == 0 || anyDeep l (m - 1)
  where anyDeep : List Term → Int → Bool
  | [], _ => false
  | x :: xs, m => deepT x m || anyDeep xs m
theorem anyDeep_eq (l : List Term) (m : Int) : deepT.anyDeep l m = l.any fun x => deepT x m := by
  induction l with
  | nil => rfl
  | cons x xs ih => rw [deepT.anyDeep, ih]; rfl
theorem deepT_eq (t : Term) (m : Int) : deepT t m = (m == 0 || t.args.any fun x => deepT x (m - 1)) := by
  cases t with
  | mk k n s l => rw [deepT, anyDeep_eq]; rfl
theorem fn45 : look.fnOf 45 = some fl45 := by kernel_rfl
theorem deeper_ok (hpr : ∀ l σ, pr 45 l σ = none) : ∀ (t : Term), t.Small → ∀ (m : Int), 0 ≤ m → m ≤ 1000000 → Ret look pr 45 [encT t, .int .i64 m] (.bool (deepT t m)) := by
  refine Term.ind fun t ih hsm m h0 h1 => ?_
  refine Ret.of (fn := fl45) fn45 hpr ⟨by show 2 ≤ 21; decide, by show 21 < 511; decide⟩ (gargs_cons gT (gargs_cons gint gargs_nil)) good_bool (by simp) ?_
  show WS look pr false 21 [] (bodyOf f45) _ _ _
  simp only [bodyOf, f45]
  refine WS_reg fun K gs P hK hgs hP => ?_
  refine o_box rfl rfl zT fT rT ?_
  refine o_as rfl rfl ?_
  refine o_nil (hK _ _ ?_); clear hK hP hgs K gs P
  refine WS_seq ?_
  refine WS_reg fun K gs P hK hgs hP => ?_
  refine o_mv rfl rfl ?_
  refine o_bin rfl rfl rfl eql_int ?_
  refine o_nil (hK _ _ ?_); clear hK hP hgs K gs P
  refine WS_cond rfl (fun hb => ?_) (fun hb => ?_)
  · refine WS_reg fun K gs P hK hgs hP => ?_
    refine o_as rfl rfl ?_
    refine o_nil (hK _ _ ?_); clear hK hP hgs K gs P
    refine WS_ret fun tm ht => ?_
    (try simp only [thenQ, blockQ]); refine endQ_tmp ht rfl ?_
    rw [deepT_eq, hb]; rfl
  · refine WS_skip fun tm ht => ?_
    simp only [thenQ, blockQ, if_true]; refine WS_of ?_ ht; clear ht tm
    refine WS_seq ?_
    refine WS_reg fun K gs P hK hgs hP => ?_
    refine o_fa rfl rfl fa25_3 ?_
    refine o_ld rfl rfl (ldb box_push (pl23.trans cT3)) ?_
    refine o_len rfl rfl rfl lT ?_
    refine o_mv rfl rfl ?_
    refine o_nil (hK _ _ ?_); clear hK hP hgs K gs P
    refine WS_block ?_
    refine WS.weaken (l0 := [(12, _), (11, _), (1, _), (10, _)]) (sub_cons rfl (sub_cons rfl (sub_cons rfl (sub_cons rfl (sub_nil))))) ?_
    refine WS_range (n := t.args.length) (fun i l σ => l = [(12, .int .i64 i), (11, .int .i64 (t.args.length : Nat)), (1, .int .i64 m), (10, .slice (t.args.map encT) .none none)] ∧ ∀ x ∈ t.args.take i, deepT x (m - 1) = false) (fun i l σ h => by obtain ⟨rfl, h⟩ := h; exact ⟨rfl, rfl⟩) rfl rfl rfl rfl (by have := (Term.small_iff t).1 hsm |>.1; omega) ?_ ?_ t.args.length 0 _ _ (by omega) ⟨rfl, fun x hx => by simp at hx⟩
    · rintro i l σ hi ⟨rfl, HI⟩
      obtain ⟨x, hx, hmem, htake, _⟩ := take_one hi
      have hw : IntKind.i64.wrap (m - 1) = m - 1 := wrap_in (by omega) (by omega)
      have hm : 0 ≤ m - 1 := by have : m ≠ 0 := by simpa using hb
                                omega
      refine WS_block ?_
      refine WS_reg fun K gs P hK hgs hP => ?_
      refine o_ia rfl rfl rfl (iT hx) ?_
      refine o_ld rfl rfl (ldr wT) ?_
      refine o_al rfl zr25 rfl rfl ?_
      refine o_st rfl rfl stT ?_
      refine o_nil (hK _ _ ?_); clear hK hP hgs K gs P
      refine WS_reg fun K gs P hK hgs hP => ?_
      refine o_ld rfl rfl (ldb box_put wT) ?_
      refine o_mv rfl rfl ?_
      refine o_bin rfl rfl rfl sub_int ?_
      rw [hw]
      refine o_call rfl (.cons rfl (.cons rfl .nil)) (ih x hmem ((Term.small_iff t).1 hsm |>.2 x hmem) (m - 1) hm (by omega)) ?_
      refine o_nil (hK _ _ ?_); clear hK hP hgs K gs P
      refine WS_cond rfl (fun hc => ?_) (fun hc => ?_)
      · refine WS_reg fun K gs P hK hgs hP => ?_
        refine o_as rfl rfl ?_
        refine o_nil (hK _ _ ?_); clear hK hP hgs K gs P
        refine WS_ret fun tm ht => ?_
        (try simp only [thenQ, blockQ]); refine endQ_tmp ht rfl ?_
        have : (t.args.any fun x => deepT x (m - 1)) = true := List.any_eq_true.2 ⟨x, hmem, hc⟩
        rw [deepT_eq, hb, this]; rfl
      · refine WS_skip fun tm ht => ?_
        (try simp only [thenQ, blockQ]); exact RoundTo.mk ht (l' := [(12, _), (11, _), (1, _), (10, _)]) (sub_cons rfl (sub_cons rfl (sub_cons rfl (sub_cons rfl (sub_nil))))) ⟨rfl, _, sub_cons rfl (sub_cons rfl (sub_cons rfl (sub_cons rfl (sub_nil)))), rfl, fun y hy => by
          rw [htake] at hy
          rcases List.mem_append.1 hy with h | h
          · exact HI y h
          · rw [List.mem_singleton.1 h]; exact hc⟩
    · rintro l σ ⟨rfl, HI⟩ tm ht
      simp only [thenQ, blockQ, if_true]; refine WS_of ?_ ht; clear ht tm
      refine WS_reg fun K gs P hK hgs hP => ?_
      refine o_as rfl rfl ?_
      refine o_nil (hK _ _ ?_); clear hK hP hgs K gs P
      refine WS_ret fun tm ht => ?_
      (try simp only [thenQ, blockQ]); refine endQ_tmp ht rfl ?_
      have : (t.args.any fun x => deepT x (m - 1)) = false := List.any_eq_false.2 fun x hx => by rw [HI x (by rw [List.take_length]; exact hx)]; simp
      rw [deepT_eq, hb, this]; rfl
end Go.Lg
end
section
set_option linter.unusedSimpArgs false
set_option maxRecDepth 20000
namespace Go.Lg
open Go.Proofs.Tryz
variable {pr : Prim}
mutual
def nodesT : Term → Int → Int → Int → Int
  | .mk k n s l, sum, most, lv => nodesL l (sum + 1) most lv
def nodesL : List Term → Int → Int → Int → Int
  | [], s, _, _ => s
  | x :: xs, s, most, lv => if s ≤ most ∧ 1 < lv then nodesL xs (nodesT x s most (lv - 1)) most lv else s
end
theorem nodesT_eq (t : Term) (sum most lv : Int) : nodesT t sum most lv = nodesL t.args (sum + 1) most lv := by
  cases t with
  | mk k n s l => rw [nodesT]; rfl
theorem nodesL_stop (l : List Term) (s most lv : Int) (h : ¬ (s ≤ most ∧ 1 < lv)) : nodesL l s most lv = s := by
  cases l with
  | nil => rw [nodesL]
  | cons x xs => rw [nodesL, if_neg h]
theorem nodesL_le (most lv : Int) : ∀ (l : List Term), (∀ x ∈ l, ∀ (s lv : Int), s ≤ most → s + 1 ≤ nodesT x s most lv ∧ nodesT x s most lv ≤ most + 1) → ∀ s, s ≤ most + 1 → s ≤ nodesL l s most lv ∧ nodesL l s most lv ≤ most + 1
  | [], _, s, h => by rw [nodesL]; omega
  | x :: xs, hx, s, h => by
    rw [nodesL]
    split
    · rename_i hc
      have h1 := hx x (by simp) s (lv - 1) hc.1
      have h2 := nodesL_le most lv xs (fun y hy => hx y (by simp [hy])) _ h1.2
      omega
    · omega
theorem nodesT_le : ∀ (t : Term) (s most lv : Int), s ≤ most → s + 1 ≤ nodesT t s most lv ∧ nodesT t s most lv ≤ most + 1 := by
  refine Term.ind fun t ih s most lv h => ?_
  rw [nodesT_eq]
  exact nodesL_le most lv t.args (fun x hx s lv hs => ih x hx s most lv hs) (s + 1) (by omega)
theorem fn42 : look.fnOf 42 = some fl42 := by kernel_rfl
theorem nodes_ok (hpr : ∀ l σ, pr 42 l σ = none) : ∀ (t : Term), t.Small → ∀ (s most lv : Int), -1000000 ≤ s → s ≤ most → most ≤ 1073741824 → -1000000 ≤ lv → lv ≤ 1073741824 →
    Ret look pr 42 [encT t, .int .i64 s, .int .i64 most, .int .i64 lv] (.int .i64 (nodesT t s most lv)) := by
  refine Term.ind fun t ih hsm s most lv h1 h2 h3 h4 h5 => ?_
  refine Ret.of (fn := fl42) fn42 hpr ⟨by show 4 ≤ 39; decide, by show 39 < 511; decide⟩ (gargs_cons gT (gargs_cons gint (gargs_cons gint (gargs_cons gint gargs_nil)))) good_int (by simp) ?_
  show WS look pr false 39 [] (bodyOf f42) _ _ _
  simp only [bodyOf, f42]
  have hw : IntKind.i64.wrap (s + 1) = s + 1 := wrap_in (by omega) (by omega)
  refine WS_reg fun K gs P hK hgs hP => ?_
  refine o_box rfl rfl zT fT rT ?_
  refine o_as rfl rfl ?_
  refine o_nil (hK _ _ ?_); clear hK hP hgs K gs P
  refine WS_reg fun K gs P hK hgs hP => ?_
  refine o_mv rfl rfl ?_
  refine o_bin rfl rfl rfl add_int ?_
  refine o_as rfl rfl ?_
  refine o_nil (hK _ _ ?_); clear hK hP hgs K gs P
  rw [hw]
  refine WS_seq ?_
  refine WS_reg fun K gs P hK hgs hP => ?_
  refine o_as rfl rfl ?_
  refine o_nil (hK _ _ ?_); clear hK hP hgs K gs P
  refine WS_block ?_
  refine WS.weaken (l0 := [(1, _), (2, _), (3, _), (4, _), (9, _)]) (sub_cons rfl (sub_cons rfl (sub_cons rfl (sub_cons rfl (sub_cons rfl (sub_nil)))))) ?_
  refine WS_loop (fun k l σ => ∃ (i : Nat) (v : Int), k = t.args.length - i ∧ l = [(1, .int .i64 v), (2, .int .i64 most), (3, .int .i64 lv), (4, .ptr LH.new.len 0), (9, .int .i64 i)] ∧ i ≤ t.args.length ∧ s + 1 ≤ v ∧ v ≤ most + 1 ∧ boxOf σ LH.new.len = some (25, (encT t).cells) ∧ nodesL (t.args.drop i) v most lv = nodesT t s most lv) ?_ (t.args.length) _ _ ⟨0, _, rfl, rfl, Nat.zero_le _, Int.le_refl _, by omega, box_push, by rw [nodesT_eq]; rfl⟩
  rintro k l σ ⟨i, v, rfl, rfl, hi, hv0, hv1, hb4, hN⟩
  refine WS_seq ?_
  refine WS_regM [(25, .bool (decide ((i : Int) < (t.args.length : Int)) && decide (v ≤ most) && decide (lv > 1))), (1, .int .i64 v), (2, .int .i64 most), (3, .int .i64 lv), (4, .ptr LH.new.len 0), (9, .int .i64 i)] σ ?_ fun K gs P hK hgs hP => ?_
  case refine_2 =>
    have s5 : gs 5 = some 17 := by rw [hgs]; rfl
    have s10 : gs 10 = some 22 := by rw [hgs]; rfl
    refine o_mv rfl rfl ?_
    refine o_fa rfl rfl fa25_3 ?_
    refine o_ld rfl rfl (ldb hb4 (pl23.trans cT3)) ?_
    refine o_len rfl rfl rfl lT ?_
    refine o_bin rfl rfl rfl lss_int ?_
    refine o_mv rfl rfl ?_
    cases e1 : decide ((i : Int) < (t.args.length : Int))
    · refine o_no rfl rfl rfl s5 rfl ?_
      refine o_no rfl rfl rfl s5 rfl ?_
      refine o_no rfl rfl rfl s5 rfl ?_
      refine o_pick rfl rfl rfl ?_
      refine o_mv rfl rfl ?_
      refine o_no rfl rfl rfl s10 rfl ?_
      refine o_no rfl rfl rfl s10 rfl ?_
      refine o_pick rfl rfl rfl ?_
      exact o_nil (hK _ (sub_cons (by rw [e1]; rfl) (sub_cons rfl (sub_cons rfl (sub_cons rfl (sub_cons rfl (sub_cons rfl sub_nil)))))))
    · refine o_yes rfl s5 rfl (o_mv rfl rfl ?_)
      refine o_yes rfl s5 rfl (o_mv rfl rfl ?_)
      refine o_yes rfl s5 rfl (o_bin rfl rfl rfl leq_int ?_)
      refine o_pick rfl rfl rfl ?_
      refine o_mv rfl rfl ?_
      cases e2 : decide (v ≤ most)
      · refine o_no rfl rfl rfl s10 rfl ?_
        refine o_no rfl rfl rfl s10 rfl ?_
        refine o_pick rfl rfl rfl ?_
        exact o_nil (hK _ (sub_cons (by rw [e1, e2]; rfl) (sub_cons rfl (sub_cons rfl (sub_cons rfl (sub_cons rfl (sub_cons rfl sub_nil)))))))
      · refine o_yes rfl s10 rfl (o_mv rfl rfl ?_)
        refine o_yes rfl s10 rfl (o_bin rfl rfl rfl gtr_int ?_)
        refine o_pick rfl rfl rfl ?_
        exact o_nil (hK _ (sub_cons (by rw [e1, e2]; rfl) (sub_cons rfl (sub_cons rfl (sub_cons rfl (sub_cons rfl (sub_cons rfl sub_nil)))))))
  have fin : ∀ {σ : LH} {l : List (Nat × LV)} {tm : Tm}, SL tm 39 l → lk l 1 = some (.int .i64 (nodesT t s most lv)) → WC look pr false ((Code.region 6 #[{ dst := some 38, op := Op.move (Operand.tmp 1), type := 3, pos := "term.go:63", after := #[], guard := none }, { dst := some 8, op := Op.assign (Operand.tmp 38), type := 3, pos := "term.go:63", after := #[{ on := 0, ground := Ground.data }, { on := 0, ground := Ground.phase }], guard := none }] false).seq Code.ret) ⟨tm, []⟩ σ (endQ look fl42.results fun out σ' => out.fin = LOut.ret (LV.int IntKind.i64 (nodesT t s most lv))) := fun {σ l tm} ht h1 => by
    refine WS_of ?_ ht
    refine WS_reg fun K gs P hK hgs hP => ?_
    refine o_mv rfl h1 ?_
    refine o_as rfl rfl ?_
    refine o_nil (hK _ _ ?_); clear hK hP hgs K gs P
    refine WS_ret fun tm ht => ?_
    exact endQ_tmp ht rfl rfl
  refine WS_cond rfl (fun hb => ?_) (fun hb => ?_)
  · simp only [Bool.and_eq_true, decide_eq_true_eq] at hb
    obtain ⟨⟨c1, c2⟩, c3⟩ := hb
    have hi' : i < t.args.length := by omega
    obtain ⟨x, hx, hmem, _, hdrop⟩ := take_one hi'
    have hw1 : IntKind.i64.wrap (lv - 1) = lv - 1 := wrap_in (by omega) (by omega)
    have hl := (Term.small_iff t).1 hsm |>.1
    have hw2 : IntKind.i64.wrap ((i : Int) + 1) = ((i + 1 : Nat) : Int) := wrap_in (by omega) (by omega)
    have hle := nodesT_le x v most (lv - 1) c2
    refine WS_skip fun tm ht => ?_
    simp only [thenQ, blockQ, if_true]; refine WS_of ?_ ht; clear ht tm
    refine WS_seq ?_
    refine WS_block ?_
    refine WS_reg1 fun K gs P hK hgs hP => ?_
    refine o_fa rfl rfl fa25_3 ?_
    refine o_ld rfl rfl (ldb hb4 (pl23.trans cT3)) ?_
    refine o_mv rfl rfl ?_
    refine o_ia rfl rfl rfl (iT hx) ?_
    refine o_ld rfl rfl (ldr wT) ?_
    refine o_mv rfl rfl ?_
    refine o_mv rfl rfl ?_
    refine o_mv rfl rfl ?_
    refine o_bin rfl rfl rfl sub_int ?_
    rw [hw1]
    refine o_call rfl (.cons rfl (.cons rfl (.cons rfl (.cons rfl .nil)))) (ih x hmem ((Term.small_iff t).1 hsm |>.2 x hmem) v most (lv - 1) (by omega) c2 h3 (by omega) (by omega)) ?_
    refine o_as rfl rfl ?_
    refine o_nil (hK _ _ fun tm ht => ?_); clear hK hP hgs K gs P
    simp only [thenQ, blockQ, if_true]; refine WS_of ?_ ht; clear ht tm
    refine WS_reg1 fun K gs P hK hgs hP => ?_
    refine o_mv rfl rfl ?_
    refine o_bin rfl rfl rfl add_int ?_
    rw [hw2]
    refine o_as rfl rfl ?_
    refine o_nil (hK _ _ fun tm ht => ?_); clear hK hP hgs K gs P
    (try simp only [thenQ, blockQ]); exact RoundTo.mk ht (l' := [(1, _), (2, _), (3, _), (4, _), (9, _)]) (sub_cons rfl (sub_cons rfl (sub_cons rfl (sub_cons rfl (sub_cons rfl (sub_nil)))))) ⟨_, (by omega : t.args.length - (i + 1) < t.args.length - i), i + 1, _, rfl, rfl, by omega, by omega, hle.2, hb4, by rw [← hN, hdrop, nodesL, if_pos ⟨c2, by omega⟩]⟩
  · refine WS_exit fun tm ht => ?_
    simp only [thenQ, blockQ, if_true]
    refine fin ht ?_
    show some (LV.int IntKind.i64 v) = _
    have : nodesL (t.args.drop i) v most lv = v := by
      by_cases c1 : (i : Int) < (t.args.length : Int)
      · refine nodesL_stop _ _ _ _ fun hc => ?_
        rw [decide_eq_true c1, decide_eq_true hc.1, decide_eq_true (show lv > 1 from hc.2)] at hb
        cases hb
      · rw [List.drop_of_length_le (by omega), nodesL]
    rw [← hN, this]
end Go.Lg
end
section
namespace Go.Lg
theorem gP {p : Proof} : (encP p).Good ∧ (encP p).argC = encP p := ⟨encP_good p, encP_argC p⟩
theorem zP {p : Proof} : sizeL look 30 = some (encP p).wd := by rw [encP_wd]; exact sz30
theorem fP {p : Proof} : (encP p).flat = true := encP_flat p
theorem rP {p : Proof} {n : Nat} : (encP p).refOK n = true := (encP_good p).ref n
theorem wP {p : Proof} : partL look 30 (encP p).cells 0 = some (encP p) := by rw [pl30, encP_cells, encP_eq]; rfl
theorem stP {σ : LH} {p : Proof} : storeL look (σ.push (.cells 30 [.int .i64 0, .int .i64 0, .slice [] .exact (some true), .int .i64 0, .int .i64 0, .str ⟨#[]⟩, .slice [] .exact (some true), .slice [] .exact (some true), .slice [] .exact (some true), .slice [] .exact (some true)])) 30 (.ptr σ.len 0) (encP p) = some (σ.put 30 (encP p).cells) :=
  stn zP (by rw [encP_wd]; rfl) fP rP
theorem iP {xs : List Proof} {own : Own} {nz : Option Bool} {k : IntKind} {i : Nat} {x : Proof} (hx : xs[i]? = some x) : indexAddrL look 28 (.slice (xs.map encP) own nz) (.int k i) = some (.ro (encP x).cells) :=
  index_slice ud28 (by rw [List.getElem?_map, hx]; rfl) (by rw [encP_wd]; exact sz30)
theorem lP {xs : List Proof} {own : Own} {nz : Option Bool} : lenL look 28 (.slice (xs.map encP) own nz) = some (.int .i64 xs.length) := by
  rw [len_slice ud28, List.length_map]
theorem gU {p : Turn} : (encU p).Good ∧ (encU p).argC = encU p := ⟨encU_good p, encU_argC p⟩
theorem zU {p : Turn} : sizeL look 64 = some (encU p).wd := by rw [encU_wd]; exact sz64
theorem fU {p : Turn} : (encU p).flat = true := encU_flat p
theorem rU {p : Turn} {n : Nat} : (encU p).refOK n = true := (encU_good p).ref n
theorem wU {p : Turn} : partL look 64 (encU p).cells 0 = some (encU p) := by rw [pl64, encU_cells, encU_eq]; rfl
theorem stU {σ : LH} {p : Turn} : storeL look (σ.push (.cells 64 [.int .i64 0, .int .i64 0, .int .i64 0, .str ⟨#[]⟩, .slice [] .exact (some true), .slice [] .exact (some true)])) 64 (.ptr σ.len 0) (encU p) = some (σ.put 64 (encU p).cells) :=
  stn zU (by rw [encU_wd]; rfl) fU rU
theorem iU {xs : List Turn} {own : Own} {nz : Option Bool} {k : IntKind} {i : Nat} {x : Turn} (hx : xs[i]? = some x) : indexAddrL look 26 (.slice (xs.map encU) own nz) (.int k i) = some (.ro (encU x).cells) :=
  index_slice ud26 (by rw [List.getElem?_map, hx]; rfl) (by rw [encU_wd]; exact sz64)
theorem lU {xs : List Turn} {own : Own} {nz : Option Bool} : lenL look 26 (.slice (xs.map encU) own nz) = some (.int .i64 xs.length) := by
  rw [len_slice ud26, List.length_map]
theorem gM {p : Move} : (encM p).Good ∧ (encM p).argC = encM p := ⟨encM_good p, encM_argC p⟩
theorem zM {p : Move} : sizeL look 62 = some (encM p).wd := by rw [encM_wd]; exact sz62
theorem fM {p : Move} : (encM p).flat = true := encM_flat p
theorem rM {p : Move} {n : Nat} : (encM p).refOK n = true := (encM_good p).ref n
theorem wM {p : Move} : partL look 62 (encM p).cells 0 = some (encM p) := by rw [pl62, encM_cells, encM_eq]; rfl
theorem stM {σ : LH} {p : Move} : storeL look (σ.push (.cells 62 [.int .i64 0, .slice [] .exact (some true), .slice [] .exact (some true)])) 62 (.ptr σ.len 0) (encM p) = some (σ.put 62 (encM p).cells) :=
  stn zM (by rw [encM_wd]; rfl) fM rM
theorem iM {xs : List Move} {own : Own} {nz : Option Bool} {k : IntKind} {i : Nat} {x : Move} (hx : xs[i]? = some x) : indexAddrL look 27 (.slice (xs.map encM) own nz) (.int k i) = some (.ro (encM x).cells) :=
  index_slice ud27 (by rw [List.getElem?_map, hx]; rfl) (by rw [encM_wd]; exact sz62)
theorem lM {xs : List Move} {own : Own} {nz : Option Bool} : lenL look 27 (.slice (xs.map encM) own nz) = some (.int .i64 xs.length) := by
  rw [len_slice ud27, List.length_map]
theorem cP0 {p : Proof} : (encP p).cells[0]? = some (encN p.kind) := by rw [encP_cells]; rfl
theorem cP1 {p : Proof} : (encP p).cells[1]? = some (encN p.n) := by rw [encP_cells]; rfl
theorem cP2 {p : Proof} : (encP p).cells[2]? = some (slc (p.uses.map encN)) := by rw [encP_cells]; rfl
theorem cP4 {p : Proof} : (encP p).cells[7]? = some (slc (p.spine.map encU)) := by rw [encP_cells]; rfl
theorem cP5 {p : Proof} : (encP p).cells[8]? = some (slc (p.moves.map encM)) := by rw [encP_cells]; rfl
theorem cP6 {p : Proof} : (encP p).cells[9]? = some (slc (p.l.map encP)) := by rw [encP_cells]; rfl
theorem cU0 {p : Turn} : (encU p).cells[0]? = some (encN p.kind) := by rw [encU_cells]; rfl
theorem cU2 {p : Turn} : (encU p).cells[5]? = some (slc (p.l.map encP)) := by rw [encU_cells]; rfl
theorem cM0 {p : Move} : (encM p).cells[0]? = some (encN p.n) := by rw [encM_cells]; rfl
theorem cM1 {p : Move} : (encM p).cells[1]? = some (slc (p.terms.map encT)) := by rw [encM_cells]; rfl
theorem cM2 {p : Move} : (encM p).cells[2]? = some (slc (p.uses.map encN)) := by rw [encM_cells]; rfl
theorem tP {p : Proof} : partL look 25 (encP p).cells 3 = some (encT p.term) := by rw [pl25, encP_cells, encT_eq]; rfl
theorem tU {p : Turn} : partL look 25 (encU p).cells 1 = some (encT p.term) := by rw [pl25, encU_cells, encT_eq]; rfl
theorem iN {xs : List Int} {own : Own} {nz : Option Bool} {k : IntKind} {i : Nat} {x : Int} (hx : xs[i]? = some x) : indexAddrL look 22 (.slice (xs.map encN) own nz) (.int k i) = some (.ro [encN x]) :=
  index_slice (e := encN x) ud22 (by rw [List.getElem?_map, hx]; rfl) (show sizeL look 3 = some (encN x).wd from sz3)
theorem lN {xs : List Int} {own : Own} {nz : Option Bool} : lenL look 22 (.slice (xs.map encN) own nz) = some (.int .i64 xs.length) := by
  rw [len_slice ud22, List.length_map]
theorem apT {σ : LH} {xs : List Term} {x : Term} {own own' : Own} {nz nz' : Option Bool} (hn : xs.length + 1 ≤ 1073741824) (ha : App σ own) : appendL look σ 23 (some 23) (.slice (xs.map encT) own nz) (.slice [encT x] own' nz') = some (.slice ((xs ++ [x]).map encT) (.tok σ.toks.length) (some false), σ.own own) :=
  app_one (show appOK look 23 23 4 = true by kernel_rfl) (encT_wd) hn ha
theorem bsT {x : Term} : buildSliceL look 23 1 [(0, encT x)] = some (.slice [encT x] .exact (some false)) := by rw [encT_eq]; kernel_rfl
theorem apP {σ : LH} {xs : List Proof} {x : Proof} {own own' : Own} {nz nz' : Option Bool} (hn : xs.length + 1 ≤ 1073741824) (ha : App σ own) : appendL look σ 28 (some 28) (.slice (xs.map encP) own nz) (.slice [encP x] own' nz') = some (.slice ((xs ++ [x]).map encP) (.tok σ.toks.length) (some false), σ.own own) :=
  app_one (show appOK look 28 28 10 = true by kernel_rfl) (encP_wd) hn ha
theorem bsP {x : Proof} : buildSliceL look 28 1 [(0, encP x)] = some (.slice [encP x] .exact (some false)) := by rw [encP_eq]; kernel_rfl
theorem apU {σ : LH} {xs : List Turn} {x : Turn} {own own' : Own} {nz nz' : Option Bool} (hn : xs.length + 1 ≤ 1073741824) (ha : App σ own) : appendL look σ 26 (some 26) (.slice (xs.map encU) own nz) (.slice [encU x] own' nz') = some (.slice ((xs ++ [x]).map encU) (.tok σ.toks.length) (some false), σ.own own) :=
  app_one (show appOK look 26 26 6 = true by kernel_rfl) (encU_wd) hn ha
theorem bsU {x : Turn} : buildSliceL look 26 1 [(0, encU x)] = some (.slice [encU x] .exact (some false)) := by rw [encU_eq]; kernel_rfl
theorem apM {σ : LH} {xs : List Move} {x : Move} {own own' : Own} {nz nz' : Option Bool} (hn : xs.length + 1 ≤ 1073741824) (ha : App σ own) : appendL look σ 27 (some 27) (.slice (xs.map encM) own nz) (.slice [encM x] own' nz') = some (.slice ((xs ++ [x]).map encM) (.tok σ.toks.length) (some false), σ.own own) :=
  app_one (show appOK look 27 27 3 = true by kernel_rfl) (fun _ => rfl) hn ha
theorem bsM {x : Move} : buildSliceL look 27 1 [(0, encM x)] = some (.slice [encM x] .exact (some false)) := by kernel_rfl
theorem apN {σ : LH} {xs : List Int} {x : Int} {own own' : Own} {nz nz' : Option Bool} (hn : xs.length + 1 ≤ 1073741824) (ha : App σ own) : appendL look σ 22 (some 22) (.slice (xs.map encN) own nz) (.slice [encN x] own' nz') = some (.slice ((xs ++ [x]).map encN) (.tok σ.toks.length) (some false), σ.own own) :=
  app_one (show appOK look 22 22 1 = true by kernel_rfl) (fun _ => rfl) hn ha
theorem bsN {x : Int} : buildSliceL look 22 1 [(0, encN x)] = some (.slice [encN x] .exact (some false)) := by kernel_rfl
theorem cU1T0 {p : Turn} : (encU p).cells[1]? = some (.int .i64 p.term.kind) := by rw [encU_cells]; rfl
theorem cU1T1 {p : Turn} : (encU p).cells[2]? = some (.int .i64 p.term.n) := by rw [encU_cells]; rfl
theorem cU1T2 {p : Turn} : (encU p).cells[3]? = some (.str p.term.name) := by rw [encU_cells]; rfl
theorem cU1T3 {p : Turn} : (encU p).cells[4]? = some (slc (p.term.args.map encT)) := by rw [encU_cells]; rfl
theorem cP3T0 {p : Proof} : (encP p).cells[3]? = some (.int .i64 p.term.kind) := by rw [encP_cells]; rfl
theorem cP3T1 {p : Proof} : (encP p).cells[4]? = some (.int .i64 p.term.n) := by rw [encP_cells]; rfl
theorem cP3T2 {p : Proof} : (encP p).cells[5]? = some (.str p.term.name) := by rw [encP_cells]; rfl
theorem cP3T3 {p : Proof} : (encP p).cells[6]? = some (slc (p.term.args.map encT)) := by rw [encP_cells]; rfl
end Go.Lg
end
section
set_option linter.unusedSimpArgs false
set_option maxRecDepth 20000
namespace Go.Lg
open Go.Proofs.Tryz
variable {pr : Prim}
theorem fn62 : look.fnOf 62 = some fl62 := by kernel_rfl
theorem isNone_ok (hpr : ∀ l σ, pr 62 l σ = none) (t : Term) : Ret look pr 62 [encT t] (.bool t.none) := by
  refine Ret.of (fn := fl62) fn62 hpr ⟨Nat.le_of_ble_eq_true rfl, Nat.le_of_ble_eq_true rfl⟩ (gargs_cons gT gargs_nil) good_bool (by simp) ?_
  show WS look pr false 17 [] (bodyOf f62) _ _ _
  simp only [bodyOf, f62]
  refine WS_reg fun K gs P hK hgs hP => ?_
  refine o_box rfl rfl zT fT rT ?_
  refine o_as rfl rfl ?_
  refine o_nil (hK _ _ ?_); clear hK hP hgs K gs P
  refine WS_regB (l1 := []) (sub_nil) 2 ((t.kind == 0) && (t.name.data.toList == []) && (((t.args.length : Int)) == 0)) (fun K gs P hK hgs hP => ?_) ?_
  ·
    have s3 : gs 3 = some 6 := by rw [hgs]; rfl
    have s8 : gs 8 = some 11 := by rw [hgs]; rfl
    refine o_fa rfl rfl fa25_0 ?_
    refine o_ld rfl rfl (ldb box_push (pl3.trans cT0)) ?_
    refine o_bin rfl rfl rfl eql_int ?_
    refine o_mv rfl rfl ?_
    refine o_split 6 rfl (fun e6 => ?_) (fun e6 => ?_)
    ·
      refine o_yes rfl s3 rfl (o_fa rfl rfl fa25_2 ?_)
      refine o_yes rfl s3 rfl (o_ld rfl rfl (ldb box_push (pl9.trans cT2)) ?_)
      refine o_yes rfl s3 rfl (o_bin rfl rfl rfl rfl ?_)
      refine o_pick rfl rfl rfl ?_
      refine o_mv rfl rfl ?_
      refine o_split 11 rfl (fun e11 => ?_) (fun e11 => ?_)
      ·
        refine o_yes rfl s8 rfl (o_fa rfl rfl fa25_3 ?_)
        refine o_yes rfl s8 rfl (o_ld rfl rfl (ldb box_push (pl23.trans cT3)) ?_)
        refine o_yes rfl s8 rfl (o_len rfl rfl rfl lT ?_)
        refine o_yes rfl s8 rfl (o_bin rfl rfl rfl eql_int ?_)
        refine o_pick rfl rfl rfl ?_
        refine o_as rfl rfl ?_
        exact o_nil (hK _ (by (show some (LV.bool _) = some (LV.bool _); refine congrArg (fun b => some (LV.bool b)) ?_; first | (simp_all; done) | (simp_all; intros; omega))) (sub_nil))
      ·
        refine o_no rfl rfl rfl s8 rfl ?_
        refine o_no rfl rfl rfl s8 rfl ?_
        refine o_no rfl rfl rfl s8 rfl ?_
        refine o_no rfl rfl rfl s8 rfl ?_
        refine o_pick rfl rfl rfl ?_
        refine o_as rfl rfl ?_
        exact o_nil (hK _ (by (show some (LV.bool _) = some (LV.bool _); refine congrArg (fun b => some (LV.bool b)) ?_; first | (simp_all; done) | (simp_all; intros; omega))) (sub_nil))
    ·
      refine o_no rfl rfl rfl s3 rfl ?_
      refine o_no rfl rfl rfl s3 rfl ?_
      refine o_no rfl rfl rfl s3 rfl ?_
      refine o_pick rfl rfl rfl ?_
      refine o_mv rfl rfl ?_
      refine o_no rfl rfl rfl s8 rfl ?_
      refine o_no rfl rfl rfl s8 rfl ?_
      refine o_no rfl rfl rfl s8 rfl ?_
      refine o_no rfl rfl rfl s8 rfl ?_
      refine o_pick rfl rfl rfl ?_
      refine o_as rfl rfl ?_
      exact o_nil (hK _ (by (show some (LV.bool _) = some (LV.bool _); refine congrArg (fun b => some (LV.bool b)) ?_; first | (simp_all; done) | (simp_all; intros; omega))) (sub_nil))
  refine WS_ret fun tm ht => ?_
  (try simp only [thenQ, blockQ]); refine endQ_tmp ht rfl rfl
theorem refS {α : Type} {f : α → LV} {xs : List α} {own : Own} {nz : Option Bool} {n : Nat} (h : ∀ x, (f x).Good) : (LV.slice (xs.map f) own nz).refOK n = true := (slc_good (f := f) (l := xs) fun x _ => h x).ref n
theorem refA {cs : List LV} {n : Nat} (h : LV.refsOK n cs = true) : (LV.agg cs).refOK n = true := h
theorem refs_cons {v : LV} {cs : List LV} {n : Nat} (h : v.refOK n = true) (h' : LV.refsOK n cs = true) : LV.refsOK n (v :: cs) = true := by rw [LV.refsOK, h, h']; rfl
theorem fn24 : look.fnOf 24 = some fl24 := by kernel_rfl
theorem copyTerm_ok (hpr : ∀ l σ, pr 24 l σ = none) : ∀ t : Term, t.Small → Ret look pr 24 [encT t] (encT t) := by
  refine Term.ind fun t ih hsm => ?_
  refine Ret.of (fn := fl24) fn24 hpr ⟨Nat.le_of_ble_eq_true rfl, Nat.le_of_ble_eq_true rfl⟩ (gargs_cons gT gargs_nil) gT.1 (by rw [encT_eq]; simp) ?_
  show WS look pr false 29 [] (bodyOf f24) _ _ _
  simp only [bodyOf, f24]
  refine WS_reg fun K gs P hK hgs hP => ?_
  refine o_box rfl rfl zT fT rT ?_
  refine o_al rfl zr25 rfl rfl ?_
  refine o_nil (hK _ _ ?_); clear hK hP hgs K gs P
  refine WS_reg fun K gs P hK hgs hP => ?_
  refine o_fa rfl rfl fa25_0 ?_
  refine o_ld rfl rfl (ldb (box_push_of (box_push)) (pl3.trans cT0)) ?_
  refine o_fa rfl rfl fa25_1 ?_
  refine o_ld rfl rfl (ldb (box_push_of (box_push)) (pl3.trans cT1)) ?_
  refine o_fa rfl rfl fa25_2 ?_
  refine o_ld rfl rfl (ldb (box_push_of (box_push)) (pl9.trans cT2)) ?_
  refine o_bld rfl (.cons rfl (.cons rfl (.cons rfl .nil))) rfl ?_
  refine o_al rfl zr25 rfl rfl ?_
  refine o_st rfl rfl (stn sz25 rfl rfl rfl) ?_
  refine o_nil (hK _ _ ?_); clear hK hP hgs K gs P
  refine WS_seq ?_
  refine WS_reg fun K gs P hK hgs hP => ?_
  refine o_fa rfl rfl fa25_3 ?_
  refine o_ld rfl rfl (ldb (box_put_of (box_push_of (box_push))) (pl23.trans cT3)) ?_
  refine o_len rfl rfl rfl lT ?_
  refine o_mv rfl rfl ?_
  refine o_nil (hK _ _ ?_); clear hK hP hgs K gs P
  refine WS_block ?_
  refine WS.weaken (l0 := [(16, _), (15, _), (2, _), (3, _), (14, _)]) (sub_cons rfl (sub_cons rfl (sub_cons rfl (sub_cons rfl (sub_cons rfl (sub_nil)))))) ?_
  refine WS_range (n := t.args.length) (fun i l σ => l = [(16, .int .i64 i), (15, .int .i64 (t.args.length : Nat)), (2, .ptr 1 0), (3, .ptr 2 0), (14, .slice (t.args.map encT) .none none)] ∧ ∃ own nz cs1, boxOf σ 1 = some (25, cs1) ∧ cs1.length = 4 ∧ boxOf σ 2 = some (25, [.int .i64 t.kind, .int .i64 t.n, .str t.name, .slice ((t.args.take i).map encT) own nz]) ∧ App σ own) (fun i l σ h => by obtain ⟨rfl, h⟩ := h; exact ⟨rfl, rfl⟩) rfl rfl rfl rfl (by have := (Term.small_iff t).1 hsm |>.1; omega) ?_ ?_ t.args.length 0 _ _ (by omega) ⟨rfl, _, _, _, box_put_of box_push, rfl, box_put, app_put.2 (app_exact)⟩
  · rintro i l σ hi ⟨rfl, own, nz, cs1, hb1, hl1, hb2, ha⟩
    obtain ⟨x, hx, hmem, htake, _⟩ := take_one hi
    have hl := (Term.small_iff t).1 hsm |>.1
    refine WS_block ?_
    refine WS_reg fun K gs P hK hgs hP => ?_
    refine o_ia rfl rfl rfl (iT hx) ?_
    refine o_ld rfl rfl (ldr wT) ?_
    refine o_al rfl zr25 rfl rfl ?_
    refine o_st rfl rfl stT ?_
    refine o_nil (hK _ _ ?_); clear hK hP hgs K gs P
    refine WS_draw1 rfl fun K gs P hK hgs => ?_
    refine d_p rfl rfl rfl (fun _ => rfl) (o_fa rfl rfl fa25_3 (o_nil ?_))
    refine d_ld rfl (o_ld rfl rfl (ldb (box_put_of hb2) (pl23.trans rfl)) (o_nil ?_))
    refine d_ld rfl (o_ld rfl rfl (ldb box_put wT) (o_nil ?_))
    refine d_call rfl (.cons rfl .nil) (ih x hmem ((Term.small_iff t).1 hsm |>.2 x hmem)) ?_
    refine d_p rfl rfl rfl (fun _ => rfl) (o_bsl rfl (.cons rfl .nil) bsT (o_nil ?_))
    refine d_m rfl rfl rfl (fun _ => rfl) (o_app rfl (.cons rfl (.cons rfl .nil)) rfl (apT (by rw [List.length_take]; omega) (app_put.2 ha)) (o_nil ?_))
    refine d_p rfl rfl rfl (fun _ => rfl) (o_fa rfl rfl fa25_3 (o_nil ?_))
    refine d_st rfl (o_st rfl rfl (store_box (box_own_of (box_put_of hb2)) sz23 rfl (Nat.le_of_ble_eq_true rfl) rfl (refS encT_good)) (o_nil ?_))
    refine d_nil (hK _ _ _ (by kernel_rfl) fun tm ht => ?_); clear hK hgs K gs P
    (try simp only [thenQ, blockQ]); exact RoundTo.mk ht (l' := [(16, _), (15, _), (2, _), (3, _), (14, _)]) (sub_cons rfl (sub_cons rfl (sub_cons rfl (sub_cons rfl (sub_cons rfl (sub_nil)))))) ⟨rfl, _, sub_cons rfl (sub_cons rfl (sub_cons rfl (sub_cons rfl (sub_cons rfl (sub_nil))))), rfl, _, _, _, box_upd_of (box_own_of (box_put_of hb1)) (by decide), hl1, (by rw [htake]; exact box_upd' (box_own_of (box_put_of hb2))), app_upd.2 app_own⟩
  · rintro l σ ⟨rfl, own, nz, cs1, hb1, hl1, hb2, ha⟩ tm ht
    rw [List.take_length] at hb2
    simp only [thenQ, blockQ, if_true]; refine WS_of ?_ ht; clear ht tm
    refine WS_reg fun K gs P hK hgs hP => ?_
    refine o_ld rfl rfl (ldb hb2 (pl25.trans rfl)) ?_
    refine o_st rfl rfl (store_box hb1 sz25 rfl (by rw [hl1]; exact Nat.le_of_ble_eq_true rfl) rfl (refA (refs_cons rfl (refs_cons rfl (refs_cons rfl (refs_cons (refS encT_good) rfl)))))) ?_
    refine o_nil (hK _ _ ?_); clear hK hP hgs K gs P
    refine WS_ret fun tm ht => ?_
    refine endQ_cell ht rfl (ldb (box_upd' hb1) (pl25.trans rfl)) (by rw [encT_eq]; rfl)
end Go.Lg
end
section
set_option linter.unusedSimpArgs false
set_option maxRecDepth 20000
namespace Go.Lg
open Go.Proofs.Tryz
variable {pr : Prim}
theorem fn61 : look.fnOf 61 = some fl61 := by kernel_rfl
theorem terms1_iter (hpr : ∀ l σ, pr 61 l σ = none) (hpn : ∀ l σ, pr 62 l σ = none) (p : Proof) (hsm : p.Small) (B : Nat) :
    Iter look pr (.func (.func 61) [] [.ptr B 0]) (p.terms.map fun t => [encT t]) (fun σ => boxOf σ B = some (30, (encP p).cells)) := by
  refine Iter.of (fn := fl61) fn61 hpr ⟨Nat.le_of_ble_eq_true rfl, Nat.le_of_ble_eq_true rfl⟩ rfl rfl ?_
  intro σ y M C D hB hM hws hC hD hC0 hc0 hy
  have hS := ((Proof.small_iff p).1 hsm).1
  have yld : ∀ (done : List Term) (x : Term) (rest : List Term) (σ' : LH), p.all = done ++ x :: rest → x.none = false → ItI σ M C (some1 done).length σ' →
      ∃ b σ2, EvF look pr y [encT x] σ' (.moved (.ret (.bool b)) σ2) ∧ ((b = true ∧ ItI σ M C (some1 (done ++ [x])).length σ2) ∨ (b = false ∧ D σ2 ∧ Wr M σ2 ∧ Fr M σ.len σ σ2)) := fun done x rest σ' h hx hi => by
    rw [some1_next hx]
    exact hi.yield hy (by rw [List.getElem?_map, Proof.terms, some1_get h hx]; rfl)
  have leave : ∀ {l : List (Nat × LV)} {tm : Tm} {σ2 : LH}, SL tm 64 l → D σ2 → Wr M σ2 → Fr M σ.len σ σ2 → (LExit.ret = .normal ∨ LExit.ret = .ret) ∧ (LAct.mk tm []).defers = [] ∧ Fr M σ.len σ σ2 ∧ ((C (p.terms.map fun t => [encT t]).length σ2 ∧ ((p.terms.map fun t => [encT t]).length = 0 ∨ Wr M σ2)) ∨ (D σ2 ∧ Wr M σ2)) :=
    fun ht h1 h2 h3 => ⟨.inr rfl, rfl, h3, .inr ⟨h1, h2⟩⟩
  show WS look pr false 64 [] (bodyOf f61) _ _ _
  simp only [bodyOf, f61, argSlots]
  have start : ItI σ M C (some1 []).length σ := ⟨hc0, .inl rfl, Fr.refl (Nat.le_refl _)⟩
  refine WS_seqI (l1 := [(0, _), (1, _)]) (sub_cons rfl (sub_cons rfl sub_nil)) (fun σ' => ItI σ M C (some1 [p.term]).length σ') ?_ ?_
  case refine_2 =>
    refine WS_reg fun K gs P hK hgs hP => ?_
    have s4 : gs 4 = some 13 := by rw [hgs]; rfl
    refine o_fa rfl rfl fa30_3 ?_
    refine o_ld rfl rfl (ldb hB tP) ?_
    refine o_call rfl (.cons rfl .nil) (isNone_ok hpn _) ?_
    refine o_un rfl rfl rfl ?_
    refine o_mv rfl rfl ?_
    refine o_split 13 rfl (fun e13 => ?_) (fun e13 => ?_)
    · have hx : p.term.none = false := by simpa using e13
      obtain ⟨b, σ2, h1, h2⟩ := yld [] p.term _ σ rfl hx start
      refine o_yes rfl s4 rfl (o_mv rfl rfl ?_)
      refine o_yes rfl s4 rfl (o_fa rfl rfl fa30_3 ?_)
      refine o_yes rfl s4 rfl (o_ld rfl rfl (ldb hB tP) ?_)
      refine o_yes rfl s4 rfl (o_callv rfl rfl (.cons rfl .nil) h1 rfl ?_)
      refine o_yes rfl s4 rfl (o_un rfl rfl rfl ?_)
      refine o_pick rfl rfl rfl ?_
      refine o_nil (hK _ _ ?_); (try clear hK hP hgs K gs P)
      refine WS_cond rfl (fun hb => ?_) (fun hb => ?_)
      · refine WS_ret fun tm ht => ?_
        rcases h2 with ⟨h3, h4⟩ | ⟨h3, h4, h5, h6⟩
        · subst h3; cases hb
        · exact leave ht h4 h5 h6
      · refine WS_skip fun tm ht => ?_
        rcases h2 with ⟨h3, h4⟩ | ⟨h3, h4, h5, h6⟩
        · exact ⟨rfl, ht.sub (sub_cons rfl (sub_cons rfl sub_nil)), h4⟩
        · subst h3; cases hb
    · have hx : p.term.none = true := by simpa using e13
      refine o_no rfl rfl rfl s4 rfl ?_
      refine o_no rfl rfl rfl s4 rfl ?_
      refine o_no rfl rfl rfl s4 rfl ?_
      refine o_no rfl rfl rfl s4 rfl ?_
      refine o_no rfl rfl rfl s4 rfl ?_
      refine o_pick rfl rfl rfl ?_
      refine o_nil (hK _ _ ?_); (try clear hK hP hgs K gs P)
      refine WS_cond rfl (fun hb => by cases hb) (fun hb => ?_)
      refine WS_skip fun tm ht => ⟨rfl, ht.sub (sub_cons rfl (sub_cons rfl sub_nil)), ?_⟩
      rw [show [p.term] = [] ++ [p.term] from rfl, some1_skip hx]; exact start
  case refine_1 =>
    intro σ1 h1
    have hB1 := hC0 _ _ h1.1
    refine WS_seqI (l1 := [(0, _), (1, _)]) (sub_cons rfl (sub_cons rfl sub_nil)) (fun σ' => ItI σ M C (some1 (p.term :: p.spine.map Turn.term)).length σ') ?_ ?_
    case refine_2 =>
      refine WS_reg fun K gs P hK hgs hP => ?_
      refine o_fa rfl rfl fa30_4 ?_
      refine o_ld rfl rfl (ldb hB1 (pl26.trans cP4)) ?_
      refine o_len rfl rfl rfl lU ?_
      refine o_mv rfl rfl ?_
      refine o_nil (hK _ _ ?_); (try clear hK hP hgs K gs P)
      refine WS_block ?_
      refine WS.weaken (l0 := [(23, _), (22, _), (0, _), (1, _), (21, _)]) (sub_cons rfl (sub_cons rfl (sub_cons rfl (sub_cons rfl (sub_cons rfl (sub_nil)))))) ?_
      refine WS_range (n := p.spine.length) (fun i l σ' => l = [(23, .int .i64 i), (22, .int .i64 (p.spine.length : Nat)), (0, y), (1, .ptr B 0), (21, slc (p.spine.map encU))] ∧ ItI σ M C (some1 (p.term :: (p.spine.take i).map Turn.term)).length σ') (fun i l σ h => by obtain ⟨rfl, h⟩ := h; exact ⟨rfl, rfl⟩) rfl rfl rfl rfl (by have := hS.2.2.1; omega) ?_ ?_ p.spine.length 0 _ _ (by omega) ⟨rfl, h1⟩
      · rintro i l σ' hi ⟨rfl, HI⟩
        obtain ⟨x, hx, hmem, htake, hdrop⟩ := take_one hi
        have hall : p.all = (p.term :: (p.spine.take i).map Turn.term) ++ x.term :: ((p.spine.drop (i + 1)).map Turn.term ++ p.moves.flatMap Move.terms) := by
          have : p.spine = p.spine.take i ++ x :: p.spine.drop (i + 1) := by rw [← hdrop, List.take_append_drop]
          rw [Proof.all]; conv => lhs; rw [this]
          simp
        have hnx : (p.term :: (p.spine.take (i + 1)).map Turn.term) = (p.term :: (p.spine.take i).map Turn.term) ++ [x.term] := by rw [htake]; simp
        refine WS_block ?_
        refine WS_reg fun K gs P hK hgs hP => ?_
        refine o_ia rfl rfl rfl (iU hx) ?_
        refine o_ld rfl rfl (ldr wU) ?_
        refine o_al rfl zr64 rfl rfl ?_
        refine o_st rfl rfl stU ?_
        refine o_nil (hK _ _ ?_); (try clear hK hP hgs K gs P)
        have HI := HI.put (t := 64) (cs := (encU x).cells) hM hC
        refine WS_reg fun K gs P hK hgs hP => ?_
        have s4 : gs 4 = some 31 := by rw [hgs]; rfl
        refine o_fa rfl rfl fa64_1 ?_
        refine o_ld rfl rfl (ldb box_put tU) ?_
        refine o_call rfl (.cons rfl .nil) (isNone_ok hpn _) ?_
        refine o_un rfl rfl rfl ?_
        refine o_mv rfl rfl ?_
        refine o_split 31 rfl (fun e31 => ?_) (fun e31 => ?_)
        · have hx : x.term.none = false := by simpa using e31
          obtain ⟨b, σ2, h1, h2⟩ := yld _ x.term _ _ hall hx HI
          refine o_yes rfl s4 rfl (o_mv rfl rfl ?_)
          refine o_yes rfl s4 rfl (o_fa rfl rfl fa64_1 ?_)
          refine o_yes rfl s4 rfl (o_ld rfl rfl (ldb box_put tU) ?_)
          refine o_yes rfl s4 rfl (o_callv rfl rfl (.cons rfl .nil) h1 rfl ?_)
          refine o_yes rfl s4 rfl (o_un rfl rfl rfl ?_)
          refine o_pick rfl rfl rfl ?_
          refine o_nil (hK _ _ ?_); (try clear hK hP hgs K gs P)
          refine WS_cond rfl (fun hb => ?_) (fun hb => ?_)
          · refine WS_ret fun tm ht => ?_
            rcases h2 with ⟨h3, h4⟩ | ⟨h3, h4, h5, h6⟩
            · subst h3; cases hb
            · exact leave ht h4 h5 h6
          · refine WS_skip fun tm ht => ?_
            rcases h2 with ⟨h3, h4⟩ | ⟨h3, h4, h5, h6⟩
            · (try simp only [thenQ, blockQ]); exact RoundTo.mk ht (l' := [(23, _), (22, _), (0, _), (1, _), (21, _)]) (sub_cons rfl (sub_cons rfl (sub_cons rfl (sub_cons rfl (sub_cons rfl (sub_nil)))))) ⟨rfl, _, sub_cons rfl (sub_cons rfl (sub_cons rfl (sub_cons rfl (sub_cons rfl (sub_nil))))), rfl, by rw [hnx]; exact h4⟩
            · subst h3; cases hb
        · have hx : x.term.none = true := by simpa using e31
          refine o_no rfl rfl rfl s4 rfl ?_
          refine o_no rfl rfl rfl s4 rfl ?_
          refine o_no rfl rfl rfl s4 rfl ?_
          refine o_no rfl rfl rfl s4 rfl ?_
          refine o_no rfl rfl rfl s4 rfl ?_
          refine o_pick rfl rfl rfl ?_
          refine o_nil (hK _ _ ?_); (try clear hK hP hgs K gs P)
          refine WS_cond rfl (fun hb => by cases hb) (fun hb => ?_)
          refine WS_skip fun tm ht => ?_
          (try simp only [thenQ, blockQ]); exact RoundTo.mk ht (l' := [(23, _), (22, _), (0, _), (1, _), (21, _)]) (sub_cons rfl (sub_cons rfl (sub_cons rfl (sub_cons rfl (sub_cons rfl (sub_nil)))))) ⟨rfl, _, sub_cons rfl (sub_cons rfl (sub_cons rfl (sub_cons rfl (sub_cons rfl (sub_nil))))), rfl, by rw [hnx, some1_skip hx]; exact HI⟩
      · rintro l σ' ⟨rfl, HI⟩ tm ht
        rw [List.take_length] at HI
        simp only [thenQ, blockQ, if_true]
        exact ⟨trivial, ht.sub (sub_cons rfl (sub_cons rfl sub_nil)), HI⟩
    case refine_1 =>
      intro σ2 h2
      have hB2 := hC0 _ _ h2.1
      refine WS_reg fun K gs P hK hgs hP => ?_
      refine o_fa rfl rfl fa30_5 ?_
      refine o_ld rfl rfl (ldb hB2 (pl27.trans cP5)) ?_
      refine o_len rfl rfl rfl lM ?_
      refine o_mv rfl rfl ?_
      refine o_nil (hK _ _ ?_); (try clear hK hP hgs K gs P)
      refine WS_block ?_
      refine WS.weaken (l0 := [(42, _), (41, _), (0, _), (40, _)]) (sub_cons rfl (sub_cons rfl (sub_cons rfl (sub_cons rfl (sub_nil))))) ?_
      refine WS_range (n := p.moves.length) (fun i l σ' => l = [(42, .int .i64 i), (41, .int .i64 (p.moves.length : Nat)), (0, y), (40, slc (p.moves.map encM))] ∧ ItI σ M C (some1 (p.term :: p.spine.map Turn.term ++ (p.moves.take i).flatMap Move.terms)).length σ') (fun i l σ h => by obtain ⟨rfl, h⟩ := h; exact ⟨rfl, rfl⟩) rfl rfl rfl rfl (by have := hS.2.2.2.2.1; omega) ?_ ?_ p.moves.length 0 _ _ (by omega) ⟨rfl, by simpa using h2⟩
      · rintro i l σ' hi ⟨rfl, HI⟩
        obtain ⟨m, hm, hmem, htake, hdrop⟩ := take_one hi
        have hmv : p.moves = p.moves.take i ++ m :: p.moves.drop (i + 1) := by rw [← hdrop, List.take_append_drop]
        refine WS_block ?_
        refine WS_reg fun K gs P hK hgs hP => ?_
        refine o_ia rfl rfl rfl (iM hm) ?_
        refine o_ld rfl rfl (ldr wM) ?_
        refine o_al rfl zr62 rfl rfl ?_
        refine o_st rfl rfl stM ?_
        refine o_nil (hK _ _ ?_); (try clear hK hP hgs K gs P)
        have HI := HI.put (t := 62) (cs := (encM m).cells) hM hC
        refine WS_reg fun K gs P hK hgs hP => ?_
        refine o_fa rfl rfl fa62_1 ?_
        refine o_ld rfl rfl (ldb box_put (pl23.trans cM1)) ?_
        refine o_len rfl rfl rfl lT ?_
        refine o_mv rfl rfl ?_
        refine o_nil (hK _ _ ?_); (try clear hK hP hgs K gs P)
        refine WS_block ?_
        refine WS.weaken (l0 := [(49, _), (48, _), (0, _), (40, _), (41, _), (42, _), (47, _)]) (sub_cons rfl (sub_cons rfl (sub_cons rfl (sub_cons rfl (sub_cons rfl (sub_cons rfl (sub_cons rfl (sub_nil)))))))) ?_
        refine WS_range (n := m.terms.length) (fun k l σ' => l = [(49, .int .i64 k), (48, .int .i64 (m.terms.length : Nat)), (0, y), (40, slc (p.moves.map encM)), (41, .int .i64 (p.moves.length : Nat)), (42, .int .i64 i), (47, slc (m.terms.map encT))] ∧ ItI σ M C (some1 ((p.term :: p.spine.map Turn.term ++ (p.moves.take i).flatMap Move.terms) ++ m.terms.take k)).length σ') (fun i l σ h => by obtain ⟨rfl, h⟩ := h; exact ⟨rfl, rfl⟩) rfl rfl rfl rfl (by have := (hS.2.2.2.2.2.1 m hmem).1; omega) ?_ ?_ m.terms.length 0 _ _ (by omega) ⟨rfl, by simpa using HI⟩
        · rintro k l σ' hk ⟨rfl, HI⟩
          obtain ⟨x, hx, hxm, hxt, hxd⟩ := take_one hk
          have hmt : m.terms = m.terms.take k ++ x :: m.terms.drop (k + 1) := by rw [← hxd, List.take_append_drop]
          have hall : p.all = ((p.term :: p.spine.map Turn.term ++ (p.moves.take i).flatMap Move.terms) ++ m.terms.take k) ++ x :: (m.terms.drop (k + 1) ++ (p.moves.drop (i + 1)).flatMap Move.terms) := by
            rw [Proof.all]; conv => lhs; rw [hmv]
            simp only [List.flatMap_append, List.flatMap_cons]
            conv => lhs; rw [hmt]
            simp
          have hnx : ((p.term :: p.spine.map Turn.term ++ (p.moves.take i).flatMap Move.terms) ++ m.terms.take (k + 1)) = ((p.term :: p.spine.map Turn.term ++ (p.moves.take i).flatMap Move.terms) ++ m.terms.take k) ++ [x] := by rw [hxt]; simp
          refine WS_block ?_
          refine WS_reg fun K gs P hK hgs hP => ?_
          refine o_ia rfl rfl rfl (iT hx) ?_
          refine o_ld rfl rfl (ldr wT) ?_
          refine o_al rfl zr25 rfl rfl ?_
          refine o_st rfl rfl stT ?_
          refine o_nil (hK _ _ ?_); (try clear hK hP hgs K gs P)
          have HI := HI.put (t := 25) (cs := (encT x).cells) hM hC
          refine WS_reg fun K gs P hK hgs hP => ?_
          have s3 : gs 3 = some 56 := by rw [hgs]; rfl
          refine o_ld rfl rfl (ldb box_put wT) ?_
          refine o_call rfl (.cons rfl .nil) (isNone_ok hpn _) ?_
          refine o_un rfl rfl rfl ?_
          refine o_mv rfl rfl ?_
          refine o_split 56 rfl (fun e56 => ?_) (fun e56 => ?_)
          · have hx : x.none = false := by simpa using e56
            obtain ⟨b, σ2, h1, h2⟩ := yld _ x _ _ hall hx HI
            refine o_yes rfl s3 rfl (o_mv rfl rfl ?_)
            refine o_yes rfl s3 rfl (o_ld rfl rfl (ldb box_put wT) ?_)
            refine o_yes rfl s3 rfl (o_callv rfl rfl (.cons rfl .nil) h1 rfl ?_)
            refine o_yes rfl s3 rfl (o_un rfl rfl rfl ?_)
            refine o_pick rfl rfl rfl ?_
            refine o_nil (hK _ _ ?_); (try clear hK hP hgs K gs P)
            refine WS_cond rfl (fun hb => ?_) (fun hb => ?_)
            · refine WS_ret fun tm ht => ?_
              rcases h2 with ⟨h3, h4⟩ | ⟨h3, h4, h5, h6⟩
              · subst h3; cases hb
              · exact leave ht h4 h5 h6
            · refine WS_skip fun tm ht => ?_
              rcases h2 with ⟨h3, h4⟩ | ⟨h3, h4, h5, h6⟩
              · (try simp only [thenQ, blockQ]); exact RoundTo.mk ht (l' := [(49, _), (48, _), (0, _), (40, _), (41, _), (42, _), (47, _)]) (sub_cons rfl (sub_cons rfl (sub_cons rfl (sub_cons rfl (sub_cons rfl (sub_cons rfl (sub_cons rfl (sub_nil)))))))) ⟨rfl, _, sub_cons rfl (sub_cons rfl (sub_cons rfl (sub_cons rfl (sub_cons rfl (sub_cons rfl (sub_cons rfl (sub_nil))))))), rfl, by rw [hnx]; exact h4⟩
              · subst h3; cases hb
          · have hx : x.none = true := by simpa using e56
            refine o_no rfl rfl rfl s3 rfl ?_
            refine o_no rfl rfl rfl s3 rfl ?_
            refine o_no rfl rfl rfl s3 rfl ?_
            refine o_no rfl rfl rfl s3 rfl ?_
            refine o_pick rfl rfl rfl ?_
            refine o_nil (hK _ _ ?_); (try clear hK hP hgs K gs P)
            refine WS_cond rfl (fun hb => by cases hb) (fun hb => ?_)
            refine WS_skip fun tm ht => ?_
            (try simp only [thenQ, blockQ]); exact RoundTo.mk ht (l' := [(49, _), (48, _), (0, _), (40, _), (41, _), (42, _), (47, _)]) (sub_cons rfl (sub_cons rfl (sub_cons rfl (sub_cons rfl (sub_cons rfl (sub_cons rfl (sub_cons rfl (sub_nil)))))))) ⟨rfl, _, sub_cons rfl (sub_cons rfl (sub_cons rfl (sub_cons rfl (sub_cons rfl (sub_cons rfl (sub_cons rfl (sub_nil))))))), rfl, by rw [hnx, some1_skip hx]; exact HI⟩
        · rintro l σ' ⟨rfl, HI⟩ tm ht
          rw [List.take_length] at HI
          simp only [thenQ, blockQ, if_true]; exact RoundTo.mk ht (l' := [(42, _), (41, _), (0, _), (40, _)]) (sub_cons rfl (sub_cons rfl (sub_cons rfl (sub_cons rfl (sub_nil))))) ⟨rfl, _, sub_cons rfl (sub_cons rfl (sub_cons rfl (sub_cons rfl (sub_nil)))), rfl, by rw [htake]; simpa using HI⟩
      · rintro l σ' ⟨rfl, HI⟩ tm ht
        rw [List.take_length] at HI
        simp only [thenQ, blockQ, if_true]
        obtain ⟨g1, g2, g3⟩ := HI
        refine ⟨.inl trivial, trivial, g3, .inl ?_⟩
        rw [List.length_map]
        exact ⟨g1, g2⟩
end Go.Lg
end
section
set_option linter.unusedSimpArgs false
set_option maxRecDepth 20000
namespace Go.Lg
open Go.Proofs.Tryz
variable {pr : Prim}
theorem neg1_sub {n : Nat} (h : n < 1073741824) : IntKind.i64.wrap (-1 - (n : Int)) = -1 - (n : Int) := wrap_in (by omega) (by omega)
theorem fn60 : look.fnOf 60 = some fl60 := by kernel_rfl
theorem kids1_iter (hpr : ∀ l σ, pr 60 l σ = none) (p : Proof) (hsm : p.Small) (B : Nat) :
    Iter look pr (.func (.func 60) [] [.ptr B 0]) (p.kidsI.map encI) (fun σ => boxOf σ B = some (30, (encP p).cells)) := by
  refine Iter.of (fn := fl60) fn60 hpr ⟨Nat.le_of_ble_eq_true rfl, Nat.le_of_ble_eq_true rfl⟩ rfl rfl ?_
  intro σ y M C D hB hM hws hC hD hC0 hc0 hy
  have hS := ((Proof.small_iff p).1 hsm).1
  have yld : ∀ (done : List (Int × Proof)) (x : Int × Proof) (rest : List (Int × Proof)) (σ' : LH), p.kidsI = done ++ x :: rest → ItI σ M C done.length σ' →
      ∃ b σ2, EvF look pr y (encI x) σ' (.moved (.ret (.bool b)) σ2) ∧ ((b = true ∧ ItI σ M C (done ++ [x]).length σ2) ∨ (b = false ∧ D σ2 ∧ Wr M σ2 ∧ Fr M σ.len σ σ2)) := fun done x rest σ' h hi => by
    rw [List.length_append]
    exact hi.yield hy (by rw [List.getElem?_map, h]; simp)
  have leave : ∀ {l : List (Nat × LV)} {tm : Tm} {σ2 : LH}, SL tm 46 l → D σ2 → Wr M σ2 → Fr M σ.len σ σ2 → (LExit.ret = .normal ∨ LExit.ret = .ret) ∧ (LAct.mk tm []).defers = [] ∧ Fr M σ.len σ σ2 ∧ ((C (p.kidsI.map encI).length σ2 ∧ ((p.kidsI.map encI).length = 0 ∨ Wr M σ2)) ∨ (D σ2 ∧ Wr M σ2)) :=
    fun ht h1 h2 h3 => ⟨.inr rfl, rfl, h3, .inr ⟨h1, h2⟩⟩
  show WS look pr false 46 [] (bodyOf f60) _ _ _
  simp only [bodyOf, f60, argSlots]
  have start : ItI σ M C ([] : List (Int × Proof)).length σ := ⟨hc0, .inl rfl, Fr.refl (Nat.le_refl _)⟩
  refine WS_seqI (l1 := [(0, _), (1, _)]) (sub_cons rfl (sub_cons rfl sub_nil)) (fun σ' => ItI σ M C (Proof.kidsS p.spine).length σ') ?_ ?_
  case refine_2 =>
    refine WS_reg fun K gs P hK hgs hP => ?_
    refine o_fa rfl rfl fa30_4 ?_
    refine o_ld rfl rfl (ldb hB (pl26.trans cP4)) ?_
    refine o_len rfl rfl rfl lU ?_
    refine o_mv rfl rfl ?_
    refine o_nil (hK _ _ ?_); (try clear hK hP hgs K gs P)
    refine WS_block ?_
    refine WS.weaken (l0 := [(12, _), (11, _), (0, _), (1, _), (10, _)]) (sub_cons rfl (sub_cons rfl (sub_cons rfl (sub_cons rfl (sub_cons rfl (sub_nil)))))) ?_
    refine WS_range (n := p.spine.length) (fun i l σ' => l = [(12, .int .i64 i), (11, .int .i64 (p.spine.length : Nat)), (0, y), (1, .ptr B 0), (10, slc (p.spine.map encU))] ∧ ItI σ M C (Proof.kidsS (p.spine.take i)).length σ') (fun i l σ h => by obtain ⟨rfl, h⟩ := h; exact ⟨rfl, rfl⟩) rfl rfl rfl rfl (by have := hS.2.2.1; omega) ?_ ?_ p.spine.length 0 _ _ (by omega) ⟨rfl, start⟩
    · rintro i l σ' hi ⟨rfl, HI⟩
      obtain ⟨x, hx, hmem, htake, hdrop⟩ := take_one hi
      obtain ⟨rest, hk, hk1⟩ := Proof.kidsS_split hx
      refine WS_block ?_
      refine WS_reg fun K gs P hK hgs hP => ?_
      refine o_mv rfl rfl ?_
      refine o_ia rfl rfl rfl (iU hx) ?_
      refine o_ld rfl rfl (ldr wU) ?_
      refine o_al rfl zr64 rfl rfl ?_
      refine o_as rfl rfl ?_
      refine o_st rfl rfl stU ?_
      refine o_nil (hK _ _ ?_); (try clear hK hP hgs K gs P)
      have HI := HI.put (t := 64) (cs := (encU x).cells) hM hC
      refine WS_reg fun K gs P hK hgs hP => ?_
      refine o_fa rfl rfl fa64_2 ?_
      refine o_ld rfl rfl (ldb box_put (pl28.trans cU2)) ?_
      refine o_len rfl rfl rfl lP ?_
      refine o_mv rfl rfl ?_
      refine o_nil (hK _ _ ?_); (try clear hK hP hgs K gs P)
      refine WS_block ?_
      refine WS.weaken (l0 := [(20, _), (19, _), (0, _), (1, _), (3, _), (10, _), (11, _), (12, _), (18, _)]) (sub_cons rfl (sub_cons rfl (sub_cons rfl (sub_cons rfl (sub_cons rfl (sub_cons rfl (sub_cons rfl (sub_cons rfl (sub_cons rfl (sub_nil)))))))))) ?_
      refine WS_range (n := x.l.length) (fun k l σ' => l = [(20, .int .i64 k), (19, .int .i64 (x.l.length : Nat)), (0, y), (1, .ptr B 0), (3, .int .i64 i), (10, slc (p.spine.map encU)), (11, .int .i64 (p.spine.length : Nat)), (12, .int .i64 i), (18, slc (x.l.map encP))] ∧ ItI σ M C (Proof.kidsS (p.spine.take i) ++ (turnI x i).take k).length σ') (fun i l σ h => by obtain ⟨rfl, h⟩ := h; exact ⟨rfl, rfl⟩) rfl rfl rfl rfl (by have := (hS.2.2.2.1 x hmem).2; omega) ?_ ?_ x.l.length 0 _ _ (by omega) ⟨rfl, by simpa using HI⟩
      · rintro k l σ' hk' ⟨rfl, HI⟩
        obtain ⟨z, hz, hzm, hzt, hzd⟩ := take_one hk'
        have hw : IntKind.i64.wrap (-1 - (i : Int)) = -1 - (i : Int) := neg1_sub (by have := hS.2.2.1; omega)
        have hti : (turnI x i)[k]? = some (-1 - (i : Int), z) := by simp [turnI, hz]
        have htk : turnI x i = (turnI x i).take k ++ (-1 - (i : Int), z) :: (turnI x i).drop (k + 1) := by
          have hlt := (List.getElem?_eq_some_iff.1 hti).1
          conv => lhs; rw [← List.take_append_drop k (turnI x i), List.drop_eq_getElem_cons hlt, (List.getElem?_eq_some_iff.1 hti).2]
        have htk1 : (turnI x i).take (k + 1) = (turnI x i).take k ++ [(-1 - (i : Int), z)] := by rw [List.take_add_one, hti]; rfl
        have hall : p.kidsI = (Proof.kidsS (p.spine.take i) ++ (turnI x i).take k) ++ (-1 - (i : Int), z) :: ((turnI x i).drop (k + 1) ++ rest ++ Proof.kidsL p.l) := by
          rw [Proof.kidsI, hk]; conv => lhs; rw [htk]
          simp
        refine WS_block ?_
        refine WS_reg fun K gs P hK hgs hP => ?_
        refine o_ia rfl rfl rfl (iP hz) ?_
        refine o_ld rfl rfl (ldr wP) ?_
        refine o_al rfl zr30 rfl rfl ?_
        refine o_st rfl rfl stP ?_
        refine o_nil (hK _ _ ?_); (try clear hK hP hgs K gs P)
        have HI := HI.put (t := 30) (cs := (encP z).cells) hM hC
        obtain ⟨b, σ2, h1, h2⟩ := yld _ _ _ _ hall HI
        refine WS_reg fun K gs P hK hgs hP => ?_
        refine o_mv rfl rfl ?_
        refine o_mv rfl rfl ?_
        refine o_bin rfl rfl rfl sub_int ?_
        rw [hw]
        refine o_ld rfl rfl (ldb box_put wP) ?_
        refine o_callv rfl rfl (.cons rfl (.cons rfl .nil)) h1 rfl ?_
        refine o_un rfl rfl rfl ?_
        refine o_nil (hK _ _ ?_); (try clear hK hP hgs K gs P)
        refine WS_cond rfl (fun hb => ?_) (fun hb => ?_)
        · refine WS_ret fun tm ht => ?_
          rcases h2 with ⟨h3, h4⟩ | ⟨h3, h4, h5, h6⟩
          · subst h3; cases hb
          · exact leave ht h4 h5 h6
        · refine WS_skip fun tm ht => ?_
          rcases h2 with ⟨h3, h4⟩ | ⟨h3, h4, h5, h6⟩
          · (try simp only [thenQ, blockQ]); exact RoundTo.mk ht (l' := [(20, _), (19, _), (0, _), (1, _), (3, _), (10, _), (11, _), (12, _), (18, _)]) (sub_cons rfl (sub_cons rfl (sub_cons rfl (sub_cons rfl (sub_cons rfl (sub_cons rfl (sub_cons rfl (sub_cons rfl (sub_cons rfl (sub_nil)))))))))) ⟨rfl, _, sub_cons rfl (sub_cons rfl (sub_cons rfl (sub_cons rfl (sub_cons rfl (sub_cons rfl (sub_cons rfl (sub_cons rfl (sub_cons rfl (sub_nil))))))))), rfl, by rw [htk1, ← List.append_assoc]; exact h4⟩
          · subst h3; cases hb
      · rintro l σ' ⟨rfl, HI⟩ tm ht
        rw [List.take_of_length_le (l := turnI x i) (by simp [turnI]), ← hk1] at HI
        simp only [thenQ, blockQ, if_true]; exact RoundTo.mk ht (l' := [(12, _), (11, _), (0, _), (1, _), (10, _)]) (sub_cons rfl (sub_cons rfl (sub_cons rfl (sub_cons rfl (sub_cons rfl (sub_nil)))))) ⟨rfl, _, sub_cons rfl (sub_cons rfl (sub_cons rfl (sub_cons rfl (sub_cons rfl (sub_nil))))), rfl, HI⟩
    · rintro l σ' ⟨rfl, HI⟩ tm ht
      rw [List.take_length] at HI
      simp only [thenQ, blockQ, if_true]
      exact ⟨trivial, ht.sub (sub_cons rfl (sub_cons rfl sub_nil)), HI⟩
  case refine_1 =>
    intro σ1 h1
    have hB1 := hC0 _ _ h1.1
    refine WS_reg fun K gs P hK hgs hP => ?_
    refine o_fa rfl rfl fa30_6 ?_
    refine o_ld rfl rfl (ldb hB1 (pl28.trans cP6)) ?_
    refine o_len rfl rfl rfl lP ?_
    refine o_mv rfl rfl ?_
    refine o_nil (hK _ _ ?_); (try clear hK hP hgs K gs P)
    refine WS_block ?_
    refine WS.weaken (l0 := [(35, _), (34, _), (0, _), (33, _)]) (sub_cons rfl (sub_cons rfl (sub_cons rfl (sub_cons rfl (sub_nil))))) ?_
    refine WS_range (n := p.l.length) (fun i l σ' => l = [(35, .int .i64 i), (34, .int .i64 (p.l.length : Nat)), (0, y), (33, slc (p.l.map encP))] ∧ ItI σ M C (Proof.kidsS p.spine ++ (Proof.kidsL p.l).take i).length σ') (fun i l σ h => by obtain ⟨rfl, h⟩ := h; exact ⟨rfl, rfl⟩) rfl rfl rfl rfl (by have := hS.2.2.2.2.2.2; omega) ?_ ?_ p.l.length 0 _ _ (by omega) ⟨rfl, by simpa using h1⟩
    · rintro i l σ' hi ⟨rfl, HI⟩
      obtain ⟨z, hz, hmem, htake, hdrop⟩ := take_one hi
      have hti := Proof.kidsL_get hz
      have htk : Proof.kidsL p.l = (Proof.kidsL p.l).take i ++ ((i : Int), z) :: (Proof.kidsL p.l).drop (i + 1) := by
        have hlt := (List.getElem?_eq_some_iff.1 hti).1
        conv => lhs; rw [← List.take_append_drop i (Proof.kidsL p.l), List.drop_eq_getElem_cons hlt, (List.getElem?_eq_some_iff.1 hti).2]
      have htk1 : (Proof.kidsL p.l).take (i + 1) = (Proof.kidsL p.l).take i ++ [((i : Int), z)] := by rw [List.take_add_one, hti]; rfl
      have hall : p.kidsI = (Proof.kidsS p.spine ++ (Proof.kidsL p.l).take i) ++ ((i : Int), z) :: (Proof.kidsL p.l).drop (i + 1) := by
        rw [Proof.kidsI]; conv => lhs; rw [htk]
        simp
      refine WS_block ?_
      refine WS_reg fun K gs P hK hgs hP => ?_
      refine o_mv rfl rfl ?_
      refine o_ia rfl rfl rfl (iP hz) ?_
      refine o_ld rfl rfl (ldr wP) ?_
      refine o_al rfl zr30 rfl rfl ?_
      refine o_as rfl rfl ?_
      refine o_st rfl rfl stP ?_
      refine o_nil (hK _ _ ?_); (try clear hK hP hgs K gs P)
      have HI := HI.put (t := 30) (cs := (encP z).cells) hM hC
      obtain ⟨b, σ2, h1, h2⟩ := yld _ _ _ _ hall HI
      refine WS_reg fun K gs P hK hgs hP => ?_
      refine o_mv rfl rfl ?_
      refine o_mv rfl rfl ?_
      refine o_ld rfl rfl (ldb box_put wP) ?_
      refine o_callv rfl rfl (.cons rfl (.cons rfl .nil)) h1 rfl ?_
      refine o_un rfl rfl rfl ?_
      refine o_nil (hK _ _ ?_); (try clear hK hP hgs K gs P)
      refine WS_cond rfl (fun hb => ?_) (fun hb => ?_)
      · refine WS_ret fun tm ht => ?_
        rcases h2 with ⟨h3, h4⟩ | ⟨h3, h4, h5, h6⟩
        · subst h3; cases hb
        · exact leave ht h4 h5 h6
      · refine WS_skip fun tm ht => ?_
        rcases h2 with ⟨h3, h4⟩ | ⟨h3, h4, h5, h6⟩
        · (try simp only [thenQ, blockQ]); exact RoundTo.mk ht (l' := [(35, _), (34, _), (0, _), (33, _)]) (sub_cons rfl (sub_cons rfl (sub_cons rfl (sub_cons rfl (sub_nil))))) ⟨rfl, _, sub_cons rfl (sub_cons rfl (sub_cons rfl (sub_cons rfl (sub_nil)))), rfl, by rw [htk1, ← List.append_assoc]; exact h4⟩
        · subst h3; cases hb
    · rintro l σ' ⟨rfl, HI⟩ tm ht
      rw [List.take_of_length_le (l := Proof.kidsL p.l) (by simp [Proof.kidsL])] at HI
      simp only [thenQ, blockQ, if_true]
      obtain ⟨g1, g2, g3⟩ := HI
      refine ⟨.inl trivial, trivial, g3, .inl ?_⟩
      rw [List.length_map]
      exact ⟨g1, g2⟩
end Go.Lg
end
section
set_option linter.unusedSimpArgs false
set_option maxRecDepth 20000
namespace Go.Lg
open Go.Proofs.Tryz
variable {pr : Prim}
theorem fn41 : look.fnOf 41 = some fl41 := by kernel_rfl
theorem fn40 : look.fnOf 40 = some fl40 := by kernel_rfl
theorem gP3 {p : Proof} : ∀ x ∈ [encP p], x.Good ∧ x.argC = x ∧ x.canonA = x := fun x hx => by
  simp only [List.mem_singleton] at hx; subst hx; exact ⟨encP_good p, encP_argC p, encP_canonA p⟩
theorem terms_call (hpr : ∀ l σ, pr 41 l σ = none) (p : Proof) (σ : LH) :
    EvF look pr (.func (.func 41) [] []) [encP p] σ (.moved (.ret (.func (.func 61) [] [.ptr σ.len 0])) (σ.push (.cells 30 (encP p).cells))) := by
  refine EvF_clo (fn := fl41) (fcs := fun n => [.ptr n 0]) (os := [.cells 30 (encP p).cells]) fn41 hpr ⟨Nat.le_of_ble_eq_true rfl, Nat.le_of_ble_eq_true rfl⟩ gP3 (fun n => by simp [LV.refsOK, LV.refOK]) ?_ σ
  intro σ hws
  show WS look pr false 4 [] (bodyOf f41) _ _ _
  simp only [bodyOf, f41]
  refine WS_reg fun K gs P hK hgs hP => ?_
  refine o_box rfl rfl zP fP rP ?_
  refine o_as rfl rfl ?_
  refine o_nil (hK _ _ ?_); (try clear hK hP hgs K gs P)
  refine WS_reg fun K gs P hK hgs hP => ?_
  refine o_mkf rfl .nil (.cons rfl .nil) ?_
  refine o_as rfl rfl ?_
  refine o_nil (hK _ _ ?_); (try clear hK hP hgs K gs P)
  refine WS_ret fun tm ht => ?_
  (try simp only [thenQ, blockQ]); refine endQ_tmp ht rfl ⟨rfl, ?_⟩
  rw [LH.push, hws]
theorem kids_call (hpr : ∀ l σ, pr 40 l σ = none) (p : Proof) (σ : LH) :
    EvF look pr (.func (.func 40) [] []) [encP p] σ (.moved (.ret (.func (.func 60) [] [.ptr σ.len 0])) (σ.push (.cells 30 (encP p).cells))) := by
  refine EvF_clo (fn := fl40) (fcs := fun n => [.ptr n 0]) (os := [.cells 30 (encP p).cells]) fn40 hpr ⟨Nat.le_of_ble_eq_true rfl, Nat.le_of_ble_eq_true rfl⟩ gP3 (fun n => by simp [LV.refsOK, LV.refOK]) ?_ σ
  intro σ hws
  show WS look pr false 4 [] (bodyOf f40) _ _ _
  simp only [bodyOf, f40]
  refine WS_reg fun K gs P hK hgs hP => ?_
  refine o_box rfl rfl zP fP rP ?_
  refine o_as rfl rfl ?_
  refine o_nil (hK _ _ ?_); (try clear hK hP hgs K gs P)
  refine WS_reg fun K gs P hK hgs hP => ?_
  refine o_mkf rfl .nil (.cons rfl .nil) ?_
  refine o_as rfl rfl ?_
  refine o_nil (hK _ _ ?_); (try clear hK hP hgs K gs P)
  refine WS_ret fun tm ht => ?_
  (try simp only [thenQ, blockQ]); refine endQ_tmp ht rfl ⟨rfl, ?_⟩
  rw [LH.push, hws]
end Go.Lg
end
section
set_option linter.unusedSimpArgs false
set_option maxRecDepth 20000
namespace Go.Lg
open Go.Proofs.Tryz
variable {pr : Prim}
def termsN (l : List Term) (s : Int) : Int := l.foldl (fun s t => if s > 20000 then s else nodesT t s 20000 1073741824) s
def kidsN (l : List (Int → Int)) (s : Int) : Int := l.foldl (fun s f => if s > 20000 then s else f s) s
def sizeP (p : Proof) : Int → Int := p.fold fun p us bs s => kidsN (us.flatten ++ bs) (termsN p.terms (s + (1 + p.spine.length + p.moves.length)))
theorem sizeP_eq (p : Proof) (s : Int) : sizeP p s = kidsN (p.kids.map sizeP) (termsN p.terms (s + (1 + p.spine.length + p.moves.length))) := by
  unfold sizeP
  rw [Proof.fold_kids (fun (p : Proof) (bs : List (Int → Int)) (s : Int) => kidsN bs (termsN p.terms (s + (1 + p.spine.length + p.moves.length))))]
theorem termsN_stop : ∀ (l : List Term) (s : Int), 20000 < s → termsN l s = s
  | [], s, h => rfl
  | t :: l, s, h => by rw [termsN, List.foldl_cons, if_pos h]; exact termsN_stop l s h
theorem kidsN_stop : ∀ (l : List (Int → Int)) (s : Int), 20000 < s → kidsN l s = s
  | [], s, h => rfl
  | t :: l, s, h => by rw [kidsN, List.foldl_cons, if_pos h]; exact kidsN_stop l s h
theorem termsN_le : ∀ (l : List Term) (s : Int), s ≤ termsN l s
  | [], s => Int.le_refl _
  | t :: l, s => by
    have h := termsN_le l (if s > 20000 then s else nodesT t s 20000 1073741824)
    rw [termsN, List.foldl_cons]
    refine Int.le_trans ?_ h
    split
    · exact Int.le_refl _
    · have := (nodesT_le t s 20000 1073741824 (by omega)).1; omega
theorem kidsN_le : ∀ (l : List (Int → Int)), (∀ f ∈ l, ∀ s, s ≤ f s) → ∀ s, s ≤ kidsN l s
  | [], _, s => Int.le_refl _
  | f :: l, hl, s => by
    have h := kidsN_le l (fun g hg => hl g (by simp [hg])) (if s > 20000 then s else f s)
    rw [kidsN, List.foldl_cons]
    refine Int.le_trans ?_ h
    split
    · exact Int.le_refl _
    · exact hl f (by simp) s
theorem sizeP_le : ∀ (p : Proof) (s : Int), s + 1 ≤ sizeP p s := by
  refine Proof.ind fun p ih s => ?_
  rw [sizeP_eq]
  have h1 := termsN_le p.terms (s + (1 + p.spine.length + p.moves.length))
  have h2 := kidsN_le (p.kids.map sizeP) (fun f hf s => by
    obtain ⟨x, hx, rfl⟩ := List.mem_map.1 hf
    have := ih x hx s; omega) (termsN p.terms (s + (1 + p.spine.length + p.moves.length)))
  omega
theorem terms_small {p : Proof} (h : p.Small) : ∀ t ∈ p.terms, t.Small := fun t ht => by
  have hs := ((Proof.small_iff p).1 h).1
  have ht := (List.mem_filter.1 ht).1
  simp only [Proof.all, List.mem_cons, List.mem_append, List.mem_map, List.mem_flatMap] at ht
  rcases ht with rfl | ⟨u, hu, rfl⟩ | ⟨m, hm, ht⟩
  · exact hs.2.1
  · exact (hs.2.2.2.1 u hu).1
  · exact (hs.2.2.2.2.2.1 m hm).2.2 t ht
theorem fn20 : look.fnOf 20 = some fl20 := by kernel_rfl
theorem proofNodes_ok (hpr : NoPr pr) : ∀ p : Proof, p.Small → ∀ s : Int, 0 ≤ s → s ≤ 20000 → Ret look pr 20 [encP p, .int .i64 s] (.int .i64 (sizeP p s)) := by
  refine Proof.ind fun p ih hsm s hs0 hs1 => ?_
  have hS := ((Proof.small_iff p).1 hsm)
  refine Ret.ofM (fn := fl20) fn20 (hpr.at rfl) ⟨Nat.le_of_ble_eq_true rfl, Nat.le_of_ble_eq_true rfl⟩ (gargs_cons gP (gargs_cons gint gargs_nil)) good_int (by simp) ?_
  show WS look pr false 36 [] (bodyOf f20) _ _ _
  simp only [bodyOf, f20]
  have w1 : IntKind.i64.wrap (1 + (p.spine.length : Int)) = 1 + p.spine.length := wrap_in (by omega) (by omega)
  have w2 : IntKind.i64.wrap (1 + (p.spine.length : Int) + p.moves.length) = 1 + p.spine.length + p.moves.length := wrap_in (by omega) (by omega)
  have w3 : IntKind.i64.wrap (s + (1 + (p.spine.length : Int) + p.moves.length)) = s + (1 + p.spine.length + p.moves.length) := wrap_in (by omega) (by omega)
  refine WS_reg fun K gs P hK hgs hP => ?_
  refine o_box rfl rfl zP fP rP ?_
  refine o_box rfl rfl sz3 rfl rfl ?_
  refine o_as rfl rfl ?_
  refine o_nil (hK _ _ ?_); (try clear hK hP hgs K gs P)
  refine WS_reg fun K gs P hK hgs hP => ?_
  refine o_ld rfl rfl (ldb box_push (pl3.trans rfl)) ?_
  refine o_fa rfl rfl fa30_4 ?_
  refine o_ld rfl rfl (ldb (box_push_of box_push) (pl26.trans cP4)) ?_
  refine o_len rfl rfl rfl lU ?_
  refine o_bin rfl rfl rfl add_int ?_
  rw [w1]
  refine o_fa rfl rfl fa30_5 ?_
  refine o_ld rfl rfl (ldb (box_push_of box_push) (pl27.trans cP5)) ?_
  refine o_len rfl rfl rfl lM ?_
  refine o_bin rfl rfl rfl add_int ?_
  rw [w2]
  refine o_bin rfl rfl rfl add_int ?_
  rw [w3]
  refine o_st rfl rfl (store_box box_push sz3 rfl (Nat.le_of_ble_eq_true rfl) rfl rfl) ?_
  refine o_nil (hK _ _ ?_); (try clear hK hP hgs K gs P)
  refine WS_seqD (l1 := [(2, _), (3, _)]) (sub_cons rfl (sub_cons rfl sub_nil)) [.mark 3] (fun σ => σ.len = 5 ∧ boxOf σ 0 = some (30, (encP p).cells) ∧ boxOf σ 1 = some (3, [.int .i64 (termsN p.terms (s + (1 + p.spine.length + p.moves.length)))]) ∧ σ.boxes[3]? = some .dfr) ?_ ?_
  case refine_2 =>
    refine WS_reg fun K gs P hK hgs hP => ?_
    refine o_ld rfl rfl (ldb (box_upd_of (box_push_of box_push) (nd rfl)) wP) ?_
    refine o_callv rfl rfl (.cons rfl .nil) (terms_call (hpr.at rfl) p _) rfl ?_
    refine o_nil (hK _ _ ?_); (try clear hK hP hgs K gs P)
    refine WS_block ?_
    refine WS.weaken (l0 := [(2, _), (3, _), (19, _)]) (sub_cons rfl (sub_cons rfl (sub_cons rfl sub_nil))) ?_
    refine WS_iter rfl (terms1_iter (hpr.at rfl) (hpr.at rfl) p hsm _) (fun x hx => by obtain ⟨t, _, rfl⟩ := List.mem_map.1 hx; exact ⟨rfl, canonT1⟩) rfl
      (fun i σ => ∃ v, boxOf σ 0 = some (30, (encP p).cells) ∧ boxOf σ 1 = some (3, [.int .i64 v]) ∧ boxOf σ 2 = some (30, (encP p).cells) ∧ 0 ≤ v ∧ termsN (p.terms.drop i) v = termsN p.terms (s + (1 + p.spine.length + p.moves.length)))
      (fun e σ => e = .exit 0 ∧ boxOf σ 0 = some (30, (encP p).cells) ∧ boxOf σ 1 = some (3, [.int .i64 (termsN p.terms (s + (1 + p.spine.length + p.moves.length)))]))
      (fun i σ σ' hb ht ⟨v, h0, h1, h2, h3, h4⟩ => ⟨v, box_same h0 (hb 0 (nl rfl)), box_same h1 (hb 1 (nl rfl)), box_same h2 (hb 2 (nl rfl)), h3, h4⟩)
      (fun e σ σ' hb ht ⟨h, h0, h1⟩ => ⟨h, box_same h0 (hb 0 (nl rfl)), box_same h1 (hb 1 (nl rfl))⟩)
      (fun i σ ⟨v, h0, h1, h2, h3, h4⟩ => h2)
      ⟨_, box_push_of (box_upd_of (box_push_of box_push) (nd rfl)), box_push_of (box_upd' box_push), box_push, by omega, rfl⟩ ?_ ?_ ?_
    · rintro i x σ' hx ⟨v, h0, h1, h2, h3, h4⟩ hle
      obtain ⟨t, ht, rfl⟩ : ∃ t, p.terms[i]? = some t ∧ [encT t] = x := by
        rw [List.getElem?_map] at hx
        cases ht : p.terms[i]? with
        | none => rw [ht] at hx; cases hx
        | some t => rw [ht] at hx; exact ⟨t, rfl, by injection hx⟩
      have hdr : p.terms.drop i = t :: p.terms.drop (i + 1) := by
        have hlt := (List.getElem?_eq_some_iff.1 ht).1
        rw [List.drop_eq_getElem_cons hlt, (List.getElem?_eq_some_iff.1 ht).2]
      refine WS_reg1 fun K gs P hK hgs hP => ?_
      refine o_al rfl zr25 rfl rfl ?_
      refine o_st rfl rfl stT ?_
      refine o_nil (hK _ _ fun tm ht => ⟨rfl, it_fr (Nat.le_refl _) [], fun σ1 g1 g2 g3 => ?_⟩); (try clear hK hP hgs K gs P)
      have hle : 5 ≤ σ'.len := hle
      have hl1 : σ1.len = σ'.len + 1 := g3.trans put_len
      have b1 : boxOf σ1 1 = some (3, [.int .i64 v]) := box_same (box_put_of h1) (g1 1 (nd rfl))
      have b0 : boxOf σ1 0 = some (30, (encP p).cells) := box_same (box_put_of h0) (g1 0 (nd rfl))
      have b2 : boxOf σ1 2 = some (30, (encP p).cells) := box_same (box_put_of h2) (g1 2 (nd rfl))
      have b5 : boxOf σ1 σ'.len = some (25, (encT t).cells) := box_same box_put (g1 _ (show σ'.len ≠ 4 by omega))
      refine WS_of ?_ ht
      refine WS_block ?_
      refine WS_seq ?_
      refine WS_reg fun K gs P hK hgs hP => ?_
      refine o_ld rfl rfl (ldb b1 (pl3.trans rfl)) ?_
      refine o_bin rfl rfl rfl gtr_int ?_
      refine o_nil (hK _ _ ?_); (try clear hK hP hgs K gs P)
      refine WS_cond rfl (fun hb => ?_) (fun hb => ?_)
      · refine WS_exit fun tm ht => ?_
        have hb : v > 20000 := of_decide_eq_true hb
        simp only [thenQ, blockQ]
        refine ⟨trivial, Fr.refl (by omega), .inr ⟨⟨_, rfl⟩, trivial, b0, ?_⟩⟩
        rw [← h4, termsN_stop _ _ hb]; exact b1
      · have hb : ¬ v > 20000 := of_decide_eq_false hb
        refine WS_skip fun tm ht => ?_
        simp only [thenQ, blockQ]; refine WS_of ?_ ht
        have htm := terms_small hsm t (List.mem_of_getElem? ‹p.terms[i]? = some t›)
        have hn := (nodesT_le t v 20000 1073741824 (by omega)).1
        refine WS_reg1 fun K gs P hK hgs hP => ?_
        refine o_ld rfl rfl (ldb b5 wT) ?_
        refine o_ld rfl rfl (ldb b1 (pl3.trans rfl)) ?_
        refine o_call rfl (.cons rfl (.cons rfl (.cons rfl (.cons rfl .nil)))) (nodes_ok (hpr.at rfl) t htm v 20000 1073741824 (by omega) (by omega) (by omega) (by omega) (by omega)) ?_
        refine o_st rfl rfl (store_box b1 sz3 rfl (Nat.le_of_ble_eq_true rfl) rfl rfl) ?_
        refine o_nil (hK _ _ fun tm ht => ?_); (try clear hK hP hgs K gs P)
        simp only [thenQ, blockQ]
        refine ⟨trivial, fr_upd (by omega) (nl rfl), .inl ⟨trivial, _, box_upd_of b0 (nd rfl), box_upd' b1, box_upd_of b2 (nd rfl), by omega, ?_⟩⟩
        rw [← h4, hdr]
        show _ = List.foldl _ _ _
        rw [List.foldl_cons, if_neg hb]; rfl
    · rintro tm σ3 ht hlen hd ⟨v, h0, h1, h2, h3, h4⟩
      rw [List.length_map, List.drop_length] at h4
      have h4 : v = _ := h4
      simp only [thenQ, blockQ]
      exact ⟨rfl, ht.sub (sub_cons rfl (sub_cons rfl sub_nil)), hlen, h0, h4 ▸ h1, hd⟩
    · rintro e tm σ3 ht hlen hd ⟨rfl, h0, h1⟩
      simp only [thenQ, blockQ, if_true]
      exact ⟨rfl, ht.sub (sub_cons rfl (sub_cons rfl sub_nil)), hlen, h0, h1, hd⟩
  case refine_1 =>
    rintro σ ⟨hlen, h0, h1, hd⟩
    have hts := termsN_le p.terms (s + (1 + p.spine.length + p.moves.length))
    refine WS_seqD (l1 := [(3, _)]) (sub_cons rfl sub_nil) [.mark 6, .mark 3] (fun σ => boxOf σ 1 = some (3, [.int .i64 (sizeP p s)]) ∧ σ.boxes[3]? = some .dfr ∧ σ.boxes[6]? = some .dfr) ?_ ?_
    case refine_2 =>
      refine WS_reg fun K gs P hK hgs hP => ?_
      refine o_ld rfl rfl (ldb h0 wP) ?_
      refine o_callv rfl rfl (.cons rfl .nil) (kids_call (hpr.at rfl) p _) rfl ?_
      refine o_nil (hK _ _ ?_); (try clear hK hP hgs K gs P)
      obtain ⟨τ, hτ⟩ : ∃ τ, τ = σ.push (.cells 30 (encP p).cells) := ⟨_, rfl⟩
      show WS look pr false 36 _ _ _ (σ.push (.cells 30 (encP p).cells)) _
      have hl5 : τ.len = 6 := by rw [hτ, push_len, hlen]
      have k1 := hτ ▸ box_push_of (o := .cells 30 (encP p).cells) h1
      have k5 : boxOf τ 5 = some (30, (encP p).cells) := by rw [hτ, ← hlen]; exact box_push
      have k3 : τ.boxes[3]? = some .dfr := by rw [hτ]; exact (List.getElem?_append_left (by rw [show σ.boxes.length = 5 from hlen]; exact nl rfl)).trans hd
      rw [← hτ, hlen]
      refine WS_block ?_
      refine WS.weaken (l0 := [(2, _), (3, _), (27, _)]) (sub_cons rfl (sub_cons rfl (sub_cons rfl sub_nil))) ?_
      refine WS_iter rfl (kids1_iter (hpr.at rfl) p hsm _) (fun x hx => by obtain ⟨t, _, rfl⟩ := List.mem_map.1 hx; exact ⟨rfl, canonI⟩) rfl
        (fun i σ' => ∃ v, boxOf σ' 1 = some (3, [.int .i64 v]) ∧ boxOf σ' 5 = some (30, (encP p).cells) ∧ 0 ≤ v ∧ kidsN ((p.kids.drop i).map sizeP) v = sizeP p s ∧ σ'.boxes[3]? = some .dfr)
        (fun e σ' => e = .exit 2 ∧ boxOf σ' 1 = some (3, [.int .i64 (sizeP p s)]) ∧ σ'.boxes[3]? = some .dfr)
        (fun i σ σ' hb ht ⟨v, h1, h2, h3, h4, h5⟩ => ⟨v, box_same h1 (hb 1 (by rw [hl5]; exact nl rfl)), box_same h2 (hb 5 (by rw [hl5]; exact nl rfl)), h3, h4, by rw [hb 3 (by rw [hl5]; exact nl rfl)]; exact h5⟩)
        (fun e σ σ' hb ht ⟨h, h1, h5⟩ => ⟨h, box_same h1 (hb 1 (by rw [hl5]; exact nl rfl)), by rw [hb 3 (by rw [hl5]; exact nl rfl)]; exact h5⟩)
        (fun i σ ⟨v, h1, h2, h3, h4, h5⟩ => h2)
        ⟨_, k1, k5, by omega, (sizeP_eq p s).symm, k3⟩ ?_ ?_ ?_
      · rintro i x σ' hx ⟨v, h1, h2, h3, h4, h5⟩ hle
        obtain ⟨k, hk, rfl⟩ : ∃ k, p.kidsI[i]? = some k ∧ encI k = x := by
          rw [List.getElem?_map] at hx
          cases hk : p.kidsI[i]? with
          | none => rw [hk] at hx; cases hx
          | some t => rw [hk] at hx; exact ⟨t, rfl, by injection hx⟩
        obtain ⟨ki, x⟩ := k
        have hkk : p.kids[i]? = some x := by rw [← Proof.kidsI_snd, List.getElem?_map, hk]; rfl
        have hxm := List.mem_of_getElem? hkk
        have hdr : p.kids.drop i = x :: p.kids.drop (i + 1) := by
          have hlt := (List.getElem?_eq_some_iff.1 hkk).1
          rw [List.drop_eq_getElem_cons hlt, (List.getElem?_eq_some_iff.1 hkk).2]
        rw [hl5] at hle ⊢
        refine WS_reg1 fun K gs P hK hgs hP => ?_
        refine o_al rfl zr30 rfl rfl ?_
        refine o_st rfl rfl stP ?_
        refine o_nil (hK _ _ fun tm ht => ⟨rfl, it_fr (Nat.le_refl _) [], fun σ1 g1 g2 g3 => ?_⟩); (try clear hK hP hgs K gs P)
        have hl1 : σ1.len = σ'.len + 1 := g3.trans put_len
        have b1 : boxOf σ1 1 = some (3, [.int .i64 v]) := box_same (box_put_of h1) (g1 1 (nd rfl))
        have b2 : boxOf σ1 5 = some (30, (encP p).cells) := box_same (box_put_of h2) (g1 5 (nd rfl))
        have b3 : σ1.boxes[3]? = some .dfr := (g1 3 (nd rfl)).trans ((List.getElem?_append_left (by show 3 < σ'.len; omega)).trans h5)
        have b5 : boxOf σ1 σ'.len = some (30, (encP x).cells) := box_same box_put (g1 _ (by omega))
        refine WS_of ?_ ht
        refine WS_block ?_
        refine WS_seq ?_
        refine WS_reg fun K gs P hK hgs hP => ?_
        refine o_ld rfl rfl (ldb b1 (pl3.trans rfl)) ?_
        refine o_bin rfl rfl rfl gtr_int ?_
        refine o_nil (hK _ _ ?_); (try clear hK hP hgs K gs P)
        refine WS_cond rfl (fun hb => ?_) (fun hb => ?_)
        · refine WS_exit fun tm ht => ?_
          have hb : v > 20000 := of_decide_eq_true hb
          simp only [thenQ, blockQ]
          refine ⟨trivial, Fr.refl (by omega), .inr ⟨⟨_, rfl⟩, trivial, ?_, b3⟩⟩
          rw [← h4, kidsN_stop _ _ hb]; exact b1
        · have hb : ¬ v > 20000 := of_decide_eq_false hb
          refine WS_skip fun tm ht => ?_
          simp only [thenQ, blockQ]; refine WS_of ?_ ht
          have hn := sizeP_le x v
          refine WS_reg1 fun K gs P hK hgs hP => ?_
          refine o_ld rfl rfl (ldb b5 wP) ?_
          refine o_ld rfl rfl (ldb b1 (pl3.trans rfl)) ?_
          refine o_call rfl (.cons rfl (.cons rfl .nil)) (ih x hxm (hS.2 x hxm) v h3 (by omega)) ?_
          refine o_st rfl rfl (store_box b1 sz3 rfl (Nat.le_of_ble_eq_true rfl) rfl rfl) ?_
          refine o_nil (hK _ _ fun tm ht => ?_); (try clear hK hP hgs K gs P)
          simp only [thenQ, blockQ]
          refine ⟨trivial, fr_upd (by omega) (nl rfl), .inl ⟨trivial, _, box_upd' b1, box_upd_of b2 (nd rfl), by omega, ?_, ?_⟩⟩
          · rw [← h4, hdr, List.map_cons]
            show _ = List.foldl _ _ _
            rw [List.foldl_cons, if_neg hb]; rfl
          · exact (List.getElem?_set_ne (nd rfl)).trans b3
      · rintro tm σ3 ht hlen3 hd3 ⟨v, h1, h2, h3, h4, h5⟩
        rw [List.length_map, ← List.length_map (f := Prod.snd), Proof.kidsI_snd, List.drop_length] at h4
        have h4 : v = _ := h4
        simp only [thenQ, blockQ]
        exact ⟨by rw [hl5], ht.sub (sub_cons rfl sub_nil), h4 ▸ h1, h5, by rw [← hl5]; exact hd3⟩
      · rintro e tm σ3 ht hlen3 hd3 ⟨rfl, h1, h5⟩
        simp only [thenQ, blockQ, if_true]
        exact ⟨by rw [hl5], ht.sub (sub_cons rfl sub_nil), h1, h5, by rw [← hl5]; exact hd3⟩
    case refine_1 =>
      rintro σ ⟨h1, h3, h6⟩
      refine WS_reg fun K gs P hK hgs hP => ?_
      refine o_ld rfl rfl (ldb h1 (pl3.trans rfl)) ?_
      refine o_as rfl rfl ?_
      refine o_nil (hK _ _ ?_); (try clear hK hP hgs K gs P)
      refine WS_ret fun tm ht => ?_
      obtain ⟨σ', hm, _⟩ := marks2 h6 h3 (nd rfl)
      exact endM_tmp ht rfl hm rfl
end Go.Lg
end
section
set_option linter.unusedSimpArgs false
set_option maxRecDepth 20000
namespace Go.Lg
open Go.Proofs.Tryz
variable {pr : Prim}
theorem fn6 : look.fnOf 6 = some fl6 := by kernel_rfl
theorem Size_ok (hpr : NoPr pr) (p : Proof) (hsm : p.Small) : Ret look pr 6 [encP p] (.int .i64 (min (sizeP p 0) 20001)) := by
  refine Ret.of (fn := fl6) fn6 (hpr.at rfl) ⟨Nat.le_of_ble_eq_true rfl, Nat.le_of_ble_eq_true rfl⟩ (gargs_cons gP gargs_nil) good_int (by simp) ?_
  show WS look pr false 6 [] (bodyOf f6) _ _ _
  simp only [bodyOf, f6]
  refine WS_reg fun K gs P hK hgs hP => ?_
  refine o_box rfl rfl zP fP rP ?_
  refine o_as rfl rfl ?_
  refine o_nil (hK _ _ ?_); (try clear hK hP hgs K gs P)
  refine WS_reg fun K gs P hK hgs hP => ?_
  refine o_ld rfl rfl (ldb box_push wP) ?_
  refine o_call rfl (.cons rfl (.cons rfl .nil)) (proofNodes_ok hpr p hsm 0 (by omega) (by omega)) ?_
  refine o_min rfl (.cons rfl (.cons rfl .nil)) imin ?_
  refine o_as rfl rfl ?_
  refine o_nil (hK _ _ ?_); (try clear hK hP hgs K gs P)
  refine WS_ret fun tm ht => ?_
  (try simp only [thenQ, blockQ]); refine endQ_tmp ht rfl rfl
def levelsL (l : List (Int → Int)) (most n : Int) : Int := l.foldl (fun n f => if n ≥ most - 1 then n else max n (f (most - 1))) n
def levelsP (p : Proof) : Int → Int := p.fold fun p us bs most => min (levelsL (us.flatten ++ bs) most 0 + 1) most
theorem levelsP_eq (p : Proof) (most : Int) : levelsP p most = min (levelsL (p.kids.map levelsP) most 0 + 1) most := by
  unfold levelsP
  rw [Proof.fold_kids (fun (p : Proof) (bs : List (Int → Int)) (most : Int) => min (levelsL bs most 0 + 1) most)]
theorem levelsL_stop : ∀ (l : List (Int → Int)) (most n : Int), n ≥ most - 1 → levelsL l most n = n
  | [], _, _, h => rfl
  | f :: l, most, n, h => by rw [levelsL, List.foldl_cons, if_pos h]; exact levelsL_stop l most n h
theorem levelsL_le : ∀ (l : List (Int → Int)) (most n : Int), (∀ f ∈ l, f (most - 1) ≤ most - 1) → 0 ≤ n → n ≤ most - 1 → 0 ≤ levelsL l most n ∧ levelsL l most n ≤ most - 1
  | [], _, _, _, h, h' => ⟨h, h'⟩
  | f :: l, most, n, hl, h, h' => by
    rw [levelsL, List.foldl_cons]
    refine levelsL_le l most _ (fun g hg => hl g (by simp [hg])) ?_ ?_
    · split <;> omega
    · have := hl f (by simp); split <;> omega
theorem levelsP_le (p : Proof) (most : Int) : levelsP p most ≤ most := by rw [levelsP_eq]; omega
theorem fn43 : look.fnOf 43 = some fl43 := by kernel_rfl
theorem levels_ok (hpr : NoPr pr) : ∀ p : Proof, p.Small → ∀ most : Int, 1 ≤ most → most ≤ 1000000 → Ret look pr 43 [encP p, .int .i64 most] (.int .i64 (levelsP p most)) := by
  refine Proof.ind fun p ih hsm most hm1 hm2 => ?_
  have hS := ((Proof.small_iff p).1 hsm)
  have hN := levelsL_le (p.kids.map levelsP) most 0 (fun f hf => by obtain ⟨x, _, rfl⟩ := List.mem_map.1 hf; exact levelsP_le x _) (by omega) (by omega)
  refine Ret.ofM (fn := fl43) fn43 (hpr.at rfl) ⟨Nat.le_of_ble_eq_true rfl, Nat.le_of_ble_eq_true rfl⟩ (gargs_cons gP (gargs_cons gint gargs_nil)) good_int (by simp) ?_
  show WS look pr false 26 [] (bodyOf f43) _ _ _
  simp only [bodyOf, f43]
  have w1 : IntKind.i64.wrap (most - 1) = most - 1 := wrap_in (by omega) (by omega)
  refine WS_reg fun K gs P hK hgs hP => ?_
  refine o_box rfl rfl zP fP rP ?_
  refine o_box rfl rfl sz3 rfl rfl ?_
  refine o_as rfl rfl ?_
  refine o_nil (hK _ _ ?_); (try clear hK hP hgs K gs P)
  refine WS_reg fun K gs P hK hgs hP => ?_
  refine o_al rfl zr3 rfl rfl ?_
  refine o_st rfl rfl (stn sz3 rfl rfl rfl) ?_
  refine o_nil (hK _ _ ?_); (try clear hK hP hgs K gs P)
  refine WS_seqD (l1 := [(3, _), (5, _)]) (sub_cons rfl (sub_cons rfl sub_nil)) [.mark 4] (fun σ => boxOf σ 1 = some (3, [.int .i64 most]) ∧ boxOf σ 2 = some (3, [.int .i64 (levelsL (p.kids.map levelsP) most 0)]) ∧ σ.boxes[4]? = some .dfr) ?_ ?_
  case refine_2 =>
    refine WS_reg fun K gs P hK hgs hP => ?_
    refine o_ld rfl rfl (ldb (box_put_of (box_push_of (box_push))) wP) ?_
    refine o_callv rfl rfl (.cons rfl .nil) (kids_call (hpr.at rfl) p _) rfl ?_
    refine o_nil (hK _ _ ?_); (try clear hK hP hgs K gs P)
    refine WS_block ?_
    refine WS.weaken (l0 := [(3, _), (5, _), (9, _)]) (sub_cons rfl (sub_cons rfl (sub_cons rfl (sub_nil)))) ?_
    refine WS_iter rfl (kids1_iter (hpr.at rfl) p hsm _) (fun x hx => by obtain ⟨t, _, rfl⟩ := List.mem_map.1 hx; exact ⟨rfl, canonI⟩) rfl
      (fun i σ => ∃ n, boxOf σ 1 = some (3, [.int .i64 most]) ∧ boxOf σ 2 = some (3, [.int .i64 n]) ∧ boxOf σ 3 = some (30, (encP p).cells) ∧ 0 ≤ n ∧ n ≤ most - 1 ∧ levelsL ((p.kids.drop i).map levelsP) most n = levelsL (p.kids.map levelsP) most 0)
      (fun e σ => e = .exit 0 ∧ boxOf σ 1 = some (3, [.int .i64 most]) ∧ boxOf σ 2 = some (3, [.int .i64 (levelsL (p.kids.map levelsP) most 0)]))
      (fun i σ σ' hb ht ⟨n, h1, h2, h3, h4⟩ => ⟨n, box_same h1 (hb 1 (nl rfl)), box_same h2 (hb 2 (nl rfl)), box_same h3 (hb 3 (nl rfl)), h4⟩)
      (fun e σ σ' hb ht ⟨h, h1, h2⟩ => ⟨h, box_same h1 (hb 1 (nl rfl)), box_same h2 (hb 2 (nl rfl))⟩)
      (fun i σ ⟨n, h1, h2, h3, h4⟩ => h3)
      ⟨0, box_push_of (box_put_of box_push), box_push_of box_put, box_push, by omega, by omega, rfl⟩ ?_ ?_ ?_
    · rintro i x σ' hx ⟨n, h1, h2, h3, h4, h5, h6⟩ hle
      obtain ⟨k, hk, rfl⟩ : ∃ k, p.kidsI[i]? = some k ∧ encI k = x := by
        rw [List.getElem?_map] at hx
        cases hk : p.kidsI[i]? with
        | none => rw [hk] at hx; cases hx
        | some t => rw [hk] at hx; exact ⟨t, rfl, by injection hx⟩
      obtain ⟨ki, x⟩ := k
      have hkk : p.kids[i]? = some x := by rw [← Proof.kidsI_snd, List.getElem?_map, hk]; rfl
      have hxm := List.mem_of_getElem? hkk
      have hdr : p.kids.drop i = x :: p.kids.drop (i + 1) := by
        have hlt := (List.getElem?_eq_some_iff.1 hkk).1
        rw [List.drop_eq_getElem_cons hlt, (List.getElem?_eq_some_iff.1 hkk).2]
      have hle : 6 ≤ σ'.len := hle
      refine WS_reg1 fun K gs P hK hgs hP => ?_
      refine o_al rfl zr30 rfl rfl ?_
      refine o_st rfl rfl stP ?_
      refine o_nil (hK _ _ fun tm ht => ⟨rfl, it_fr (Nat.le_refl _) [], fun σ1 g1 g2 g3 => ?_⟩); (try clear hK hP hgs K gs P)
      have hl1 : σ1.len = σ'.len + 1 := g3.trans put_len
      have b1 : boxOf σ1 1 = some (3, [.int .i64 most]) := box_same (box_put_of h1) (g1 1 (nd rfl))
      have b2 : boxOf σ1 2 = some (3, [.int .i64 n]) := box_same (box_put_of h2) (g1 2 (nd rfl))
      have b3 : boxOf σ1 3 = some (30, (encP p).cells) := box_same (box_put_of h3) (g1 3 (nd rfl))
      have b5 : boxOf σ1 σ'.len = some (30, (encP x).cells) := box_same box_put (g1 _ (show σ'.len ≠ 5 by omega))
      refine WS_of ?_ ht
      refine WS_block ?_
      refine WS_seq ?_
      refine WS_reg fun K gs P hK hgs hP => ?_
      refine o_ld rfl rfl (ldb b2 (pl3.trans rfl)) ?_
      refine o_ld rfl rfl (ldb b1 (pl3.trans rfl)) ?_
      refine o_bin rfl rfl rfl sub_int ?_
      rw [w1]
      refine o_bin rfl rfl rfl geq_int ?_
      refine o_nil (hK _ _ ?_); (try clear hK hP hgs K gs P)
      refine WS_cond rfl (fun hb => ?_) (fun hb => ?_)
      · refine WS_exit fun tm ht => ?_
        have hb : n ≥ most - 1 := of_decide_eq_true hb
        simp only [thenQ, blockQ]
        refine ⟨trivial, Fr.refl (by omega), .inr ⟨⟨_, rfl⟩, trivial, b1, ?_⟩⟩
        rw [← h6, levelsL_stop _ _ _ hb]; exact b2
      · have hb : ¬ n ≥ most - 1 := of_decide_eq_false hb
        refine WS_skip fun tm ht => ?_
        simp only [thenQ, blockQ]; refine WS_of ?_ ht; clear ht tm
        have hn := levelsP_le x (most - 1)
        refine WS_draw1 rfl fun K gs P hK hgs => ?_
        refine d_ld rfl (o_ld rfl rfl (ldb b2 (pl3.trans rfl)) (o_nil ?_))
        refine d_ld rfl (o_ld rfl rfl (ldb b5 wP) (o_nil ?_))
        refine d_ld rfl (o_ld rfl rfl (ldb b1 (pl3.trans rfl)) (o_nil ?_))
        refine d_p rfl rfl rfl (fun _ => rfl) (o_bin rfl rfl rfl sub_int (o_nil ?_))
        rw [w1]
        refine d_call rfl (.cons rfl (.cons rfl .nil)) (ih x hxm (hS.2 x hxm) (most - 1) (by omega) (by omega)) ?_
        refine d_p rfl rfl rfl (fun _ => rfl) (o_max rfl (.cons rfl (.cons rfl .nil)) imax (o_nil ?_))
        refine d_st rfl (o_st rfl rfl (store_box b2 sz3 rfl (Nat.le_of_ble_eq_true rfl) rfl rfl) (o_nil ?_))
        refine d_nil (hK _ _ _ (by kernel_rfl) fun tm ht => ?_); (try clear hK hgs K gs P)
        simp only [thenQ, blockQ]
        refine ⟨trivial, fr_upd (by omega) (nl rfl), .inl ⟨trivial, _, box_upd_of b1 (nd rfl), box_upd' b2, box_upd_of b3 (nd rfl), by omega, by omega, ?_⟩⟩
        rw [← h6, hdr, List.map_cons]
        show _ = List.foldl _ _ _
        rw [List.foldl_cons, if_neg hb]; rfl
    · rintro tm σ3 ht hlen3 hd3 ⟨n, h1, h2, h3, h4, h5, h6⟩
      rw [List.length_map, ← List.length_map (f := Prod.snd), Proof.kidsI_snd, List.drop_length] at h6
      have h6 : n = _ := h6
      simp only [thenQ, blockQ]
      exact ⟨rfl, ht.sub (sub_cons rfl (sub_cons rfl sub_nil)), h1, h6 ▸ h2, hd3⟩
    · rintro e tm σ3 ht hlen3 hd3 ⟨rfl, h1, h2⟩
      simp only [thenQ, blockQ, if_true]
      exact ⟨rfl, ht.sub (sub_cons rfl (sub_cons rfl sub_nil)), h1, h2, hd3⟩
  case refine_1 =>
    rintro σ ⟨h1, h2, h4⟩
    have w2 : IntKind.i64.wrap (levelsL (p.kids.map levelsP) most 0 + 1) = levelsL (p.kids.map levelsP) most 0 + 1 := wrap_in (by omega) (by omega)
    refine WS_reg fun K gs P hK hgs hP => ?_
    refine o_ld rfl rfl (ldb h2 (pl3.trans rfl)) ?_
    refine o_bin rfl rfl rfl add_int ?_
    rw [w2]
    refine o_ld rfl rfl (ldb h1 (pl3.trans rfl)) ?_
    refine o_min rfl (.cons rfl (.cons rfl .nil)) imin ?_
    refine o_as rfl rfl ?_
    refine o_nil (hK _ _ ?_); (try clear hK hP hgs K gs P)
    refine WS_ret fun tm ht => ?_
    obtain ⟨σ', hm, _⟩ := marks1 h4
    refine endM_tmp ht rfl hm ?_
    rw [levelsP_eq]; rfl
theorem fn21 : look.fnOf 21 = some fl21 := by kernel_rfl
theorem Levels_ok (hpr : NoPr pr) (p : Proof) (hsm : p.Small) : Ret look pr 21 [encP p] (.int .i64 (levelsP p 2001)) := by
  refine Ret.of (fn := fl21) fn21 (hpr.at rfl) ⟨Nat.le_of_ble_eq_true rfl, Nat.le_of_ble_eq_true rfl⟩ (gargs_cons gP gargs_nil) good_int (by simp) ?_
  show WS look pr false 5 [] (bodyOf f21) _ _ _
  simp only [bodyOf, f21]
  refine WS_reg fun K gs P hK hgs hP => ?_
  refine o_box rfl rfl zP fP rP ?_
  refine o_as rfl rfl ?_
  refine o_nil (hK _ _ ?_); (try clear hK hP hgs K gs P)
  refine WS_reg fun K gs P hK hgs hP => ?_
  refine o_ld rfl rfl (ldb box_push wP) ?_
  refine o_call rfl (.cons rfl (.cons rfl .nil)) (levels_ok hpr p hsm 2001 (by omega) (by omega)) ?_
  refine o_as rfl rfl ?_
  refine o_nil (hK _ _ ?_); (try clear hK hP hgs K gs P)
  refine WS_ret fun tm ht => ?_
  (try simp only [thenQ, blockQ]); refine endQ_tmp ht rfl rfl
end Go.Lg
end
