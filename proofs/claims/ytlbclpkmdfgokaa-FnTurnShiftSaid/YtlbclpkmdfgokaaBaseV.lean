/-
  Contracts: impl.vector, BaseVector of the program and of the reference.
-/
import Derived.Test.YtlbclpkmdfgokaaArrV
import Derived.StillTailTactics
import Derived.IntWalk
namespace Go.Proofs.Ytlbclpkmdfgokaa
open Go.RowKit
set_option linter.unusedVariables false

/-- BaseVector. -/
def bvOk (ps : List (Int × Int)) (i j : Int) : Bool := avB ps && (isA ps.length i && isA ps.length j)
def bvX (ps : List (Int × Int)) (i j : Int) : Int := if bvOk ps i j then px ps j.toNat - px ps i.toNat else 0
def bvY (ps : List (Int × Int)) (i j : Int) : Int := if bvOk ps i j then py ps j.toNat - py ps i.toNat else 0
theorem bv_no {ps : List (Int × Int)} {i j : Int} (h : bvOk ps i j = false) : bvX ps i j = 0 ∧ bvY ps i j = 0 := by simp [bvX, bvY, h]
theorem bv_yes {ps : List (Int × Int)} {i j : Int} (h : bvOk ps i j = true) : bvX ps i j = px ps j.toNat - px ps i.toNat ∧ bvY ps i j = py ps j.toNat - py ps i.toNat := by simp [bvX, bvY, h]
theorem bv_true {ps : List (Int × Int)} {i j : Int} : bvOk ps i j = true ↔ avB ps = true ∧ isA ps.length i = true ∧ isA ps.length j = true := by simp only [bvOk, Bool.and_eq_true]
theorem bv_in (ps : List (Int × Int)) (i j : Int) : (-2000 ≤ bvX ps i j ∧ bvX ps i j ≤ 2000) ∧ (-2000 ≤ bvY ps i j ∧ bvY ps i j ≤ 2000) := by
  cases h : bvOk ps i j
  · rw [(bv_no h).1, (bv_no h).2]; omega
  · rw [(bv_yes h).1, (bv_yes h).2]
    obtain ⟨h1, h2, h3⟩ := bv_true.1 h
    obtain ⟨a, rfl, ha⟩ := isA_nat h2
    obtain ⟨b, rfl, hb⟩ := isA_nat h3
    have := av_in h1 (j := a) (by omega)
    have := av_in h1 (j := b) (by omega)
    simp only [Int.toNat_natCast]
    omega
theorem ret_sb {a b a' b' : Int} {p q : Bool} (h : a = a') (h' : b = b') (k : p = q) : Ending.returned (.tuple #[.agg #[.int .i64 a, .int .i64 b], .bool p]) = .returned (.tuple #[.agg #[.int .i64 a', .int .i64 b'], .bool q]) := by rw [h, h', k]
theorem below_drewB {B : Nat} {a w : World} (h : Below B a w) (n : Nat) : Below B a (w.drewN n) := ⟨h.os, h.tape, h.output, h.size, h.block⟩
theorem lawful_set2 {w : World} {a : Nat} {T : TypeId} {x y : Int} (h : w.heap[a]? = some (.cells #[.int .i64 x, .int .i64 y] T (0, 0))) (u v : Int) :
    ((w.setCell ⟨a, 0, none⟩ (.int .i64 u)).setCell ⟨a, 1, none⟩ (.int .i64 v)).heap[a]? = some (.cells #[.int .i64 u, .int .i64 v] T (0, 0)) := by
  simp [World.setCell, Array.getElem?_modify, h]
theorem row_c0 {w : World} {a : Nat} {T : TypeId} {x y : Int} (h : w.heap[a]? = some (.cells #[.int .i64 x, .int .i64 y] T (0, 0))) : w.cell? ⟨a, 0, none⟩ = some (.int .i64 x) := by rw [cell_of_row _ _ 0 _ _ _ h]; rfl
theorem row_c1 {w : World} {a : Nat} {T : TypeId} {x y : Int} (h : w.heap[a]? = some (.cells #[.int .i64 x, .int .i64 y] T (0, 0))) : w.cell? ⟨a, 1, none⟩ = some (.int .i64 y) := by rw [cell_of_row _ _ 1 _ _ _ h]; rfl
theorem row_fz {w : World} {a : Nat} {T : TypeId} {x y : Int} (h : w.heap[a]? = some (.cells #[.int .i64 x, .int .i64 y] T (0, 0))) (o : Nat) : w.frozen? ⟨a, o, none⟩ = false := by simp [World.frozen?, h]

set_option maxHeartbeats 2000000 in
theorem vector_any (A : Option Addr) (n c : Nat) (ps : List (Int × Int)) (i j : Nat) (w : World) (hz : Prs w A n ps) (hn : n ≤ 1048577) (hi : i < n) (hj : j < n)
    (bi : (-1000 ≤ px ps i ∧ px ps i ≤ 1000) ∧ (-1000 ≤ py ps i ∧ py ps i ≤ 1000)) (bj : (-1000 ≤ px ps j ∧ px ps j ≤ 1000) ∧ (-1000 ≤ py ps j ∧ py ps j ≤ 1000)) :
    Calls Try.prog 37 #[.slice A n c, .int .i64 (i : Int), .int .i64 (j : Int)] w fun e w' => e = .returned (.agg #[.int .i64 (px ps j - px ps i), .int .i64 (py ps j - py ps i)]) ∧ Below w.heap.size w w' := by
  have hba := below_alloc w (.cells #[.int .i64 0, .int .i64 0] 27)
  have z0 := heap_alloc_new w (.cells #[.int .i64 0, .int .i64 0] 27)
  obtain ⟨b, off, rfl, hb, hc⟩ := (hz.below hba).at_ (by omega)
  obtain ⟨c1, c2⟩ := hc i hi
  obtain ⟨c3, c4⟩ := hc j hj
  clear hc
  have hii : (i : Int) < (n : Int) := by omega
  have hjj : (j : Int) < (n : Int) := by omega
  generalize px ps i = a1 at bi c1 ⊢
  generalize py ps i = a2 at bi c2 ⊢
  generalize px ps j = b1 at bj c3 ⊢
  generalize py ps j = b2 at bj c4 ⊢
  have V1 : Hid (IntKind.i64.wrap (b1 - a1) = b1 - a1) := IntWalk.i64_in _ (by omega)
  have V2 : Hid (IntKind.i64.wrap (b2 - a2) = b2 - a2) := IntWalk.i64_in _ (by omega)
  clear bi bj
  go_enter Try.func37, Try.ntmps37
  go_wp2
  generalize w.alloc (.cells #[.int .i64 0, .int .i64 0] 27) = W at hba z0 c1 c2 c3 c4 hb ⊢
  have v1 := V1.out
  have v2 := V2.out
  go_still_tail 23, (by kernel_rfl)
  clear v1 v2
  change wpList _ _ _ _ _ W.drew
  have z1 : W.drew.heap[w.heap.size]? = some (.cells #[.int .i64 0, .int .i64 0] 27 (0, 0)) := z0
  have hbd := below_drew hba
  generalize W.drew = W2 at z1 hbd ⊢
  have r := lawful_set2 z1 (b1 - a1) (b2 - a2)
  have q1 := row_c0 z1
  have q2 := row_c1 z1
  have q3 := row_fz z1 0
  have q4 := row_fz z1 1
  have r0 := row_c0 r
  have r1 := row_c1 r
  go_wp2
  exact bodyPost_ret (v := .agg #[.int .i64 (b1 - a1), .int .i64 (b2 - a2)]) (by simp [results, Try.results37, go_sem, r0, r1]) rfl ⟨rfl, (hbd.setCell (p := ⟨w.heap.size, 0, none⟩) (Nat.le_refl _) _).setCell (p := ⟨w.heap.size, 1, none⟩) (Nat.le_refl _) _⟩

theorem heap_lt' {w : World} {g : Nat} {o : Obj} (h : w.heap[g]? = some o) : g < w.heap.size := by
  rcases Nat.lt_or_ge g w.heap.size with hlt | hge
  · exact hlt
  · rw [Array.getElem?_eq_none hge] at h; cases h

set_option maxHeartbeats 4000000 in
theorem iBaseV_any (A : Option Addr) (n c : Nat) (ps : List (Int × Int)) (i j : Int) (w : World) (hz : Prs w A n ps) (hn : n ≤ 1048577) (hc : n ≤ c) :
    Calls Try.prog 16 #[.slice A n c, .int .i64 i, .int .i64 j] w (RetSB w (bvX ps i j) (bvY ps i j) (bvOk ps i j)) := by
  have HL := Lib.hid hz.len
  have hba := below_alloc w (.cells #[.int .i64 0, .int .i64 0] 27)
  have z0 := heap_alloc_new w (.cells #[.int .i64 0, .int .i64 0] 27)
  have hz0 := hz.below hba
  cases hv : avB ps
  · have HA := Lib.hid hv
    have H0 : Hid (bvOk ps i j = false) := by unfold bvOk; rw [hv]; rfl
    have HX := Lib.hid (bv_no H0.out)
    clear hv
    go_enter Try.func16, Try.ntmps16
    go_wp2_with fail
    refine (iArrayV_any _ _ _ ps _ hz0 hn hc).mono ?_
    rintro e w1 ⟨he, hb1⟩
    rw [HA.out] at he
    subst he
    have z1 := (hb1.block w.heap.size (heap_lt' z0)).trans z0
    have r := lawful_set2 z1 0 0
    have q1 := row_c0 z1
    have q2 := row_c1 z1
    have q3 := row_fz z1 0
    have q4 := row_fz z1 1
    have r0 := row_c0 r
    have r1 := row_c1 r
    have B1 := ((below_step hba hb1).setCell (p := ⟨w.heap.size, 0, none⟩) (Nat.le_refl _) (.int .i64 0)).setCell (p := ⟨w.heap.size, 1, none⟩) (Nat.le_refl _) (.int .i64 0)
    go_wp2
    exact bodyPost_ret (v := .tuple #[.agg #[.int .i64 0, .int .i64 0], .bool false]) (by simp [results, Try.results16, go_sem, r0, r1]) rfl ⟨ret_sb HX.out.1.symm HX.out.2.symm H0.out.symm, B1⟩
  have HA := Lib.hid hv
  cases hi : isA ps.length i
  · have HI : Hid (isA (n : Int) i = false) := by rw [HL.out] at hi; exact hi
    have H0 : Hid (bvOk ps i j = false) := by unfold bvOk; rw [hv, hi]; rfl
    have HX := Lib.hid (bv_no H0.out)
    clear hv hi
    go_enter Try.func16, Try.ntmps16
    go_wp2_with fail
    refine (iArrayV_any _ _ _ ps _ hz0 hn hc).mono ?_
    rintro e w1 ⟨he, hb1⟩
    rw [HA.out] at he
    subst he
    have z1 := (hb1.block w.heap.size (heap_lt' z0)).trans z0
    go_wp2_with fail
    refine (isAnt_any _ _ _ (by omega) (by omega)).mono ?_
    rintro e w' ⟨he, rfl⟩
    rw [HI.out] at he
    subst he
    have r := lawful_set2 z1 0 0
    have q1 := row_c0 z1
    have q2 := row_c1 z1
    have q3 := row_fz z1 0
    have q4 := row_fz z1 1
    have r0 := row_c0 r
    have r1 := row_c1 r
    have B1 := ((below_step hba hb1).setCell (p := ⟨w.heap.size, 0, none⟩) (Nat.le_refl _) (.int .i64 0)).setCell (p := ⟨w.heap.size, 1, none⟩) (Nat.le_refl _) (.int .i64 0)
    go_wp2
    exact bodyPost_ret (v := .tuple #[.agg #[.int .i64 0, .int .i64 0], .bool false]) (by simp [results, Try.results16, go_sem, r0, r1]) rfl ⟨ret_sb HX.out.1.symm HX.out.2.symm H0.out.symm, B1⟩
  have HI : Hid (isA (n : Int) i = true) := by rw [HL.out] at hi; exact hi
  cases hj : isA ps.length j
  · have HJ : Hid (isA (n : Int) j = false) := by rw [HL.out] at hj; exact hj
    have H0 : Hid (bvOk ps i j = false) := by unfold bvOk; rw [hv, hi, hj]; rfl
    have HX := Lib.hid (bv_no H0.out)
    clear hv hi hj
    go_enter Try.func16, Try.ntmps16
    go_wp2_with fail
    refine (iArrayV_any _ _ _ ps _ hz0 hn hc).mono ?_
    rintro e w1 ⟨he, hb1⟩
    rw [HA.out] at he
    subst he
    have z1 := (hb1.block w.heap.size (heap_lt' z0)).trans z0
    go_wp2_with fail
    refine (isAnt_any _ _ _ (by omega) (by omega)).mono ?_
    rintro e w' ⟨he, rfl⟩
    rw [HI.out] at he
    subst he
    go_wp2_with fail
    refine (isAnt_any _ _ _ (by omega) (by omega)).mono ?_
    rintro e w' ⟨he, rfl⟩
    rw [HJ.out] at he
    subst he
    have r := lawful_set2 z1 0 0
    have q1 := row_c0 z1
    have q2 := row_c1 z1
    have q3 := row_fz z1 0
    have q4 := row_fz z1 1
    have r0 := row_c0 r
    have r1 := row_c1 r
    have B1 := ((below_step hba hb1).setCell (p := ⟨w.heap.size, 0, none⟩) (Nat.le_refl _) (.int .i64 0)).setCell (p := ⟨w.heap.size, 1, none⟩) (Nat.le_refl _) (.int .i64 0)
    go_wp2
    exact bodyPost_ret (v := .tuple #[.agg #[.int .i64 0, .int .i64 0], .bool false]) (by simp [results, Try.results16, go_sem, r0, r1]) rfl ⟨ret_sb HX.out.1.symm HX.out.2.symm H0.out.symm, B1⟩
  · have HJ : Hid (isA (n : Int) j = true) := by rw [HL.out] at hj; exact hj
    have H0 : Hid (bvOk ps i j = true) := by unfold bvOk; rw [hv, hi, hj]; rfl
    have HX := Lib.hid (bv_yes H0.out)
    obtain ⟨a, rfl, ha⟩ := isA_nat hi
    obtain ⟨b, rfl, hb⟩ := isA_nat hj
    rw [HL.out] at ha hb
    have han : a < n := by omega
    have hbn : b < n := by omega
    have bi := av_in hv (j := a) (by rw [HL.out]; exact han)
    have bj := av_in hv (j := b) (by rw [HL.out]; exact hbn)
    have HX1 : Hid (bvX ps (a : Int) (b : Int) = px ps b - px ps a) := HX.out.1
    have HX2 : Hid (bvY ps (a : Int) (b : Int) = py ps b - py ps a) := HX.out.2
    clear hv hi hj HX
    go_enter Try.func16, Try.ntmps16
    go_wp2_with fail
    refine (iArrayV_any _ _ _ ps _ hz0 hn hc).mono ?_
    rintro e w1 ⟨he, hb1⟩
    rw [HA.out] at he
    subst he
    go_wp2_with fail
    refine (isAnt_any _ _ _ (by omega) (by omega)).mono ?_
    rintro e w' ⟨he, rfl⟩
    rw [HI.out] at he
    subst he
    go_wp2_with fail
    refine (isAnt_any _ _ _ (by omega) (by omega)).mono ?_
    rintro e w' ⟨he, rfl⟩
    rw [HJ.out] at he
    subst he
    go_wp2_with fail
    refine (vector_any _ _ _ ps a b _ (hz0.below hb1) hn han hbn bi bj).mono ?_
    rintro e w2 ⟨rfl, hb2⟩
    have hB2 := below_step (below_step hba hb1) hb2
    have z2 := (hb2.block w.heap.size (heap_lt' ((hb1.block w.heap.size (heap_lt' z0)).trans z0))).trans ((hb1.block w.heap.size (heap_lt' z0)).trans z0)
    have r := lawful_set2 z2 (px ps b - px ps a) (py ps b - py ps a)
    have q1 := row_c0 z2
    have q2 := row_c1 z2
    have q3 := row_fz z2 0
    have q4 := row_fz z2 1
    have r0 := row_c0 r
    have r1 := row_c1 r
    have B3 := (hB2.setCell (p := ⟨w.heap.size, 0, none⟩) (Nat.le_refl _) (.int .i64 (px ps b - px ps a))).setCell (p := ⟨w.heap.size, 1, none⟩) (Nat.le_refl _) (.int .i64 (py ps b - py ps a))
    go_wp2
    exact bodyPost_ret (v := .tuple #[.agg #[.int .i64 (px ps b - px ps a), .int .i64 (py ps b - py ps a)], .bool true]) (by simp [results, Try.results16, go_sem, r0, r1]) rfl ⟨ret_sb HX1.out.symm HX2.out.symm H0.out.symm, B3⟩

set_option maxHeartbeats 4000000 in
theorem sBaseV_any (A : Option Addr) (n c : Nat) (ps : List (Int × Int)) (i j : Int) (w : World) (hz : Prs w A n ps) (hn : n ≤ 1048577) (hc : n ≤ c) :
    Calls Try.prog 17 #[.slice A n c, .int .i64 i, .int .i64 j] w (RetSB w (bvX ps i j) (bvY ps i j) (bvOk ps i j)) := by
  have HL := Lib.hid hz.len
  have hba := below_alloc w (.cells #[.int .i64 0, .int .i64 0] 27)
  have z0 := heap_alloc_new w (.cells #[.int .i64 0, .int .i64 0] 27)
  have hz0 := hz.below hba
  cases hv : avB ps
  · have HA := Lib.hid hv
    have H0 : Hid (bvOk ps i j = false) := by unfold bvOk; rw [hv]; rfl
    have HX := Lib.hid (bv_no H0.out)
    clear hv
    go_enter Try.func17, Try.ntmps17
    go_wp2_with fail
    refine (sArrayV_any _ _ _ ps _ hz0 hn hc).mono ?_
    rintro e w1 ⟨he, hb1⟩
    rw [HA.out] at he
    subst he
    have z1 := (hb1.block w.heap.size (heap_lt' z0)).trans z0
    have r := lawful_set2 z1 0 0
    have q1 := row_c0 z1
    have q2 := row_c1 z1
    have q3 := row_fz z1 0
    have q4 := row_fz z1 1
    have r0 := row_c0 r
    have r1 := row_c1 r
    have B1 := ((below_step hba hb1).setCell (p := ⟨w.heap.size, 0, none⟩) (Nat.le_refl _) (.int .i64 0)).setCell (p := ⟨w.heap.size, 1, none⟩) (Nat.le_refl _) (.int .i64 0)
    go_wp2
    exact bodyPost_ret (v := .tuple #[.agg #[.int .i64 0, .int .i64 0], .bool false]) (by simp [results, Try.results17, go_sem, r0, r1]) rfl ⟨ret_sb HX.out.1.symm HX.out.2.symm H0.out.symm, B1⟩
  have HA := Lib.hid hv
  cases hi : isA ps.length i
  · have HI : Hid (betB i 0 ((n : Int) - 1) = false) := by rw [HL.out] at hi; exact hi
    have H0 : Hid (bvOk ps i j = false) := by unfold bvOk; rw [hv, hi]; rfl
    have HX := Lib.hid (bv_no H0.out)
    clear hv hi
    go_enter Try.func17, Try.ntmps17
    go_wp2_with fail
    refine (sArrayV_any _ _ _ ps _ hz0 hn hc).mono ?_
    rintro e w1 ⟨he, hb1⟩
    rw [HA.out] at he
    subst he
    have z1 := (hb1.block w.heap.size (heap_lt' z0)).trans z0
    go_wp2_with fail
    refine (l6In_any _ _ _ _).mono ?_
    rintro e w' ⟨he, rfl⟩
    rw [HI.out] at he
    subst he
    have r := lawful_set2 z1 0 0
    have q1 := row_c0 z1
    have q2 := row_c1 z1
    have q3 := row_fz z1 0
    have q4 := row_fz z1 1
    have r0 := row_c0 r
    have r1 := row_c1 r
    have B1 := ((below_step hba hb1).setCell (p := ⟨w.heap.size, 0, none⟩) (Nat.le_refl _) (.int .i64 0)).setCell (p := ⟨w.heap.size, 1, none⟩) (Nat.le_refl _) (.int .i64 0)
    go_wp2
    exact bodyPost_ret (v := .tuple #[.agg #[.int .i64 0, .int .i64 0], .bool false]) (by simp [results, Try.results17, go_sem, r0, r1]) rfl ⟨ret_sb HX.out.1.symm HX.out.2.symm H0.out.symm, B1⟩
  have HI : Hid (betB i 0 ((n : Int) - 1) = true) := by rw [HL.out] at hi; exact hi
  cases hj : isA ps.length j
  · have HJ : Hid (betB j 0 ((n : Int) - 1) = false) := by rw [HL.out] at hj; exact hj
    have H0 : Hid (bvOk ps i j = false) := by unfold bvOk; rw [hv, hi, hj]; rfl
    have HX := Lib.hid (bv_no H0.out)
    clear hv hi hj
    go_enter Try.func17, Try.ntmps17
    go_wp2_with fail
    refine (sArrayV_any _ _ _ ps _ hz0 hn hc).mono ?_
    rintro e w1 ⟨he, hb1⟩
    rw [HA.out] at he
    subst he
    have z1 := (hb1.block w.heap.size (heap_lt' z0)).trans z0
    go_wp2_with fail
    refine (l6In_any _ _ _ _).mono ?_
    rintro e w' ⟨he, rfl⟩
    rw [HI.out] at he
    subst he
    go_wp2_with fail
    refine (l6In_any _ _ _ _).mono ?_
    rintro e w' ⟨he, rfl⟩
    rw [HJ.out] at he
    subst he
    have r := lawful_set2 z1 0 0
    have q1 := row_c0 z1
    have q2 := row_c1 z1
    have q3 := row_fz z1 0
    have q4 := row_fz z1 1
    have r0 := row_c0 r
    have r1 := row_c1 r
    have B1 := ((below_step hba hb1).setCell (p := ⟨w.heap.size, 0, none⟩) (Nat.le_refl _) (.int .i64 0)).setCell (p := ⟨w.heap.size, 1, none⟩) (Nat.le_refl _) (.int .i64 0)
    go_wp2
    exact bodyPost_ret (v := .tuple #[.agg #[.int .i64 0, .int .i64 0], .bool false]) (by simp [results, Try.results17, go_sem, r0, r1]) rfl ⟨ret_sb HX.out.1.symm HX.out.2.symm H0.out.symm, B1⟩
  · have HJ : Hid (betB j 0 ((n : Int) - 1) = true) := by rw [HL.out] at hj; exact hj
    have H0 : Hid (bvOk ps i j = true) := by unfold bvOk; rw [hv, hi, hj]; rfl
    have HX := Lib.hid (bv_yes H0.out)
    obtain ⟨a, rfl, ha⟩ := isA_nat hi
    obtain ⟨b, rfl, hb⟩ := isA_nat hj
    rw [HL.out] at ha hb
    have han : a < n := by omega
    have hbn : b < n := by omega
    have bi := av_in hv (j := a) (by rw [HL.out]; exact han)
    have bj := av_in hv (j := b) (by rw [HL.out]; exact hbn)
    have HX1 : Hid (bvX ps (a : Int) (b : Int) = px ps b - px ps a) := HX.out.1
    have HX2 : Hid (bvY ps (a : Int) (b : Int) = py ps b - py ps a) := HX.out.2
    clear hv hi hj HX
    go_enter Try.func17, Try.ntmps17
    go_wp2_with fail
    refine (sArrayV_any _ _ _ ps _ hz0 hn hc).mono ?_
    rintro e w1 ⟨he, hb1⟩
    rw [HA.out] at he
    subst he
    go_wp2_with fail
    refine (l6In_any _ _ _ _).mono ?_
    rintro e w' ⟨he, rfl⟩
    rw [HI.out] at he
    subst he
    go_wp2_with fail
    refine (l6In_any _ _ _ _).mono ?_
    rintro e w' ⟨he, rfl⟩
    rw [HJ.out] at he
    subst he
    have hB1 := below_step hba hb1
    have z1 := (hb1.block w.heap.size (heap_lt' z0)).trans z0
    obtain ⟨b0, off, rfl, hbb, hcc⟩ := (hz0.below hb1).at_ (by omega)
    obtain ⟨c1, c2⟩ := hcc a han
    obtain ⟨c3, c4⟩ := hcc b hbn
    clear hcc
    generalize px ps a = a1 at bi c1 HX1 ⊢
    generalize py ps a = a2 at bi c2 HX2 ⊢
    generalize px ps b = b1 at bj c3 HX1 ⊢
    generalize py ps b = b2 at bj c4 HX2 ⊢
    have haa : (a : Int) < (n : Int) := by omega
    have hbb' : (b : Int) < (n : Int) := by omega
    have V1 : Hid (IntKind.i64.wrap (b1 - a1) = b1 - a1) := IntWalk.i64_in _ (by omega)
    have V2 : Hid (IntKind.i64.wrap (b2 - a2) = b2 - a2) := IntWalk.i64_in _ (by omega)
    clear bi bj
    go_wp2
    have v1 := V1.out
    have v2 := V2.out
    go_still_tail 23, (by kernel_rfl)
    clear v1 v2
    change wpList _ _ _ _ _ w1.drew
    have z2 : w1.drew.heap[w.heap.size]? = some (.cells #[.int .i64 0, .int .i64 0] 27 (0, 0)) := z1
    have hB2 := below_drew hB1
    generalize w1.drew = w2 at z2 hB2 ⊢
    have r := lawful_set2 z2 (b1 - a1) (b2 - a2)
    have q1 := row_c0 z2
    have q2 := row_c1 z2
    have q3 := row_fz z2 0
    have q4 := row_fz z2 1
    have r0 := row_c0 r
    have r1 := row_c1 r
    have B3 := (hB2.setCell (p := ⟨w.heap.size, 0, none⟩) (Nat.le_refl _) (.int .i64 (b1 - a1))).setCell (p := ⟨w.heap.size, 1, none⟩) (Nat.le_refl _) (.int .i64 (b2 - a2))
    go_wp2
    exact bodyPost_ret (v := .tuple #[.agg #[.int .i64 (b1 - a1), .int .i64 (b2 - a2)], .bool true]) (by simp [results, Try.results17, go_sem, r0, r1]) rfl ⟨ret_sb HX1.out.symm HX2.out.symm H0.out.symm, B3⟩

end Go.Proofs.Ytlbclpkmdfgokaa
