/-
  The walk of laws.FnDelayBase, FnDelayThree.
-/
import Derived.Test.YtjjogggallapjaaDelay
import Derived.Test.YtjjogggallapjaaBaseV
import Derived.Test.YtjjogggallapjaaDrawDba
namespace Go.Proofs.Ytjjogggallapjaa
open Go.RowKit
set_option linter.unusedVariables false

theorem db_swap {ps : List (Int × Int)} {i j x y : Int} (h : dbOk ps i j x y = true) : dbOk ps j i x y = true := by
  obtain ⟨h1, h2⟩ := db_true.1 h; exact db_true.2 ⟨h2, h1⟩
theorem db_swapV {ps : List (Int × Int)} {i j x y : Int} (h : dbOk ps i j x y = true) : dbV ps j i x y = -(dbV ps i j x y) := by
  rw [db_yes h, db_yes (db_swap h)]; omega
theorem mul_in2 {a b : Int} (ha : -2000 ≤ a ∧ a ≤ 2000) (hb : -1000 ≤ b ∧ b ≤ 1000) : -2000000 ≤ a * b ∧ a * b ≤ 2000000 := by
  have h1 : (a * b).natAbs ≤ 2000 * 1000 := by
    rw [Int.natAbs_mul]; exact Nat.mul_le_mul (by omega) (by omega)
  omega
theorem db_bv {ps : List (Int × Int)} {i j x y : Int} (h : dbOk ps i j x y = true) (hb : bvOk ps i j = true) : bvX ps i j * x + bvY ps i j * y = dbV ps i j x y := by
  obtain ⟨h1, h2⟩ := db_true.1 h
  rw [db_yes h, do_yes h1, do_yes h2, (bv_yes hb).1, (bv_yes hb).2, Int.sub_mul, Int.sub_mul]; omega

set_option maxHeartbeats 4000000 in
theorem walkFnDelayBase (w : World) (A : Option Addr) (n c : Nat) (bs : List Int) (hz : IntsK .u8 w A n bs) (hl : n ≤ maxLen ∧ n ≤ c) (hf : ∀ j, (Lit.int .u8 (el bs j)).wf = true) :
    Calls Try.prog 10 #[.slice A n c] w fun e w' => e = .returned (.bool true) ∧ Below w.heap.size w w' := by
  obtain ⟨hl, hcap⟩ := hl
  unfold maxLen at hl
  by_cases hb : n ≤ 1048576
  · have HF := Lib.hid (bytes_in hf)
    clear hf
    go_enter Try.func10, Try.ntmps10
    go_wp2_with fail
    refine (DrawDelayBase_any _ _ _ bs _ hz hb hcap HF.out).mono ?_
    rintro e w0 ⟨A1, n1, c1, ps, i, j, x, y, rfl, h0, hn1, hn2, B0⟩
    have hc1 := h0.cap
    have HL := Lib.hid h0.len
    have hp0 := h0.prs
    have ha0 := below_alloc w0 (.cells #[.int .i64 x, .int .i64 y] 30)
    have dn := Box.new w0 30 x y
    have B1 := below_step B0 ha0
    have hp1 := hp0.below ha0
    clear hp0
    have d1 := dn
    clear dn
    have dx := d1.2.1
    have dy := d1.2.2
    go_wp2_with fail
    refine (iDelayBase_any _ _ _ ps _ _ _ _ _ hp1 (by omega) hc1).mono ?_
    rintro e w2 ⟨rfl, hb2⟩
    have B2 := below_step B1 hb2
    have hp2 := hp1.below hb2
    clear hp1
    have d2 := d1.below hb2
    clear d1
    clear dx dy
    have dx := d2.2.1
    have dy := d2.2.2
    go_wp2_with fail
    refine (sDelayBase_any _ _ _ ps _ _ _ _ _ hp2 (by omega) hc1).mono ?_
    rintro e w3 ⟨rfl, hb3⟩
    have B3 := below_step B2 hb3
    have hp3 := hp2.below hb3
    clear hp2
    have d3 := d2.below hb3
    clear d2
    clear dx dy
    have dx := d3.2.1
    have dy := d3.2.2
    have hd := db_in ps i j x y
    cases hok : dbOk ps i j x y
    · go_wp2
      go_ret
      exact ⟨rfl, B3⟩
    · obtain ⟨hdi, hdj⟩ := db_true.1 hok
      obtain ⟨hav, hia, hpl⟩ := do_true.1 hdi
      obtain ⟨_, hja, _⟩ := do_true.1 hdj
      have hpb := plc_true.1 hpl
      obtain ⟨⟨hx1, hx2⟩, ⟨hy1, hy2⟩⟩ := hpb
      have E1 : Hid (dbOk ps j i x y = true) := db_swap hok
      have E2 : Hid (dbV ps j i x y = -(dbV ps i j x y)) := db_swapV hok
      have hbo : bvOk ps i j = true := bv_true.2 ⟨hav, hia, hja⟩
      have E3 := Lib.hid hbo
      have E4 : Hid (bvX ps i j * x + bvY ps i j * y = dbV ps i j x y) := db_bv hok hbo
      have hbi := bv_in ps i j
      have m1 := mul_in2 hbi.1 ⟨hx1, hx2⟩
      have m2 := mul_in2 hbi.2 ⟨hy1, hy2⟩
      clear hbo hdi hdj hav hia hja hpl hbi
      generalize dbV ps i j x y = D at hd E2 E4 ⊢
      go_wp2_with fail
      refine (iDelayBase_any _ _ _ ps _ _ _ _ _ hp3 (by omega) hc1).mono ?_
      rintro e w4 ⟨he, hb4⟩
      rw [E1.out, E2.out] at he
      subst he
      have B4 := below_step B3 hb4
      have hp4 := hp3.below hb4
      clear hp3
      have d4 := d3.below hb4
      clear d3
      clear dx dy
      have dx := d4.2.1
      have dy := d4.2.2
      go_wp2_with fail
      refine (iBaseV_any _ _ _ ps _ _ _ hp4 (by omega) hc1).mono ?_
      rintro e w5 ⟨he, hb5⟩
      rw [E3.out] at he
      subst he
      have B5 := below_step B4 hb5
      have hp5 := hp4.below hb5
      clear hp4
      have d5 := d4.below hb5
      clear d4
      clear dx dy
      have dx := d5.2.1
      have dy := d5.2.2
      generalize bvX ps i j = a1 at m1 E4 ⊢
      generalize bvY ps i j = a2 at m2 E4 ⊢
      have e4 := E4.out
      generalize hm1 : a1 * x = M1 at m1 e4
      generalize hm2 : a2 * y = M2 at m2 e4
      have v1 : IntKind.i64.wrap M1 = M1 := IntWalk.i64_in _ (by omega)
      have v2 : IntKind.i64.wrap M2 = M2 := IntWalk.i64_in _ (by omega)
      have v3 : IntKind.i64.wrap (M1 + M2) = M1 + M2 := IntWalk.i64_in _ (by omega)
      subst e4
      clear E4 E2
      have ha5 := below_alloc w5 (.cells #[.int .i64 a1, .int .i64 a2] 30)
      have vn := Box.new w5 30 a1 a2
      have B6 := below_step B5 ha5
      have hp6 := hp5.below ha5
      clear hp5
      have d6 := d5.below ha5
      clear d5
      clear dx dy
      have dx := d6.2.1
      have dy := d6.2.2
      have v6 := vn
      clear vn
      have vx := v6.2.1
      have vy := v6.2.2
      go_wp2
      go_ret
      exact ⟨rfl, B6⟩
  · have hb' : 1048576 < n := by omega
    clear hb
    go_enter Try.func10, Try.ntmps10
    go_wp2
    go_ret
    exact ⟨rfl, Below.refl _ _⟩

set_option maxHeartbeats 4000000 in
theorem walkFnDelayThree (w : World) (A : Option Addr) (n c : Nat) (bs : List Int) (hz : IntsK .u8 w A n bs) (hl : n ≤ maxLen ∧ n ≤ c) (hf : ∀ j, (Lit.int .u8 (el bs j)).wf = true)
    (M : Option Addr) (m d : Nat) (ms : List Int) (hy : IntsK .u8 w M m ms) (hl' : m ≤ maxLen ∧ m ≤ d) (_ : ∀ j, (Lit.int .u8 (el ms j)).wf = true) :
    Calls Try.prog 8 #[.slice A n c, .slice M m d] w fun e w' => e = .returned (.bool true) ∧ Below w.heap.size w w' := by
  obtain ⟨hl, hcap⟩ := hl
  obtain ⟨hl', hcap'⟩ := hl'
  unfold maxLen at hl hl'
  by_cases hb : n ≤ 1048576
  · by_cases hbm : m ≤ 1048576
    · have HF := Lib.hid (bytes_in hf)
      clear hf
      go_enter Try.func8, Try.ntmps8
      go_wp2_with fail
      refine (DrawDelayBase_any _ _ _ bs _ hz hb hcap HF.out).mono ?_
      rintro e w0 ⟨A1, n1, c1, ps, i, j, x, y, rfl, h0, hn1, hn2, B0⟩
      have hc1 := h0.cap
      have HL := Lib.hid h0.len
      have hp0 := h0.prs
      have ha0 := below_alloc w0 (.cells #[.int .i64 x, .int .i64 y] 30)
      have dn := Box.new w0 30 x y
      have B1 := below_step B0 ha0
      have hp1 := hp0.below ha0
      clear hp0
      have d1 := dn
      clear dn
      have dx := d1.2.1
      have dy := d1.2.2
      go_wp2_with fail
      refine (iDelayBase_any _ _ _ ps _ _ _ _ _ hp1 (by omega) hc1).mono ?_
      rintro e w2 ⟨rfl, hb2⟩
      have B2 := below_step B1 hb2
      have hp2 := hp1.below hb2
      clear hp1
      have d2 := d1.below hb2
      clear d1
      clear dx dy
      have dx := d2.2.1
      have dy := d2.2.2
      go_wp2_with fail
      refine (sDelayBase_any _ _ _ ps _ _ _ _ _ hp2 (by omega) hc1).mono ?_
      rintro e w3 ⟨rfl, hb3⟩
      have B3 := below_step B2 hb3
      have hp3 := hp2.below hb3
      clear hp2
      have d3 := d2.below hb3
      clear d2
      clear dx dy
      have dx := d3.2.1
      have dy := d3.2.2
      have hd := db_in ps i j x y
      cases hok : dbOk ps i j x y
      · go_wp2
        go_ret
        exact ⟨rfl, B3⟩
      · obtain ⟨hdi, hdj⟩ := db_true.1 hok
        obtain ⟨hav, hia, hpl⟩ := do_true.1 hdi
        obtain ⟨_, hja, _⟩ := do_true.1 hdj
        have hpb := plc_true.1 hpl
        obtain ⟨⟨hx1, hx2⟩, ⟨hy1, hy2⟩⟩ := hpb
        have hlen := HL.out
        have hne : ((n1 : Int) == 0) = false := by simp; omega
        obtain ⟨q, hq, hqn⟩ : ∃ q : Nat, (m : Int) % (n1 : Int) = (q : Int) ∧ q < n1 := ⟨m % n1, by omega, Nat.mod_lt m (by omega)⟩
        have hdk : doOk ps (q : Int) x y = true := do_true.2 ⟨hav, isA_true.2 (by omega), hpl⟩
        have E1 : Hid (dbOk ps j (q : Int) x y = true) := db_true.2 ⟨hdj, hdk⟩
        have E2 : Hid (dbOk ps (q : Int) i x y = true) := db_true.2 ⟨hdk, hdi⟩
        have E3 : Hid (dbV ps i j x y + dbV ps j (q : Int) x y + dbV ps (q : Int) i x y = 0) := by rw [Hid, db_yes hok, db_yes E1.out, db_yes E2.out]; omega
        have d1 := db_in ps j (q : Int) x y
        have d2 := db_in ps (q : Int) i x y
        have HQ := Lib.hid hq
        clear hdk hdi hdj hav hia hja hpl hlen hq
        generalize dbV ps i j x y = D at hd E3 ⊢
        have hq := HQ.out
        go_wp2_with fail
        refine (iDelayBase_any _ _ _ ps _ _ _ _ _ hp3 (by omega) hc1).mono ?_
        rintro e w4 ⟨he, hb4⟩
        rw [E1.out] at he
        subst he
        have B4 := below_step B3 hb4
        have hp4 := hp3.below hb4
        clear hp3
        have d4 := d3.below hb4
        clear d3
        clear dx dy
        have dx := d4.2.1
        have dy := d4.2.2
        go_wp2_with fail
        refine (iDelayBase_any _ _ _ ps _ _ _ _ _ hp4 (by omega) hc1).mono ?_
        rintro e w5 ⟨he, hb5⟩
        rw [E2.out] at he
        subst he
        have B5 := below_step B4 hb5
        have hp5 := hp4.below hb5
        clear hp4
        have d5 := d4.below hb5
        clear d4
        clear dx dy
        have dx := d5.2.1
        have dy := d5.2.2
        have e3 := E3.out
        generalize dbV ps j (q : Int) x y = D1 at d1 e3 ⊢
        generalize dbV ps (q : Int) i x y = D2 at d2 e3 ⊢
        clear E3
        go_wp2
        go_ret
        exact ⟨rfl, B5⟩
    · have hb' : 1048576 < m := by omega
      clear hbm
      go_enter Try.func8, Try.ntmps8
      go_wp2
      go_ret
      exact ⟨rfl, Below.refl _ _⟩
  · have hb' : 1048576 < n := by omega
    clear hb
    go_enter Try.func8, Try.ntmps8
    go_wp2
    go_ret
    exact ⟨rfl, Below.refl _ _⟩

end Go.Proofs.Ytjjogggallapjaa
