/-
  The walk of laws.FnDelayLoop, FnDelayLoopMore.
-/
import Derived.Test.YtjjogggallapjaaDelayL
import Derived.Test.YtjjogggallapjaaStepI
import Derived.Test.YtjjogggallapjaaDrawDlo
namespace Go.Proofs.Ytjjogggallapjaa
open Go.RowKit
set_option linter.unusedVariables false

theorem dl_rev {ps : List (Int × Int)} {zs : List Int} {x y : Int} (h : dlOk ps zs x y = true) : dlOk ps zs.reverse x y = true := by
  obtain ⟨h1, h2⟩ := dl_true.1 h
  refine dl_true.2 ⟨by rw [List.length_reverse]; exact h1, fun j hj => ?_⟩
  rw [List.length_reverse] at hj
  have e : el zs.reverse j = el zs (zs.length - 1 - j) := by rw [el_lt (by rw [List.length_reverse]; exact hj), el_lt (by omega), List.getElem_reverse]
  rw [e]; exact h2 _ (by omega)
theorem dl_more {ps : List (Int × Int)} {zs : List Int} {x y : Int} : dlOk ps (zs ++ [(ps.length : Int)]) x y = false := by
  rw [← Bool.not_eq_true, dl_true]
  rintro ⟨_, h⟩
  have h1 := h zs.length (by simp)
  have e : el (zs ++ [(ps.length : Int)]) zs.length = (ps.length : Int) := by simp [el]
  rw [e] at h1
  have := isA_true.1 (do_true.1 h1).2.1
  omega
theorem rev_snoc {zs : List Int} {m r : Nat} (h : zs.length = m) (hr : r < m) : zs.reverse.take (m - r) = zs.reverse.take (m - (r + 1)) ++ [el zs r] := by
  rw [show m - r = (m - (r + 1)) + 1 by omega, List.take_succ_eq_append_getElem (by rw [List.length_reverse]; omega), List.getElem_reverse, el_lt (by omega)]
  congr 3
  omega
theorem box_far {w w' : World} {a : Nat} {x y : Int} {row : Option Nat} (h : Box w a x y) (hg : w.grownBy w' row) (hr : ∀ k, row = some k → a < k) : Box w' a x y := by
  have hb := hg.block a h.1 (fun e => by have := hr a e.symm; omega)
  exact ⟨Nat.lt_of_lt_of_le h.1 hg.size, (World.cell?_of_block (w := w) (a := ⟨a, 0, none⟩) hb).trans h.2.1, (World.cell?_of_block (w := w) (a := ⟨a, 1, none⟩) hb).trans h.2.2⟩

set_option maxHeartbeats 4000000 in
theorem walkFnDelayLoop (w : World) (A : Option Addr) (n c : Nat) (bs : List Int) (hz : IntsK .u8 w A n bs) (hl : n ≤ maxLen ∧ n ≤ c) (hf : ∀ j, (Lit.int .u8 (el bs j)).wf = true) :
    Calls Try.prog 12 #[.slice A n c] w fun e w' => e = .returned (.bool true) ∧ Below w.heap.size w w' := by
  obtain ⟨hl, hcap⟩ := hl
  unfold maxLen at hl
  by_cases hb : n ≤ 1048576
  · have HF := Lib.hid (bytes_in hf)
    clear hf
    go_enter Try.func12, Try.ntmps12
    go_wp2_with fail
    refine (DrawDelayLoop_any _ _ _ bs _ hz hb hcap HF.out).mono ?_
    rintro e w0 ⟨A1, n1, c1, ps, Z, mz, dz, zs, x, y, rfl, h0, hn1, hn2, hI, hmz, B0⟩
    have hc1 := h0.cap
    have HL := Lib.hid h0.len
    have HLT := Lib.hid (h0.lt (by omega))
    have HLZ := Lib.hid hI.len
    have hp0 := h0
    have hi0 := hI
    clear h0 hI
    have ha0 := below_alloc w0 (.cells #[.int .i64 x, .int .i64 y] 30)
    have dn := Box.new w0 30 x y
    have B1 := below_step B0 ha0
    have hp1 := hp0.below ha0
    clear hp0
    have hi1 := hi0.below ha0
    clear hi0
    have d1 := dn
    clear dn
    have dx := d1.2.1
    have dy := d1.2.2
    go_wp2_with fail
    refine (iDelayLoop_any _ _ _ ps _ _ _ zs _ _ _ hp1.prs (by omega) hc1 hi1.ints (by omega)).mono ?_
    rintro e w2 ⟨rfl, hb2⟩
    have B2 := below_step B1 hb2
    have hp2 := hp1.below hb2
    clear hp1
    have hi2 := hi1.below hb2
    clear hi1
    have d2 := d1.below hb2
    clear d1
    clear dx dy
    have dx := d2.2.1
    have dy := d2.2.2
    go_wp2_with fail
    refine (sDelayLoop_any _ _ _ ps _ _ _ zs _ _ _ hp2.prs (by omega) hc1 hi2.ints (by omega)).mono ?_
    rintro e w3 ⟨rfl, hb3⟩
    have B3 := below_step B2 hb3
    have hp3 := hp2.below hb3
    clear hp2
    have hi3 := hi2.below hb3
    clear hi2
    have d3 := d2.below hb3
    clear d2
    clear dx dy
    have dx := d3.2.1
    have dy := d3.2.2
    cases hok : dlOk ps zs x y
    · go_wp2
      go_ret
      exact ⟨rfl, B3⟩
    · go_wp2
      go_ret
      exact ⟨rfl, B3⟩
  · have hb' : 1048576 < n := by omega
    clear hb
    go_enter Try.func12, Try.ntmps12
    go_wp2
    go_ret
    exact ⟨rfl, Below.refl _ _⟩

set_option maxHeartbeats 4000000 in
theorem walkFnDelayLoopMore (w : World) (A : Option Addr) (n c : Nat) (bs : List Int) (hz : IntsK .u8 w A n bs) (hl : n ≤ maxLen ∧ n ≤ c) (hf : ∀ j, (Lit.int .u8 (el bs j)).wf = true) :
    Calls Try.prog 13 #[.slice A n c] w fun e w' => e = .returned (.bool true) ∧ Below w.heap.size w w' := by
  obtain ⟨hl, hcap⟩ := hl
  unfold maxLen at hl
  by_cases hb : n ≤ 1048576
  · have HF := Lib.hid (bytes_in hf)
    clear hf
    go_enter Try.func13, Try.ntmps13
    go_wp2_with fail
    refine (DrawDelayLoop_any _ _ _ bs _ hz hb hcap HF.out).mono ?_
    rintro e w0 ⟨A1, n1, c1, ps, Z, mz, dz, zs, x, y, rfl, h0, hn1, hn2, hI, hmz, B0⟩
    have hc1 := h0.cap
    have HL := Lib.hid h0.len
    have HLT := Lib.hid (h0.lt (by omega))
    have HLZ := Lib.hid hI.len
    have hp0 := h0
    have hi0 := hI
    clear h0 hI
    have ha0 := below_alloc w0 (.cells #[.int .i64 x, .int .i64 y] 30)
    have dn := Box.new w0 30 x y
    have B1 := below_step B0 ha0
    have hp1 := hp0.below ha0
    clear hp0
    have hi1 := hi0.below ha0
    clear hi0
    have d1 := dn
    clear dn
    have dx := d1.2.1
    have dy := d1.2.2
    go_wp2_with fail
    refine (iDelayLoop_any _ _ _ ps _ _ _ zs _ _ _ hp1.prs (by omega) hc1 hi1.ints (by omega)).mono ?_
    rintro e w2 ⟨rfl, hb2⟩
    have B2 := below_step B1 hb2
    have hp2 := hp1.below hb2
    clear hp1
    have hi2 := hi1.below hb2
    clear hi1
    have d2 := d1.below hb2
    clear d1
    clear dx dy
    have dx := d2.2.1
    have dy := d2.2.2
    go_wp2_with fail
    refine (sDelayLoop_any _ _ _ ps _ _ _ zs _ _ _ hp2.prs (by omega) hc1 hi2.ints (by omega)).mono ?_
    rintro e w3 ⟨rfl, hb3⟩
    have B3 := below_step B2 hb3
    have hp3 := hp2.below hb3
    clear hp2
    have hi3 := hi2.below hb3
    clear hi2
    have d3 := d2.below hb3
    clear d2
    clear dx dy
    have dx := d3.2.1
    have dy := d3.2.2
    cases hok : dlOk ps zs x y
    · go_wp2
      go_ret
      exact ⟨rfl, B3⟩
    · obtain ⟨⟨hm1, hm2⟩, hall⟩ := dl_true.1 hok
      rw [HLZ.out] at hm1
      have ER : Hid (dlOk ps zs.reverse x y = true) := dl_rev hok
      have EN : Hid (dlOk ps (zs.reverse ++ [(n1 : Int)]) x y = false) := by
        have := dl_more (zs := zs.reverse) (ps := ps) (x := x) (y := y)
        rw [HL.out] at this; exact this
      clear hall
      have hO0 := OwnI.lit0 w3 (Nat.le_refl _)
      have hb0 := below_alloc w3 (.cells #[] 3)
      go_wp2
      go_loopw [10, 11] (fun v i wr => ∃ (r : Nat) (A' : Option Addr) (c' : Nat), r ≤ mz ∧ i = .int .i64 ((r : Int) - 1) ∧ v = .slice A' (mz - r) c' ∧ OwnI wr w3.heap.size A' (mz - r) c' (zs.reverse.take (mz - r)) ∧ Below w3.heap.size w3 wr) (fun _ i _ => (intOf i + 1).toNat)
      case atStart => exact ⟨mz, some ⟨w3.heap.size, 0, none⟩, 0, Nat.le_refl _, rfl, by rw [Nat.sub_self], by rw [Nat.sub_self]; exact hO0, hb0⟩
      case round =>
        obtain ⟨r, A', c', hr, rfl, rfl, hO, hbl⟩ := hrel
        clear hO0 hb0
        have hir := hi3.below hbl
        cases r with
        | succ r =>
          have hrz : (((r + 1 : Nat) : Int)) - 1 = (r : Int) := by omega
          rw [hrz]
          obtain ⟨b, off, rfl, hb', hcc⟩ := hir.ints.at_ (by omega)
          have hck := hcc r (by omega)
          clear hcc
          have hs' : w3.heap.size ≤ wr.heap.size := hbl.size
          have HT : Hid (zs.reverse.take (mz - r) = zs.reverse.take (mz - (r + 1)) ++ [el zs r]) := rev_snoc HLZ.out (by omega)
          have hrm : (r : Int) < (mz : Int) := by omega
          obtain ⟨j, hj⟩ : ∃ j, j = mz - (r + 1) := ⟨_, rfl⟩
          have hj2 : mz - r = j + 1 := by omega
          rw [hj2] at HT
          rw [← hj] at hO HT ⊢
          have HJ := Lib.hid hj
          have HJ2 := Lib.hid hj2
          clear hj hj2
          have hjm : j ≤ 5 := by have := HJ.out; omega
          go_wp2_with (at_builtin; refine wpList_appendI rfl _ _ rfl wr w3.heap.size A' j c' _ (el zs r) rfl rfl hO (by omega) hs' ?_; intro A2 c2 w2' hO2 hG2)
          have hb2' := hbl.grown hG2 hs' (fun k e => (hO.lt k e).1)
          go_roundw
          case rel => exact ⟨r, A2, c2, by omega, rfl, by rw [HJ2.out], by rw [HJ2.out, HT.out]; exact hO2, hb2'⟩
          case measure => simp [intOf]
        | zero =>
          have HB : Hid (zs.reverse.take (mz - 0) = zs.reverse) := by rw [Hid, Nat.sub_zero]; exact List.take_of_length_le (by rw [List.length_reverse, HLZ.out]; exact Nat.le_refl _)
          rw [HB.out, Nat.sub_zero] at hO
          rw [Nat.sub_zero]
          have hzz : (((0 : Nat) : Int)) - 1 = -1 := rfl
          rw [hzz]
          have hpr := hp3.below hbl
          have hdr := d3.below hbl
          have hL1 := d3.1
          have Br := below_step B3 hbl
          clear dx dy
          have dx := hdr.2.1
          have dy := hdr.2.2
          have hsr : w3.heap.size ≤ wr.heap.size := hbl.size
          go_wp2_with fail
          refine (iDelayLoop_any _ _ _ ps _ _ _ zs.reverse _ _ _ hpr.prs (by omega) hc1 hO.ints (by omega)).mono ?_
          rintro e wc ⟨he, hbc⟩
          rw [ER.out] at he
          subst he
          have Bc := below_step Br hbc
          have hpc := hpr.below hbc
          have hdc := hdr.below hbc
          have hOc := hO.below hbc
          have hsc : w3.heap.size ≤ wc.heap.size := Nat.le_trans hsr hbc.size
          have hL0 : w0.heap.size ≤ w3.heap.size := Nat.le_trans ha0.size (Nat.le_trans hb2.size hb3.size)
          clear dx dy
          have dx := hdc.2.1
          have dy := hdc.2.2
          have dxa := (hdc.below (below_alloc wc (.cells #[.int .i64 (n1 : Int)] 3))).2.1
          have dya := (hdc.below (below_alloc wc (.cells #[.int .i64 (n1 : Int)] 3))).2.2
          go_wp2
          go_region_law (first | (refine step_appendI rfl (.tmp 83) (.tmp 86) rfl wc w3.heap.size A' mz c' zs.reverse (n1 : Int) rfl rfl hOc (by omega) hsc ?_; intro A3 c3 w3' hO3 hG3; have hd3 := box_far hdc hG3 (fun j e => by have := (hOc.lt j e).1; omega); have dx3 := hd3.2.1; have dy3 := hd3.2.2; have hp3 := hpc.far hG3 HLT.out (fun j e => by have := (hOc.lt j e).1; omega)) | (go_simp; go_at_call 29; refine (iDelayLoop_any _ _ _ ps _ _ _ (zs.reverse ++ [(n1 : Int)]) _ _ _ hp3.prs (by omega) hc1 hO3.ints (by omega)).mono ?_; rintro e w4' ⟨he, hb4'⟩; rw [EN.out] at he; subst he))
          all_goals
            have B3' := Bc.grown hG3 Bc.size (fun j e => by have := (hOc.lt j e).1; have := B3.size; omega)
            have B4' := below_step B3' hb4'
            go_wp2
            go_ret
            exact ⟨rfl, B4'⟩
  · have hb' : 1048576 < n := by omega
    clear hb
    go_enter Try.func13, Try.ntmps13
    go_wp2
    go_ret
    exact ⟨rfl, Below.refl _ _⟩

end Go.Proofs.Ytjjogggallapjaa
