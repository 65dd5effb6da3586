/-
  The walk of laws.FnVis.
-/
import Derived.Test.YtmkdbbbnhbbhfaaLawGA
import Derived.Test.YtmkdbbbnhbbhfaaVisP
import Derived.Test.YtmkdbbbnhbbhfaaPrsFar
import Derived.Test.YtmkdbbbnhbbhfaaDrawVi
namespace Go.Proofs.Ytmkdbbbnhbbhfaa
open Go.RowKit
set_option linter.unusedVariables false


set_option maxHeartbeats 4000000 in
theorem walkFnVis (w : World) (A : Option Addr) (n c : Nat) (bs : List Int) (hz : IntsK .u8 w A n bs) (hl : n ≤ maxLen ∧ n ≤ c) (hf : ∀ j, (Lit.int .u8 (el bs j)).wf = true)
    (M : Option Addr) (m d : Nat) (ms : List Int) (hy : IntsK .u8 w M m ms) (hl' : m ≤ maxLen ∧ m ≤ d) (_ : ∀ j, (Lit.int .u8 (el ms j)).wf = true) :
    Calls Try.prog 6 #[.slice A n c, .slice M m d] w fun e w' => e = .returned (.bool true) ∧ Below w.heap.size w w' := by
  obtain ⟨hl, hcap⟩ := hl
  obtain ⟨hl', hcap'⟩ := hl'
  unfold maxLen at hl hl'
  by_cases hb : n ≤ 1048576
  · by_cases hbm : m ≤ 1048576
    · have HF := Lib.hid (bytes_in hf)
      clear hf
      go_enter Try.func6, Try.ntmps6
      go_wp2_with fail
      refine (DrawVisValid_any _ _ _ bs _ hz hb hcap HF.out).mono ?_
      rintro e w0 ⟨N, A1, n1, c1, ps, rfl, hN1, hN2, h0, hn1, B0⟩
      have hc1 := h0.cap
      have HL := Lib.hid h0.len
      have hp0 := h0.prs
      clear h0
      go_wp2_with fail
      refine (iVisV_any _ _ _ _ ps _ hp0 (by omega)).mono ?_
      rintro e w1 ⟨rfl, hb1⟩
      have B1 := below_step B0 hb1
      have hp1 := hp0.below hb1
      clear hp0
      go_wp2_with fail
      refine (sVisV_any _ _ _ _ ps _ hp1 (by omega)).mono ?_
      rintro e w' ⟨rfl, rfl⟩
      cases hok : vvB (N : Int) ps
      · go_wp2
        go_ret
        exact ⟨rfl, B1⟩
      · have hok' := hok
        obtain ⟨hmm, hMl, hva⟩ := vv_true hok'
        rw [HL.out] at hMl
        have hbp := bm_pos (n := (N : Int)) (by omega) (by omega)
        have hbu := bm_up (n := (N : Int)) (by omega) (by omega)
        have hbd := bm_down (n := (N : Int)) (by omega) (by omega)
        have hn1' : 1 ≤ n1 := by omega
        have hne : ((n1 : Int) == 0) = false := by simp; omega
        obtain ⟨q, hq, hqn⟩ : ∃ q : Nat, (m : Int) % (n1 : Int) = (q : Int) ∧ q < n1 := ⟨m % n1, by omega, Nat.mod_lt m (by omega)⟩
        obtain ⟨K, hNK, hK⟩ : ∃ K : Nat, (n1 : Int) - 1 = (K : Int) ∧ K + 1 = n1 := ⟨n1 - 1, by omega, by omega⟩
        have E1 : Hid (vvB ((N : Int) + 1) ps = false) := vv_len (by rw [HL.out]; omega)
        have E4 : Hid (vvB ((N : Int) - 1) ps = false) := vv_len (by rw [HL.out]; omega)
        have E2 : Hid (vvB (N : Int) (ps.take K) = false) := vv_len (by rw [List.length_take, HL.out]; omega)
        have E3 : Hid (vvB (N : Int) (ps.set q (0, py ps q)) = false) := vv_set (by rw [HL.out]; exact hqn)
        clear hok' hva hMl hbp hbu hbd hmm
        obtain ⟨b1, off1, rfl, hb1', hc1'⟩ := hp1.at_ (by omega)
        clear hc1'
        have ha := below_alloc w1 (.cells #[] 33)
        have hO0 := OwnP.lit0 33 w1 (Nat.le_refl _)
        have hpa := hp1.below ha
        have hsa : w1.heap.size ≤ (w1.alloc (.cells #[] 33)).heap.size := ha.size
        have Ba := below_step B1 ha
        have hbs := B1.size
        have HBA : Hid (b1 < (w1.alloc (.cells #[] 33)).heap.size) := Nat.lt_of_lt_of_le hb1' hsa
        go_wp2_with (at_builtin; refine wpList_appendVis rfl (.tmp 39) (.tmp 40) rfl (w1.alloc (.cells #[] 33)) w1.heap.size _ 0 0 [] b1 off1 n1 c1 ps rfl rfl hO0 hpa (by omega) hsa ?_; intro Ax cx wx hOx hGx; rw [show 0 + n1 = n1 from Nat.zero_add _] at hOx ⊢; (obtain ⟨gx, rfl, hgx1, hgx2⟩ := hOx.at0 (by omega)); (obtain ⟨o1, o2, d1, d2⟩ := hOx.cells2 hqn); have f1 : wx.frozen? ⟨gx, q * 2, none⟩ = false := World.ownsRow.frozenAt hOx _)
        rw [List.nil_append] at hOx
        have HS := Lib.hid (hOx.stored hqn 0).1
        have hpx := hpa.far hb1' HBA.out hGx (fun j e => by cases e; exact Nat.le_refl _)
        have Bx := Ba.grown hGx (Nat.le_trans hbs hsa) (fun j e => by cases e; exact hbs)
        have hps := hpx.far hb1' (by omega) HS.out.2 (fun j e => by cases e; exact hgx2)
        have Bs := Bx.grown HS.out.2 Bx.size (fun j e => by cases e; omega)
        have hOs := HS.out.1
        clear hpa hpx hO0 HS
        refine (iVisV_any _ _ _ _ ps _ hps (by omega)).mono ?_
        rintro e y0 ⟨he, hy0⟩
        rw [E1.out] at he
        subst he
        have Y0 := below_step Bs hy0
        have pY0 := hps.below hy0
        have oY0 := hOs.below hy0
        clear hps hOs
        go_wp2_with fail
        refine (iVisV_any _ _ _ _ ps _ pY0 (by omega)).mono ?_
        rintro e y1 ⟨he, hy1⟩
        rw [E4.out] at he
        subst he
        have Y1 := below_step Y0 hy1
        have pY1 := pY0.below hy1
        have oY1 := oY0.below hy1
        clear pY0 oY0
        go_wp2_with fail
        refine (iVisV_any _ _ _ _ (ps.take K) _ (pY1.cut (k := K) (by omega)) (by omega)).mono ?_
        rintro e y2 ⟨he, hy2⟩
        rw [E2.out] at he
        subst he
        have Y2 := below_step Y1 hy2
        have pY2 := pY1.below hy2
        have oY2 := oY1.below hy2
        clear pY1 oY1
        go_wp2_with fail
        refine (iVisV_any _ _ _ _ (ps.set q (0, py ps q)) _ oY2.prs (by omega)).mono ?_
        rintro e y3 ⟨he, hy3⟩
        rw [E3.out] at he
        subst he
        have Y3 := below_step Y2 hy3
        have pY3 := pY2.below hy3
        have oY3 := oY2.below hy3
        clear pY2 oY2
        go_wp2
        go_ret
        exact ⟨rfl, Y3⟩
    · have hb' : 1048576 < m := by omega
      clear hbm
      go_enter Try.func6, Try.ntmps6
      go_wp2
      go_ret
      exact ⟨rfl, Below.refl _ _⟩
  · have hb' : 1048576 < n := by omega
    clear hb
    go_enter Try.func6, Try.ntmps6
    go_wp2
    go_ret
    exact ⟨rfl, Below.refl _ _⟩

end Go.Proofs.Ytmkdbbbnhbbhfaa
