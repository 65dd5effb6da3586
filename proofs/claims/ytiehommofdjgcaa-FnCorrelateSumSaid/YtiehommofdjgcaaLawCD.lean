/-
  The walks of laws.FnCorrelateSum.
-/
import Derived.Test.YtiehommofdjgcaaCorrF
import Derived.Test.YtiehommofdjgcaaCorrG
import Derived.Test.YtiehommofdjgcaaDrawC
import Derived.Test.YtiehommofdjgcaaToInts
import Derived.StillTailTactics
namespace Go.Proofs.Ytiehommofdjgcaa
open Go.RowKit
set_option linter.unusedVariables false

theorem sv_map2 {zs : List Int} {f : Int → Int} (h : svB zs = true) (hf : ∀ x, -1000 ≤ x → x ≤ 1000 → -1000 ≤ f x ∧ f x ≤ 1000) : svB (mapL f zs) = true := by
  have hl := sv_len h
  refine sv_mk (by rw [mapL_len]; omega) (by rw [mapL_len]; omega) fun j hj => ?_
  rw [mapL_len] at hj
  rw [mapL_at hj]
  have := sv_at h hj
  exact hf _ this.1 this.2
theorem S_bd2 {f : Nat → Int} (M : Int) : ∀ {n : Nat}, (∀ i, i < n → -M ≤ f i ∧ f i ≤ M) → -(M * (n : Int)) ≤ S f n ∧ S f n ≤ M * (n : Int)
  | 0, _ => by simp [S]
  | n + 1, h => by
    have h1 := S_bd2 M (n := n) (fun i hi => h i (by omega))
    have h2 := h n (by omega)
    have h3 : M * ((n + 1 : Nat) : Int) = M * (n : Int) + M := by rw [Int.natCast_add]; simp [Int.mul_add]
    simp only [S]
    rw [h3]
    omega

set_option maxHeartbeats 4000000 in
theorem walkFnCorrelateSum (w : World) (A : Option Addr) (n c : Nat) (bs : List Int) (hz : IntsK .u8 w A n bs) (hl : n ≤ maxLen ∧ n ≤ c) (hf : ∀ j, (Lit.int .u8 (el bs j)).wf = true) :
    Calls Try.prog 8 #[.slice A n c] w fun e w' => e = .returned (.bool true) ∧ Below w.heap.size w w' := by
  obtain ⟨hl, hcap⟩ := hl
  unfold maxLen at hl
  by_cases hb : n ≤ 1048576
  · have HF := Lib.hid (bytes_in hf)
    clear hf
    go_enter Try.func8, Try.ntmps8
    go_wp2_with fail
    refine (DrawCorrelate_any _ _ _ bs _ hz hb hcap HF.out).mono ?_
    rintro e w1 ⟨A1, n1, c1, a, B1, m1, d1, b, lag, rfl, hOa, hOb, hn1, hm1, hl0, hl1, hb1⟩
    have HA := Lib.hid hOa.len
    have HB := Lib.hid hOb.len
    cases hok : coOk a b lag
    · go_wp2_with fail
      refine (iCorr_any _ _ _ _ _ _ a b _ _ hOa.ints hOb.ints (by omega) (by omega)).mono ?_
      rintro e w' ⟨rfl, rfl⟩
      go_wp2_with fail
      refine (sCorr_any _ _ _ _ _ _ a b _ _ hOa.ints hOb.ints (by omega) (by omega)).mono ?_
      rintro e w2 ⟨rfl, hb2⟩
      go_wp2
      go_ret
      exact ⟨ret_bool (by simp), below_step hb1 hb2⟩
    · obtain ⟨hsa, hsb, hll, hlag0, hlag1⟩ := co_ok hok
      have hlen : 1 ≤ n1 ∧ n1 ≤ 32 := by have := sv_len hsa; rw [HA.out] at this; exact this
      obtain ⟨hn1', hn2'⟩ := hlen
      obtain rfl : m1 = n1 := by rw [HA.out, HB.out] at hll; omega
      have HSA := Lib.hid hsa
      have HSB := Lib.hid hsb
      have HLL := Lib.hid hll
      have HOK := Lib.hid hok
      have h1a : 1 ≤ a.length := by rw [HA.out]; exact hn1'
      have H1 := Lib.hid h1a
      clear hsa hsb hll hok h1a
      go_wp2_with fail
      refine (iCorr_any _ _ _ _ _ _ a b _ _ hOa.ints hOb.ints (by omega) (by omega)).mono ?_
      rintro e w' ⟨he, rfl⟩
      rw [coV_yes HOK.out, HOK.out] at he
      subst he
      go_wp2_with fail
      refine (sCorr_any _ _ _ _ _ _ a b _ _ hOa.ints hOb.ints (by omega) (by omega)).mono ?_
      rintro e w2 ⟨he, hb2⟩
      rw [coV_yes HOK.out, HOK.out] at he
      subst he
      have hB2 := below_step hb1 hb2
      have hOa2 := hOa.below hb2
      have hOb2 := hOb.below hb2
      have HK : Hid (∀ k : Nat, k < m1 → coOk a b (k : Int) = true) := fun k hk => co_mk HSA.out HSB.out HLL.out (by omega) (by omega)
      have hRa : Hid (∀ j, j < m1 → -1000 ≤ el a j ∧ el a j ≤ 1000) := fun j hj => sv_at HSA.out (by rw [HA.out]; exact hj)
      have hRb : Hid (∀ j, j < m1 → -1000 ≤ el b j ∧ el b j ≤ 1000) := fun j hj => sv_at HSB.out (by rw [HB.out]; exact hj)
      have HSum : Hid (S (fun k => corr a b (k : Int)) m1 = S (el a) m1 * S (el b) m1) := by have := corr_sum HLL.out H1.out; rw [HA.out] at this; exact this
      have HBa : Hid (∀ k, k ≤ m1 → -(1000 * (k : Int)) ≤ S (el a) k ∧ S (el a) k ≤ 1000 * (k : Int)) := fun k hk => S_bd2 1000 fun i hi => hRa.out i (by omega)
      have HBb : Hid (∀ k, k ≤ m1 → -(1000 * (k : Int)) ≤ S (el b) k ∧ S (el b) k ≤ 1000 * (k : Int)) := fun k hk => S_bd2 1000 fun i hi => hRb.out i (by omega)
      have HBz : Hid (∀ k, k ≤ m1 → -(32000000 * (k : Int)) ≤ S (fun k => corr a b (k : Int)) k ∧ S (fun k => corr a b (k : Int)) k ≤ 32000000 * (k : Int)) := fun k hk => S_bd2 32000000 fun i hi => corr_small _ HSA.out HSB.out HLL.out
      have HBc : Hid (∀ k : Nat, -32000000 ≤ corr a b (k : Int) ∧ corr a b (k : Int) ≤ 32000000) := fun k => corr_small _ HSA.out HSB.out HLL.out
      obtain ⟨bA, offA, rfl, hltA, hcA⟩ := hOa2.ints.at_ (by omega)
      obtain ⟨bB, offB, rfl, hltB, hcB⟩ := hOb2.ints.at_ (by omega)
      have HCA := Lib.hid hcA
      have HCB := Lib.hid hcB
      clear hcA hcB
      go_wp2
      go_loop [10, 11, 12, 13] (fun x y z i => ∃ k : Nat, k ≤ m1 ∧ i = .int .i64 k ∧ x = .int .i64 (S (el a) k) ∧ y = .int .i64 (S (el b) k) ∧ z = .int .i64 (S (fun k => corr a b (k : Int)) k)) (fun _ _ _ i => m1 - (intOf i).toNat)
      case atStart => exact ⟨0, Nat.zero_le _, rfl, rfl, rfl, rfl⟩
      case round =>
        obtain ⟨k, hk, rfl, rfl, rfl, rfl⟩ := hrel
        obtain ⟨ha0, ha1⟩ := HBa.out k hk
        obtain ⟨hb0, hb1'⟩ := HBb.out k hk
        obtain ⟨hz0, hz1⟩ := HBz.out k hk
        by_cases hlt : k < m1
        · have hck := HCA.out k hlt
          have hcj := HCB.out k hlt
          obtain ⟨hra0, hra1⟩ := hRa.out k hlt
          obtain ⟨hrb0, hrb1⟩ := hRb.out k hlt
          obtain ⟨hc0, hc1⟩ := HBc.out k
          go_wp2_with fail
          refine (iCorr_any _ _ _ _ _ _ a b _ _ hOa2.ints hOb2.ints (by omega) (by omega)).mono ?_
          rintro e w' ⟨he, rfl⟩
          rw [coV_yes (HK.out k hlt), HK.out k hlt] at he
          subst he
          go_wp2
          go_round
          case rel => exact ⟨k + 1, by omega, by go_num, rfl, rfl, rfl⟩
          case measure => simp [intOf]; omega
        · obtain rfl : k = m1 := by omega
          have hE := HSum.out
          generalize S (fun k => corr a b (k : Int)) k = Z at *
          generalize S (el a) k = X at *
          generalize S (el b) k = Y at *
          obtain ⟨hq0, hq1⟩ := prod_small (x := X) (y := Y) (by omega) (by omega) (by omega) (by omega)
          have hE' : (Z == X * Y) = true := by simp [hE]
          have HE := Lib.hid hE'
          clear hE hE'
          go_wp2
          go_ret
          exact ⟨ret_bool HE.out, hB2⟩
  · have hb' : 1048576 < n := by omega
    clear hb
    go_enter Try.func8, Try.ntmps8
    go_wp2
    go_ret
    exact ⟨rfl, Below.refl _ _⟩

end Go.Proofs.Ytiehommofdjgcaa
