/-
  The walks of laws.FnCorrelateAdd.
-/
import Derived.Test.YtiehommofdjgcaaCorrF
import Derived.Test.YtiehommofdjgcaaCorrG
import Derived.Test.YtiehommofdjgcaaDrawC
import Derived.Test.YtiehommofdjgcaaToInts
import Derived.Deep.RegionLaw
namespace Go.Proofs.Ytiehommofdjgcaa
open Go.RowKit
set_option linter.unusedVariables false

/-- append(out, z) onto a row of one's own, in a region that draws its order. -/
theorem step_appendI {ops : Array Oper} {o : Oper} {a : Act} {K : Act → World → Prop} {Q : Exit → Act → World → Prop} {E : Prop} (hgd : o.guard = none) (s x : Operand)
    (ho : o.op = .call { callee := .builtin .append, args := #[s, x], argTypes := #[22, 22] })
    (W : World) (base : Nat) (A : Option Addr) (n c : Nat) (zs : List Int) (z : Int) (hs : a.eval s = .slice A n c) (hx : a.eval x = .slice (some ⟨W.heap.size, 0, none⟩) 1 1)
    (hO : OwnI W base A n c zs) (hn : n ≤ 1048577) (hb : base ≤ W.heap.size)
    (h : ∀ A' c' w', OwnI w' base A' (n + 1) c' (zs ++ [z]) → W.grownBy w' (Value.slice A n c).ownBlock → K (a.put o.dst (.slice A' (n + 1) c')) w') :
    if Region.wanted o (yielded ops a.tmps) = true then Oper.wp Try.prog o a ((W.alloc (.cells #[.int .i64 z] 3)).drew) K Q else E := by
  obtain ⟨i0, hi, hz0, hz1, hz2⟩ := info_parts infoI
  have hw : Region.wanted o (yielded ops a.tmps) = true := by simp [Region.wanted, hgd]
  rw [if_pos hw]
  have hO' : World.ownsRow ((W.alloc (.cells #[.int .i64 z] 3)).drew) base 3 1 (.slice A n c) n (zs.map (Value.int .i64)) := World.ownsRow.alloc hO _
  refine wp_append_own _ s x 22 ho base 3 i0 (.int .i64 0) 1 8 Try.underlying22 hi hz0 hz1 hz2 rfl (by decide) (.slice A n c) n _ hs hO' ⟨W.heap.size, 0, none⟩ 1 1 [.int .i64 z] hx rfl
    (cell_one_new _ _ _) (by simp [Value.oneCell']) (by simp only [maxLen]; omega) (by omega) (by show base ≤ (W.alloc _).heap.size; simp; omega) ?_
  intro v' w' hown hg _
  obtain ⟨g, cap, hv, _, _⟩ := World.ownsRow.form hown (by omega)
  subst hv
  refine h _ _ _ (by unfold OwnI; rw [List.map_append]; exact hown) ⟨hg.os, hg.tape, hg.output, Nat.le_trans (by simp) hg.size, fun k hk hne => (hg.block k (by show k < (W.alloc _).heap.size; simp; omega) hne).trans (Below.heap_alloc W _ k hk)⟩

set_option maxHeartbeats 4000000 in
theorem walkFnCorrelateAdd (w : World) (A : Option Addr) (n c : Nat) (bs : List Int) (hz : IntsK .u8 w A n bs) (hl : n ≤ maxLen ∧ n ≤ c) (hf : ∀ j, (Lit.int .u8 (el bs j)).wf = true) :
    Calls Try.prog 5 #[.slice A n c] w fun e w' => e = .returned (.bool true) ∧ Below w.heap.size w w' := by
  obtain ⟨hl, hcap⟩ := hl
  unfold maxLen at hl
  by_cases hb : n ≤ 1048576
  · have HF := Lib.hid (bytes_in hf)
    clear hf
    go_enter Try.func5, Try.ntmps5
    go_wp2_with fail
    refine (DrawCorrelate_any _ _ _ bs _ hz hb hcap HF.out).mono ?_
    rintro e w1 ⟨A1, n1, c1, a, B1, m1, d1, b, lag, rfl, hOa, hOb, hn1, hm1, hl0, hl1, hb1⟩
    have HA := Lib.hid hOa.len
    have HB := Lib.hid hOb.len
    cases hok : coOk a b lag
    · go_wp2_with fail
      refine (iCorr_any _ _ _ _ _ _ a b _ _ hOa.ints hOb.ints (by omega) (by omega)).mono ?_
      rintro e w' ⟨rfl, rfl⟩
      go_wp2_with fail
      refine (sCorr_any _ _ _ _ _ _ a b _ _ hOa.ints hOb.ints (by omega) (by omega)).mono ?_
      rintro e w2 ⟨rfl, hb2⟩
      go_wp2
      go_ret
      exact ⟨ret_bool (by simp), below_step hb1 hb2⟩
    · obtain ⟨hsa, hsb, hll, hlag0, hlag1⟩ := co_ok hok
      have hlen : 1 ≤ n1 ∧ n1 ≤ 32 := by have := sv_len hsa; rw [HA.out] at this; exact this
      obtain ⟨hn1', hn2'⟩ := hlen
      obtain rfl : m1 = n1 := by rw [HA.out, HB.out] at hll; omega
      have HSA := Lib.hid hsa
      have HSB := Lib.hid hsb
      have HLL := Lib.hid hll
      have HOK := Lib.hid hok
      have h1a : 1 ≤ a.length := by rw [HA.out]; exact hn1'
      have H1 := Lib.hid h1a
      clear hsa hsb hll hok h1a
      go_wp2_with fail
      refine (iCorr_any _ _ _ _ _ _ a b _ _ hOa.ints hOb.ints (by omega) (by omega)).mono ?_
      rintro e w' ⟨he, rfl⟩
      rw [coV_yes HOK.out, HOK.out] at he
      subst he
      go_wp2_with fail
      refine (sCorr_any _ _ _ _ _ _ a b _ _ hOa.ints hOb.ints (by omega) (by omega)).mono ?_
      rintro e w2 ⟨he, hb2⟩
      rw [coV_yes HOK.out, HOK.out] at he
      subst he
      have hB2 := below_step hb1 hb2
      have hOa2 := hOa.below hb2
      have hOb2 := hOb.below hb2
      have hRa : Hid (∀ j, j < m1 → -1000 ≤ el a j ∧ el a j ≤ 1000) := fun j hj => sv_at HSA.out (by rw [HA.out]; exact hj)
      have hRb : Hid (∀ j, j < m1 → -1000 ≤ el b j ∧ el b j ≤ 1000) := fun j hj => sv_at HSB.out (by rw [HB.out]; exact hj)
      obtain ⟨bA, offA, rfl, hltA, hcA⟩ := hOa2.ints.at_ (by omega)
      obtain ⟨bB, offB, rfl, hltB, hcB⟩ := hOb2.ints.at_ (by omega)
      have HCA := Lib.hid hcA
      have HCB := Lib.hid hcB
      have HX : Hid (∀ k, k < m1 → (addL a b).take (k + 1) = (addL a b).take k ++ [el a k + el b k]) := fun k hk => by
        rw [take_snoc (by rw [addL_len, HA.out]; exact hk), addL_at (by rw [HA.out]; exact hk)]
      have hb0 : Below w2.heap.size w2 (w2.alloc (.cells #[] 3)) := (Below.refl _ _).alloc (Nat.le_refl _) _
      have hO0 := OwnI.lit0 w2 (Nat.le_refl _)
      clear hcA hcB
      go_wp2
      go_loopw [10, 11] (fun v i wr => ∃ (k : Nat) (A' : Option Addr) (c' : Nat), k ≤ m1 ∧ i = .int .i64 k ∧ v = .slice A' k c' ∧ OwnI wr w2.heap.size A' k c' ((addL a b).take k) ∧ Below w2.heap.size w2 wr) (fun _ i _ => m1 - (intOf i).toNat)
      case atStart => exact ⟨0, _, _, Nat.zero_le _, rfl, rfl, hO0, hb0⟩
      case round =>
        obtain ⟨k, A', c', hk, rfl, rfl, hO, hbl⟩ := hrel
        clear hb0 hO0
        by_cases hlt : k < m1
        · have hck : wr.cell? ⟨bA, offA + k, none⟩ = some (.int .i64 (el a k)) := (hbl.cell (p := ⟨bA, offA + k, none⟩) hltA).trans (HCA.out k hlt)
          have hcj : wr.cell? ⟨bB, offB + k, none⟩ = some (.int .i64 (el b k)) := (hbl.cell (p := ⟨bB, offB + k, none⟩) hltB).trans (HCB.out k hlt)
          obtain ⟨hra0, hra1⟩ := hRa.out k hlt
          obtain ⟨hrb0, hrb1⟩ := hRb.out k hlt
          have hsz := hbl.size
          have e1 : IntKind.i64.wrap (el a k + el b k) = el a k + el b k := IntWalk.i64_in _ (by omega)
          have E1 := Lib.hid e1
          clear e1
          go_wp2
          have e1 := E1.out
          go_region_law (refine step_appendI rfl (.tmp 66) (.tmp 76) rfl wr w2.heap.size A' k c' _ (el a k + el b k) rfl rfl hO (by omega) hsz ?_; intro A3 c3 w3 hO3 hG3)
          all_goals
            clear e1
            have hbl3 := hbl.grown hG3 hsz (fun j e => (hO.lt j e).1)
            go_wp2
            go_roundw
            case rel => exact ⟨k + 1, A3, c3, by omega, by go_num, rfl, by rw [HX.out k hlt]; exact hO3, hbl3⟩
            case measure => simp [intOf]; omega
        · obtain rfl : k = m1 := by omega
          have hall : (addL a b).take k = addL a b := List.take_of_length_le (by rw [addL_len, HA.out]; exact Nat.le_refl _)
          rw [hall] at hO
          have hOb3 := hOb2.below hbl
          have hB3 := below_step hB2 hbl
          have HK2 : Hid (coOk b b lag = true) := co_mk HSB.out HSB.out rfl hlag0 hlag1
          have HV1 : Hid (corr (addL a b) b lag = corr a b lag + corr b b lag) := corr_add lag HLL.out
          obtain ⟨hp0, hp1⟩ := corr_small lag HSA.out HSB.out HLL.out
          obtain ⟨hq0, hq1⟩ := corr_small (a := b) (b := b) lag HSB.out HSB.out rfl
          clear hall
          cases hok2 : coOk (addL a b) b lag
          · go_wp2_with fail
            refine (iCorr_any _ _ _ _ _ _ (addL a b) b _ _ hO.ints hOb3.ints (by omega) (by omega)).mono ?_
            rintro e w' ⟨he, rfl⟩
            rw [coV_no hok2, hok2] at he
            subst he
            go_wp2_with fail
            refine (iCorr_any _ _ _ _ _ _ b b _ _ hOb3.ints hOb3.ints (by omega) (by omega)).mono ?_
            rintro e w' ⟨he, rfl⟩
            (try simp only [Int.zero_sub] at he)
            rw [coV_yes HK2.out, HK2.out] at he
            subst he
            go_wp2
            go_ret
            exact ⟨rfl, hB3⟩
          · go_wp2_with fail
            refine (iCorr_any _ _ _ _ _ _ (addL a b) b _ _ hO.ints hOb3.ints (by omega) (by omega)).mono ?_
            rintro e w' ⟨he, rfl⟩
            rw [coV_yes hok2, hok2, HV1.out] at he
            subst he
            go_wp2_with fail
            refine (iCorr_any _ _ _ _ _ _ b b _ _ hOb3.ints hOb3.ints (by omega) (by omega)).mono ?_
            rintro e w' ⟨he, rfl⟩
            (try simp only [Int.zero_sub] at he)
            rw [coV_yes HK2.out, HK2.out] at he
            subst he
            generalize corr a b lag = P at *
            generalize corr b b lag = Y at *
            go_wp2
            go_ret
            exact ⟨ret_bool (by first | rfl | (simp; done)), hB3⟩
  · have hb' : 1048576 < n := by omega
    clear hb
    go_enter Try.func5, Try.ntmps5
    go_wp2
    go_ret
    exact ⟨rfl, Below.refl _ _⟩

end Go.Proofs.Ytiehommofdjgcaa
