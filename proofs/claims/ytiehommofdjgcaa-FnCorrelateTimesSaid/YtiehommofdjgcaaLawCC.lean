/-
  The walks of laws.FnCorrelateTimes.
-/
import Derived.Test.YtiehommofdjgcaaCorrF
import Derived.Test.YtiehommofdjgcaaCorrG
import Derived.Test.YtiehommofdjgcaaDrawC
import Derived.Test.YtiehommofdjgcaaToInts
import Derived.StillTailTactics
namespace Go.Proofs.Ytiehommofdjgcaa
open Go.RowKit
set_option linter.unusedVariables false

/-- append(out, z) onto a row of one's own, and where the new row lies. -/
theorem wpList_appendAt {ops : Array Oper} {rest : List Oper} {o : Oper} {a : Act} {Q : Exit → Act → World → Prop} (hgd : o.guard = none) (s x : Operand)
    (ho : o.op = .call { callee := .builtin .append, args := #[s, x], argTypes := #[22, 22] })
    (W : World) (base : Nat) (A : Option Addr) (n c : Nat) (zs : List Int) (z : Int) (hs : a.eval s = .slice A n c) (hx : a.eval x = .slice (some ⟨W.heap.size, 0, none⟩) 1 1)
    (hO : OwnI W base A n c zs) (hn : n ≤ 1048577) (hb : base ≤ W.heap.size)
    (h : ∀ A' c' w', OwnI w' base A' (n + 1) c' (zs ++ [z]) → W.grownBy w' (Value.slice A n c).ownBlock → (∀ k, (Value.slice A' (n + 1) c').ownBlock = some k → (Value.slice A n c).ownBlock = some k ∨ W.heap.size ≤ k) →
      wpList Try.prog ops Q rest (a.put o.dst (.slice A' (n + 1) c')) w') :
    wpList Try.prog ops Q (o :: rest) a (W.alloc (.cells #[.int .i64 z] 3)) := by
  obtain ⟨i0, hi, hz0, hz1, hz2⟩ := info_parts infoI
  refine wpList_append_own_at _ hgd s x 22 ho base 3 i0 (.int .i64 0) 1 8 Try.underlying22 hi hz0 hz1 hz2 rfl (by decide) (.slice A n c) n _ hs (World.ownsRow.alloc hO _) ⟨W.heap.size, 0, none⟩ 1 1 [.int .i64 z] hx rfl
    (cell_one_new _ _ _) (by simp [Value.oneCell']) (by simp only [maxLen]; omega) (by omega) (by simp; omega) ?_
  intro v' w' hown hg _ hat
  obtain ⟨g, cap, hv, _, _⟩ := World.ownsRow.form hown (by omega)
  subst hv
  refine h _ _ _ (by unfold OwnI; rw [List.map_append]; exact hown) ⟨hg.os, hg.tape, hg.output, Nat.le_trans (by simp) hg.size, fun k hk hne => (hg.block k (by simp; omega) hne).trans (Below.heap_alloc W _ k hk)⟩ (fun k e => ?_)
  rcases hat with e' | e'
  · left; rw [← e', e]
  · right; rw [e] at e'; injection e' with e'; simp at e'; omega

theorem sv_map {zs : List Int} {f : Int → Int} (h : svB zs = true) (hf : ∀ x, -1000 ≤ x → x ≤ 1000 → -1000 ≤ f x ∧ f x ≤ 1000) : svB (mapL f zs) = true := by
  have hl := sv_len h
  refine sv_mk (by rw [mapL_len]; omega) (by rw [mapL_len]; omega) fun j hj => ?_
  rw [mapL_len] at hj
  rw [mapL_at hj]
  have := sv_at h hj
  exact hf _ this.1 this.2
theorem S_bd {f : Nat → Int} (M : Int) : ∀ {n : Nat}, (∀ i, i < n → -M ≤ f i ∧ f i ≤ M) → -(M * (n : Int)) ≤ S f n ∧ S f n ≤ M * (n : Int)
  | 0, _ => by simp [S]
  | n + 1, h => by
    have h1 := S_bd M (n := n) (fun i hi => h i (by omega))
    have h2 := h n (by omega)
    have h3 : M * ((n + 1 : Nat) : Int) = M * (n : Int) + M := by rw [Int.natCast_add]; simp [Int.mul_add]
    simp only [S]
    rw [h3]
    omega

set_option maxHeartbeats 4000000 in
theorem walkFnCorrelateTimes (w : World) (A : Option Addr) (n c : Nat) (bs : List Int) (hz : IntsK .u8 w A n bs) (hl : n ≤ maxLen ∧ n ≤ c) (hf : ∀ j, (Lit.int .u8 (el bs j)).wf = true) :
    Calls Try.prog 10 #[.slice A n c] w fun e w' => e = .returned (.bool true) ∧ Below w.heap.size w w' := by
  obtain ⟨hl, hcap⟩ := hl
  unfold maxLen at hl
  by_cases hb : n ≤ 1048576
  · have HF := Lib.hid (bytes_in hf)
    clear hf
    go_enter Try.func10, Try.ntmps10
    go_wp2_with fail
    refine (DrawCorrelate_any _ _ _ bs _ hz hb hcap HF.out).mono ?_
    rintro e w1 ⟨A1, n1, c1, a, B1, m1, d1, b, lag, rfl, hOa, hOb, hn1, hm1, hl0, hl1, hb1⟩
    have HA := Lib.hid hOa.len
    have HB := Lib.hid hOb.len
    cases hok : coOk a b lag
    · go_wp2_with fail
      refine (iCorr_any _ _ _ _ _ _ a b _ _ hOa.ints hOb.ints (by omega) (by omega)).mono ?_
      rintro e w' ⟨rfl, rfl⟩
      go_wp2_with fail
      refine (sCorr_any _ _ _ _ _ _ a b _ _ hOa.ints hOb.ints (by omega) (by omega)).mono ?_
      rintro e w2 ⟨rfl, hb2⟩
      go_wp2
      go_ret
      exact ⟨ret_bool (by simp), below_step hb1 hb2⟩
    · obtain ⟨hsa, hsb, hll, hlag0, hlag1⟩ := co_ok hok
      have hlen : 1 ≤ n1 ∧ n1 ≤ 32 := by have := sv_len hsa; rw [HA.out] at this; exact this
      obtain ⟨hn1', hn2'⟩ := hlen
      obtain rfl : m1 = n1 := by rw [HA.out, HB.out] at hll; omega
      have HSA := Lib.hid hsa
      have HSB := Lib.hid hsb
      have HLL := Lib.hid hll
      have HOK := Lib.hid hok
      have h1a : 1 ≤ a.length := by rw [HA.out]; exact hn1'
      have H1 := Lib.hid h1a
      clear hsa hsb hll hok h1a
      go_wp2_with fail
      refine (iCorr_any _ _ _ _ _ _ a b _ _ hOa.ints hOb.ints (by omega) (by omega)).mono ?_
      rintro e w' ⟨he, rfl⟩
      rw [coV_yes HOK.out, HOK.out] at he
      subst he
      go_wp2_with fail
      refine (sCorr_any _ _ _ _ _ _ a b _ _ hOa.ints hOb.ints (by omega) (by omega)).mono ?_
      rintro e w2 ⟨he, hb2⟩
      rw [coV_yes HOK.out, HOK.out] at he
      subst he
      have hB2 := below_step hb1 hb2
      have hOa2 := hOa.below hb2
      have hOb2 := hOb.below hb2
      have HC : Hid (∀ j, j < m1 → ∃ b' off', A1 = some ⟨b', off', none⟩ ∧ b' < w2.heap.size ∧ w2.cell? ⟨b', off' + j, none⟩ = some (.int .i64 (el a j))) := fun j hj => by
        obtain ⟨b', off', e, hlt, hc⟩ := hOa2.ints.at_ (by omega)
        exact ⟨b', off', e, hlt, hc j hj⟩
      have hR : Hid (∀ j, j < m1 → -1000 ≤ el a j ∧ el a j ≤ 1000) := fun j hj => sv_at HSA.out (by rw [HA.out]; exact hj)
      obtain ⟨bA, offA, rfl, hltA, hcA⟩ := hOa2.ints.at_ (by omega)
      have HCA := Lib.hid hcA
      have HX : Hid (∀ k, k < m1 → (mapL (fun x => (-1) * x) a).take (k + 1) = (mapL (fun x => (-1) * x) a).take k ++ [-(el a k)]) := fun k hk => by
        rw [take_snoc (by rw [mapL_len, HA.out]; exact hk), mapL_at (by rw [HA.out]; exact hk)]
        congr 2; omega
      have HY : Hid (∀ k, k < m1 → (mapL (fun x => 2 * x) a).take (k + 1) = (mapL (fun x => 2 * x) a).take k ++ [2 * el a k]) := fun k hk => by
        rw [take_snoc (by rw [mapL_len, HA.out]; exact hk), mapL_at (by rw [HA.out]; exact hk)]
      have HAll : Hid (∀ f : Int → Int, (mapL f a).take m1 = mapL f a) := fun f => List.take_of_length_le (by rw [mapL_len, HA.out]; exact Nat.le_refl _)
      have hb0 : Below w2.heap.size w2 ((w2.alloc (.cells #[] 3)).alloc (.cells #[] 3)) := ((Below.refl _ _).alloc (Nat.le_refl _) _).alloc (by simp) _
      have hO0 : OwnI ((w2.alloc (.cells #[] 3)).alloc (.cells #[] 3)) w2.heap.size (some ⟨w2.heap.size, 0, none⟩) 0 0 [] := (OwnI.lit0 w2 (Nat.le_refl _)).below ((Below.refl _ _).alloc (Nat.le_refl _) _)
      have hO1 : OwnI ((w2.alloc (.cells #[] 3)).alloc (.cells #[] 3)) w2.heap.size (some ⟨w2.heap.size + 1, 0, none⟩) 0 0 [] := by
        have := OwnI.lit0 (w2.alloc (.cells #[] 3)) (base := w2.heap.size) (by simp)
        simpa using this
      clear hcA
      go_wp2
      go_loopw [10, 11, 12] (fun vx vy i wr => ∃ (k : Nat) (Ax : Option Addr) (cx : Nat) (Ay : Option Addr) (cy : Nat), k ≤ m1 ∧ i = .int .i64 k ∧ vx = .slice Ax k cx ∧ vy = .slice Ay k cy ∧ OwnI wr w2.heap.size Ax k cx ((mapL (fun x => (-1) * x) a).take k) ∧ OwnI wr w2.heap.size Ay k cy ((mapL (fun x => 2 * x) a).take k) ∧
          (∀ g, (Value.slice Ax k cx).ownBlock = some g → (Value.slice Ay k cy).ownBlock = some g → False) ∧ Below w2.heap.size w2 wr) (fun _ _ i _ => m1 - (intOf i).toNat)
      case atStart => exact ⟨0, _, _, _, _, Nat.zero_le _, rfl, rfl, rfl, hO0, hO1, fun g e e' => by simp [Value.ownBlock] at e e'; omega, hb0⟩
      case round =>
        obtain ⟨k, Ax, cx, Ay, cy, hk, rfl, rfl, rfl, hOx, hOy, hdis, hbl⟩ := hrel
        clear hb0 hO0 hO1
        by_cases hlt : k < m1
        · have hck : wr.cell? ⟨bA, offA + k, none⟩ = some (.int .i64 (el a k)) := (hbl.cell (p := ⟨bA, offA + k, none⟩) hltA).trans (HCA.out k hlt)
          have hr1 := (hR.out k hlt).1
          have hr2 := (hR.out k hlt).2
          have hsz := hbl.size
          have HD := Lib.hid hdis
          clear hdis
          go_wp2_with (first | (at_builtin; refine wpList_appendAt rfl (.tmp 68) (.tmp 74) rfl wr w2.heap.size Ax k cx _ (-(el a k)) rfl rfl hOx (by omega) hsz ?_; intro A3 c3 w3 hO3 hG3 hW3; have HW3 := Lib.hid hW3; clear hW3; have hOy3 := hOy.far hG3 (fun g e e' => HD.out g e' e); have hbl3 := hbl.grown hG3 hsz (fun j e => (hOx.lt j e).1); have hck3 : w3.cell? ⟨bA, offA + k, none⟩ = some (.int .i64 (el a k)) := (hbl3.cell (p := ⟨bA, offA + k, none⟩) hltA).trans (HCA.out k hlt); have hsz3 := hbl3.size) | (at_builtin; refine wpList_appendAt rfl (.tmp 76) (.tmp 82) rfl w3 w2.heap.size Ay k cy _ (2 * el a k) rfl rfl hOy3 (by omega) hsz3 ?_; intro A4 c4 w4 hO4 hG4 hW4; have HW4 := Lib.hid hW4; clear hW4))
          have hbl4 := hbl3.grown hG4 hsz3 (fun j e => (hOy3.lt j e).1)
          have hOx4 := hO3.far hG4 (fun g e e' => by
            rcases HW3.out g e with h | h
            · exact HD.out g h e'
            · have := (hOy.lt g e').2; omega)
          go_roundw
          case rel =>
            refine ⟨k + 1, A3, c3, A4, c4, by omega, by go_num, rfl, rfl, by rw [HX.out k hlt]; exact hOx4, by rw [HY.out k hlt]; exact hO4, fun g e e' => ?_, hbl4⟩
            have h3 := (hO3.lt g e).2
            rcases HW4.out g e' with h | h
            · rcases HW3.out g e with h' | h'
              · exact HD.out g h' h
              · have := (hOy.lt g h).2; omega
            · omega
          case measure => simp [intOf]; omega
        · obtain rfl : k = m1 := by omega
          rw [HAll.out] at hOx hOy
          have hOb3 := hOb2.below hbl
          have HK1 : Hid (coOk (mapL (fun x => (-1) * x) a) b lag = true) := co_mk (sv_map HSA.out fun x h0 h1 => by omega) HSB.out (by rw [mapL_len, HLL.out]) hlag0 hlag1
          have HV1 : Hid (corr (mapL (fun x => (-1) * x) a) b lag = -(corr a b lag)) := by rw [corr_times]; exact (by omega : (-1) * corr a b lag = -(corr a b lag))
          have HV2 : Hid (corr (mapL (fun x => 2 * x) a) b lag = 2 * corr a b lag) := corr_times lag 2
          obtain ⟨hp0, hp1⟩ := corr_small lag HSA.out HSB.out HLL.out
          have hB3 := below_step hB2 hbl
          go_wp2_with fail
          refine (iCorr_any _ _ _ _ _ _ (mapL (fun x => (-1) * x) a) b _ _ hOx.ints hOb3.ints (by omega) (by omega)).mono ?_
          rintro e w' ⟨he, rfl⟩
          (try simp only [Int.zero_sub] at he)
          rw [coV_yes HK1.out, HK1.out, HV1.out] at he
          subst he
          cases hok2 : coOk (mapL (fun x => 2 * x) a) b lag
          · go_wp2_with fail
            refine (iCorr_any _ _ _ _ _ _ (mapL (fun x => 2 * x) a) b _ _ hOy.ints hOb3.ints (by omega) (by omega)).mono ?_
            rintro e w' ⟨he, rfl⟩
            rw [coV_no hok2, hok2] at he
            subst he
            generalize corr a b lag = P at *
            go_wp2
            go_ret
            exact ⟨ret_bool (by first | rfl | (simp; done)), hB3⟩
          · go_wp2_with fail
            refine (iCorr_any _ _ _ _ _ _ (mapL (fun x => 2 * x) a) b _ _ hOy.ints hOb3.ints (by omega) (by omega)).mono ?_
            rintro e w' ⟨he, rfl⟩
            rw [coV_yes hok2, hok2, HV2.out] at he
            subst he
            generalize corr a b lag = P at *
            go_wp2
            go_ret
            exact ⟨ret_bool (by first | rfl | (simp; done)), hB3⟩
  · have hb' : 1048576 < n := by omega
    clear hb
    go_enter Try.func10, Try.ntmps10
    go_wp2
    go_ret
    exact ⟨rfl, Below.refl _ _⟩

end Go.Proofs.Ytiehommofdjgcaa
