/-
  The walks of laws.FnShiftSamples and FnShiftLevel.
-/
import Derived.Test.YtgepjbfdjnhcoaaLevels
import Derived.Test.YtgepjbfdjnhcoaaShiftF
import Derived.Test.YtgepjbfdjnhcoaaDrawOne
namespace Go.Proofs.Ytgepjbfdjnhcoaa
open Go.RowKit
set_option linter.unusedVariables false

set_option maxHeartbeats 2000000 in
theorem walkFnShiftSamples (w : World) (A : Option Addr) (n c : Nat) (bs : List Int) (hz : IntsK .u8 w A n bs) (hl : n ≤ maxLen ∧ n ≤ c) (hf : ∀ j, (Lit.int .u8 (el bs j)).wf = true) :
    Calls Try.prog 11 #[.slice A n c] w fun e w' => e = .returned (.bool true) ∧ Below w.heap.size w w' := by
  obtain ⟨hl, hcap⟩ := hl
  unfold maxLen at hl
  by_cases hb : n ≤ 1048576
  · have HF := Lib.hid (bytes_in hf)
    clear hf
    go_enter Try.func11, Try.ntmps11
    go_wp2_with fail
    refine (DrawSamplesShift_any _ _ _ bs _ hz hb hcap HF.out).mono ?_
    rintro e w1 ⟨A1, n1, c1, zs, lag, rfl, ho1, hn1, hlag0, hlag1, hb1⟩
    have HL := Lib.hid ho1.len
    have HV : Hid ((shV zs lag).length ≤ 1048576) := shV_len zs lag (by rw [HL.out]; omega)
    go_wp2_with fail
    refine (iShift_any _ _ _ zs _ _ ho1.ints (by omega)).mono ?_
    rintro e w2 ⟨A2, n2, c2, rfl, ho2, hb2⟩
    have hn2 : n2 ≤ 1048577 := by have := ho2.len; have := HV.out; omega
    have hB2 := below_step hb1 hb2
    have ho12 := ho1.below hb2
    go_wp2_with fail
    refine (sShift_any _ _ _ zs _ _ ho12.ints (by omega)).mono ?_
    rintro e w3 ⟨A3, n3, c3, rfl, ho3, hb3⟩
    have hB3 := below_step hB2 hb3
    have hEq := eqL_self (shV zs lag)
    cases hok : shOk zs lag
    · go_wp2_with fail
      refine (sameInts_any _ _ _ _ _ _ _ _ _ (ho2.below hb3).ints ho3.ints hn2).mono ?_
      rintro e w4 ⟨rfl, hb4⟩
      have hB4 := below_step hB3 hb4
      go_wp2_with fail
      refine (sameInts_any _ _ _ _ _ _ _ _ _ ((ho2.below hb3).below hb4).ints (ho3.below hb4).ints hn2).mono ?_
      rintro e w5 ⟨rfl, hb5⟩
      go_wp2
      go_ret
      exact ⟨rfl, below_step hB4 hb5⟩
    · obtain ⟨hsv, hg0, hg1⟩ := sh_ok hok
      have HSV := Lib.hid hsv
      have hlen : 1 ≤ n1 ∧ n1 ≤ 32 := by have := sv_len hsv; rw [HL.out] at this; exact this
      obtain ⟨hlen1, hlen2⟩ := hlen
      have HVE := Lib.hid (shV_yes hok)
      have HK2 : Hid (shOk (shV zs lag) (-lag) = true) := by rw [shV_yes hok]; exact sh_ok_mk (sv_shl lag hsv) (by omega) (by omega)
      have HR2 : Hid (shV (shV zs lag) (-lag) = zs) := by
        have h2 := HK2.out
        rw [shV_yes h2, shV_yes hok, shl_shl, shl_whole zs (.inl (by omega))]; exact rfl
      have HK3 : Hid (shOk zs (n1 : Int) = true) := sh_ok_mk hsv (by omega) (by omega)
      have HR3 : Hid (shV zs (n1 : Int) = zs) := by rw [shV_yes HK3.out, shl_whole zs (.inr (by rw [HL.out]))]; exact rfl
      clear hsv
      go_wp2_with fail
      refine (sameInts_any _ _ _ _ _ _ _ _ _ (ho2.below hb3).ints ho3.ints hn2).mono ?_
      rintro e w4 ⟨rfl, hb4⟩
      have hB4 := below_step hB3 hb4
      have ho24 := (ho2.below hb3).below hb4
      have ho14 := (ho12.below hb3).below hb4
      go_wp2_with fail
      refine (iShift_any _ _ _ (shV zs lag) _ _ ho24.ints hn2).mono ?_
      rintro e w5 ⟨A5, n5, c5, he, ho5, hb5⟩
      (try simp only [Int.zero_sub] at he ho5)
      rw [HK2.out] at he
      rw [HR2.out] at ho5
      subst he
      have hB5 := below_step hB4 hb5
      have ho15 := ho14.below hb5
      go_wp2_with fail
      refine (iShift_any _ _ _ zs _ _ ho15.ints (by omega)).mono ?_
      rintro e w6 ⟨A6, n6, c6, he, ho6, hb6⟩
      rw [HK3.out] at he
      rw [HR3.out] at ho6
      subst he
      have hB6 := below_step hB5 hb6
      have hn5 : n5 ≤ 1048577 := by have := ho5.len; have := HL.out; omega
      have hn6 : n6 ≤ 1048577 := by have := ho6.len; have := HL.out; omega
      have hEz := eqL_self zs
      go_wp2_with fail
      refine (sameInts_any _ _ _ _ _ _ _ _ _ (ho5.below hb6).ints (ho15.below hb6).ints hn5).mono ?_
      rintro e w7 ⟨rfl, hb7⟩
      have hB7 := below_step hB6 hb7
      go_wp2_with fail
      refine (sameInts_any _ _ _ _ _ _ _ _ _ (ho6.below hb7).ints ((ho15.below hb6).below hb7).ints hn6).mono ?_
      rintro e w8 ⟨rfl, hb8⟩
      go_wp2
      go_ret
      exact ⟨rfl, below_step hB7 hb8⟩
  · have hb' : 1048576 < n := by omega
    clear hb
    go_enter Try.func11, Try.ntmps11
    go_wp2
    go_ret
    exact ⟨rfl, Below.refl _ _⟩

theorem lv_ok_mk {zs : List Int} {t : Int} (h : svB zs = true) (h1 : 1 ≤ t) (h2 : t ≤ 1000) : lvOk zs t = true := by
  simp only [lvOk, Bool.and_eq_true]
  exact ⟨h, betB_true.2 ⟨h1, h2⟩⟩
theorem lev_small (x t : Int) : -3 ≤ lev x t ∧ lev x t ≤ 3 := by
  rcases lev_ways x t with ⟨_, H⟩ | ⟨_, _, H⟩ | ⟨_, _, _, H⟩ | ⟨_, _, _, _, H⟩ | ⟨_, _, _, _, H⟩ | ⟨_, _, _, _, H⟩ <;> rw [H.out] <;> omega
theorem sv_lvl {zs : List Int} (t : Int) (h : svB zs = true) : svB (lvl zs t) = true := by
  have hl := sv_len h
  refine sv_mk (by rw [lvl_len]; omega) (by rw [lvl_len]; omega) fun j hj => ?_
  rw [lvl_len] at hj
  rw [lvl_at hj]
  have := lev_small (el zs j) t
  omega
theorem lvl_shl (zs : List Int) (t lag : Int) : lvl (shl zs lag) t = shl (lvl zs t) lag := by
  apply el_ext (by rw [lvl_len, shl_len, shl_len, lvl_len])
  intro j hj
  rw [lvl_len, shl_len] at hj
  have h1 := cyc_ge (k := (j : Int) - lag) (n := zs.length) (by omega)
  have h2 := cyc_lt (k := (j : Int) - lag) (n := zs.length) (by omega)
  rw [lvl_at (by rw [shl_len]; exact hj), shl_at hj, shl_at (by rw [lvl_len]; exact hj), lvl_len, lvl_at (by omega)]

set_option maxHeartbeats 2000000 in
theorem walkFnShiftLevel (w : World) (A : Option Addr) (n c : Nat) (bs : List Int) (hz : IntsK .u8 w A n bs) (hl : n ≤ maxLen ∧ n ≤ c) (hf : ∀ j, (Lit.int .u8 (el bs j)).wf = true)
    (B : Option Addr) (m d : Nat) (ms : List Int) (hy : IntsK .u8 w B m ms) (hl' : m ≤ maxLen ∧ m ≤ d) (_ : ∀ j, (Lit.int .u8 (el ms j)).wf = true) :
    Calls Try.prog 13 #[.slice A n c, .slice B m d] w fun e w' => e = .returned (.bool true) ∧ Below w.heap.size w w' := by
  obtain ⟨hl, hcap⟩ := hl
  obtain ⟨hl', hcap'⟩ := hl'
  unfold maxLen at hl hl'
  by_cases hb : n ≤ 1048576
  · by_cases hbm : m ≤ 1048576
    · have HF := Lib.hid (bytes_in hf)
      clear hf
      go_enter Try.func13, Try.ntmps13
      go_wp2_with fail
      refine (DrawSamplesShift_any _ _ _ bs _ hz hb hcap HF.out).mono ?_
      rintro e w1 ⟨A1, n1, c1, zs, lag, rfl, ho1, hn1, hlag0, hlag1, hb1⟩
      have HL := Lib.hid ho1.len
      have HV : Hid ((shV zs lag).length ≤ 1048576) := shV_len zs lag (by rw [HL.out]; omega)
      go_wp2_with fail
      refine (iShift_any _ _ _ zs _ _ ho1.ints (by omega)).mono ?_
      rintro e w2 ⟨A2, n2, c2, rfl, ho2, hb2⟩
      have hn2 : n2 ≤ 1048577 := by have := ho2.len; have := HV.out; omega
      have hB2 := below_step hb1 hb2
      have ho12 := ho1.below hb2
      go_wp2_with fail
      refine (sShift_any _ _ _ zs _ _ ho12.ints (by omega)).mono ?_
      rintro e w3 ⟨A3, n3, c3, rfl, ho3, hb3⟩
      have hB3 := below_step hB2 hb3
      have hEq := eqL_self (shV zs lag)
      cases hok : shOk zs lag
      · go_wp2_with fail
        refine (sameInts_any _ _ _ _ _ _ _ _ _ (ho2.below hb3).ints ho3.ints hn2).mono ?_
        rintro e w4 ⟨rfl, hb4⟩
        have hB4 := below_step hB3 hb4
        go_wp2_with fail
        refine (sameInts_any _ _ _ _ _ _ _ _ _ ((ho2.below hb3).below hb4).ints (ho3.below hb4).ints hn2).mono ?_
        rintro e w5 ⟨rfl, hb5⟩
        go_wp2
        go_ret
        exact ⟨rfl, below_step hB4 hb5⟩
      · obtain ⟨hsv, hg0, hg1⟩ := sh_ok hok
        have hlen : 1 ≤ n1 ∧ n1 ≤ 32 := by have := sv_len hsv; rw [HL.out] at this; exact this
        obtain ⟨hlen1, hlen2⟩ := hlen
        have HSV := Lib.hid hsv
        have HVE := Lib.hid (shV_yes hok)
        have HS2 : Hid (svB (shV zs lag) = true) := by rw [shV_yes hok]; exact sv_shl lag hsv
        have HLv1 : ∀ k : Int, 1 ≤ k → k ≤ 20 → Hid (lvOk (shV zs lag) k = true) := fun k h1 h2 => lv_ok_mk HS2.out h1 (by omega)
        have HLv2 : ∀ k : Int, 1 ≤ k → k ≤ 20 → Hid (lvOk zs k = true) := fun k h1 h2 => lv_ok_mk HSV.out h1 (by omega)
        have HSh : ∀ k : Int, 1 ≤ k → k ≤ 20 → Hid (shOk (lvV zs k) lag = true) := fun k h1 h2 => by rw [lvV_yes (HLv2 k h1 h2).out]; exact sh_ok_mk (sv_lvl k HSV.out) hg0 hg1
        have HEnd : ∀ k : Int, 1 ≤ k → k ≤ 20 → Hid (shV (lvV zs k) lag = lvV (shV zs lag) k) := fun k h1 h2 => by
          rw [shV_yes (HSh k h1 h2).out, lvV_yes (HLv2 k h1 h2).out, lvV_yes (HLv1 k h1 h2).out, HVE.out, lvl_shl]; exact rfl
        have HK := Lib.hid HLv1
        have HK2 := Lib.hid HLv2
        have HK3 := Lib.hid HSh
        have HK4 := Lib.hid HEnd
        clear hsv HLv1 HLv2 HSh HEnd
        go_wp2_with fail
        refine (sameInts_any _ _ _ _ _ _ _ _ _ (ho2.below hb3).ints ho3.ints hn2).mono ?_
        rintro e w4 ⟨rfl, hb4⟩
        have hB4 := below_step hB3 hb4
        have ho24 := (ho2.below hb3).below hb4
        have ho14 := (ho12.below hb3).below hb4
        go_wp2_with fail
        obtain ⟨k, hk⟩ : ∃ k : Int, (1 : Int) + (m : Int) % 20 = k := ⟨_, rfl⟩
        have hk1 : 1 ≤ k := by omega
        have hk2 : k ≤ 20 := by omega
        rw [hk]
        clear hk
        refine (iLevels_any _ _ _ (shV zs lag) _ _ ho24.ints hn2).mono ?_
        rintro e w5 ⟨A5, n5, c5, he, ho5, hb5⟩
        rw [(HK.out k hk1 hk2).out] at he
        subst he
        have hB5 := below_step hB4 hb5
        have ho15 := ho14.below hb5
        go_wp2_with fail
        refine (iLevels_any _ _ _ zs _ _ ho15.ints (by omega)).mono ?_
        rintro e w6 ⟨A6, n6, c6, he, ho6, hb6⟩
        rw [(HK2.out k hk1 hk2).out] at he
        subst he
        have hB6 := below_step hB5 hb6
        have hn6 : n6 ≤ 1048577 := by have := ho6.len; have := lvV_len zs k (by have := HL.out; omega); omega
        go_wp2_with fail
        refine (iShift_any _ _ _ (lvV zs k) _ _ ho6.ints hn6).mono ?_
        rintro e w7 ⟨A7, n7, c7, he, ho7, hb7⟩
        rw [(HK3.out k hk1 hk2).out] at he
        rw [(HK4.out k hk1 hk2).out] at ho7
        subst he
        have hB7 := below_step hB6 hb7
        have hn5 : n5 ≤ 1048577 := by have := ho5.len; have := lvV_len (shV zs lag) k HV.out; omega
        have hEz := eqL_self (lvV (shV zs lag) k)
        go_wp2_with fail
        refine (sameInts_any _ _ _ _ _ _ _ _ _ ((ho5.below hb6).below hb7).ints ho7.ints hn5).mono ?_
        rintro e w8 ⟨rfl, hb8⟩
        go_wp2
        go_ret
        exact ⟨rfl, below_step hB7 hb8⟩
    · have hb' : 1048576 < m := by omega
      clear hbm
      go_enter Try.func13, Try.ntmps13
      go_wp2
      go_ret
      exact ⟨rfl, Below.refl _ _⟩
  · have hb' : 1048576 < n := by omega
    clear hb
    go_enter Try.func13, Try.ntmps13
    go_wp2
    go_ret
    exact ⟨rfl, Below.refl _ _⟩

end Go.Proofs.Ytgepjbfdjnhcoaa
