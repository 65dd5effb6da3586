/-
  Contract: spec.VisPoint returns the visibilities of a point source.
-/
import Derived.Test.YtkmnjekpogbkkaaVisPt
namespace Go.Proofs.Ytkmnjekpogbkkaa
open Go.RowKit
set_option linter.unusedVariables false

theorem box_far' {w w' : World} {a : Nat} {x y : Int} {row : Option Nat} (h : Box w a x y) (hg : w.grownBy w' row) (hr : ∀ k, row = some k → a < k) : Box w' a x y := by
  have hb := hg.block a h.1 (fun e => by have := hr a e.symm; omega)
  exact ⟨Nat.lt_of_lt_of_le h.1 hg.size, (World.cell?_of_block (w := w) (a := ⟨a, 0, none⟩) hb).trans h.2.1, (World.cell?_of_block (w := w) (a := ⟨a, 1, none⟩) hb).trans h.2.2⟩

set_option maxRecDepth 100000 in
set_option maxHeartbeats 4000000 in
theorem sVisPoint_any (A : Option Addr) (n c : Nat) (ps : List (Int × Int)) (x y amp : Int) (w : World) (hz : Prs w A n ps) (hn : n ≤ 1048577) (hc : n ≤ c) :
    Calls Try.prog 12 #[.slice A n c, .agg #[.int .i64 x, .int .i64 y], .int .i64 amp] w (RetPB 35 w (vpV ps x y amp) (vpOk ps x y amp)) := by
  have HL := Lib.hid hz.len
  have hba : Below w.heap.size w ((w.alloc (.cells #[.int .i64 x, .int .i64 y] 25)).alloc (.cells #[] 35)) := ((Below.refl _ _).alloc (Nat.le_refl _) _).alloc (by simp) _
  have hz0 := hz.below hba
  have hx0 : Box ((w.alloc (.cells #[.int .i64 x, .int .i64 y] 25)).alloc (.cells #[] 35)) w.heap.size x y := (Box.new w 25 x y).below (below_alloc _ _)
  have hO0 : OwnP 35 ((w.alloc (.cells #[.int .i64 x, .int .i64 y] 25)).alloc (.cells #[] 35)) (w.heap.size + 1) (some ⟨(w.alloc (.cells #[.int .i64 x, .int .i64 y] 25)).heap.size, 0, none⟩) 0 0 [] := OwnP.lit0 35 (w.alloc (.cells #[.int .i64 x, .int .i64 y] 25)) (by simp)
  rw [World.size_alloc] at hO0
  cases hv : avB ps
  · have HA := Lib.hid hv
    have H0 : Hid (vpOk ps x y amp = false) := by unfold vpOk; rw [hv]; rfl
    clear hv
    go_enter Try.func12, Try.ntmps12
    go_wp2_with fail
    refine (sArrayV_any _ _ _ ps _ hz0 hn hc).mono ?_
    rintro e w1 ⟨he, hb1⟩
    rw [HA.out] at he
    subst he
    have B1 := below_step hba hb1
    have O1 := hO0.below hb1
    have X1 := hx0.below hb1
    go_wp2
    go_ret2
    exact ⟨_, _, _, by rw [H0.out]; rfl, by rw [vp_no H0.out]; exact O1.mono (by omega), B1⟩
  have HA := Lib.hid hv
  cases hp : plc x y
  · have HP := Lib.hid hp
    have H0 : Hid (vpOk ps x y amp = false) := by unfold vpOk; rw [hv, hp]; rfl
    clear hv hp
    go_enter Try.func12, Try.ntmps12
    go_wp2_with fail
    refine (sArrayV_any _ _ _ ps _ hz0 hn hc).mono ?_
    rintro e w1 ⟨he, hb1⟩
    rw [HA.out] at he
    subst he
    have B1 := below_step hba hb1
    have O1 := hO0.below hb1
    have X1 := hx0.below hb1
    have c1 := X1.2.1
    have c2 := X1.2.2
    go_wp2_with fail
    refine (l3Place_any _ _ _).mono ?_
    rintro e w2 ⟨he, hb2⟩
    rw [HP.out] at he
    subst he
    have B2 := below_step B1 hb2
    have O2 := O1.below hb2
    have X2 := X1.below hb2
    clear c1 c2
    go_wp2
    go_ret2
    exact ⟨_, _, _, by rw [H0.out]; rfl, by rw [vp_no H0.out]; exact O2.mono (by omega), B2⟩
  have HP := Lib.hid hp
  cases ha : betB amp 1 1000000
  · have HM := Lib.hid ha
    have H0 : Hid (vpOk ps x y amp = false) := by unfold vpOk; rw [hv, hp, ha]; rfl
    clear hv hp ha
    go_enter Try.func12, Try.ntmps12
    go_wp2_with fail
    refine (sArrayV_any _ _ _ ps _ hz0 hn hc).mono ?_
    rintro e w1 ⟨he, hb1⟩
    rw [HA.out] at he
    subst he
    have B1 := below_step hba hb1
    have O1 := hO0.below hb1
    have X1 := hx0.below hb1
    have c1 := X1.2.1
    have c2 := X1.2.2
    go_wp2_with fail
    refine (l3Place_any _ _ _).mono ?_
    rintro e w2 ⟨he, hb2⟩
    rw [HP.out] at he
    subst he
    have B2 := below_step B1 hb2
    have O2 := O1.below hb2
    have X2 := X1.below hb2
    clear c1 c2
    go_wp2_with fail
    refine (l6In_any _ _ _ _).mono ?_
    rintro e w' ⟨he, rfl⟩
    rw [HM.out] at he
    subst he
    go_wp2
    go_ret2
    exact ⟨_, _, _, by rw [H0.out]; rfl, by rw [vp_no H0.out]; exact O2.mono (by omega), B2⟩
  have HM := Lib.hid ha
  have H0 : Hid (vpOk ps x y amp = true) := by unfold vpOk; rw [hv, hp, ha]; rfl
  have HV : Hid (vpV ps x y amp = vpL ps x y amp (rows n n)) := by have := vp_yes H0.out; rw [HL.out] at this; exact this
  have hlen := av_len hv
  rw [HL.out] at hlen
  obtain ⟨hn1, hn2⟩ := hlen
  clear hv hp ha
  go_enter Try.func12, Try.ntmps12
  go_wp2_with fail
  refine (sArrayV_any _ _ _ ps _ hz0 hn hc).mono ?_
  rintro e w1 ⟨he, hb1⟩
  rw [HA.out] at he
  subst he
  have B1 := below_step hba hb1
  have O1 := hO0.below hb1
  have X1 := hx0.below hb1
  have c1 := X1.2.1
  have c2 := X1.2.2
  go_wp2_with fail
  refine (l3Place_any _ _ _).mono ?_
  rintro e w2 ⟨he, hb2⟩
  rw [HP.out] at he
  subst he
  have B2 := below_step B1 hb2
  have O2 := O1.below hb2
  have X2 := X1.below hb2
  clear c1 c2
  go_wp2_with fail
  refine (l6In_any _ _ _ _).mono ?_
  rintro e w' ⟨he, rfl⟩
  rw [HM.out] at he
  subst he

  go_wp2
  clear hz0 hx0 hO0 hba O1 X1 B1
  go_loopw [8, 9] (fun v i wr => ∃ (k q : Nat) (A' : Option Addr) (c' : Nat), k ≤ n ∧ i = .int .i64 k ∧ v = .slice A' q c' ∧ OwnP 35 wr (w.heap.size + 1) A' q c' (vpL ps x y amp (rows n k)) ∧ Below w.heap.size w wr ∧ Box wr w.heap.size x y) (fun _ i _ => n - (intOf i).toNat)
  case atStart => exact ⟨0, 0, _, _, Nat.zero_le _, rfl, rfl, O2, B2, X2⟩
  case round =>
    obtain ⟨k, q, A', c', hk, rfl, rfl, hO, hbl, hX⟩ := hrel
    clear O2 B2 X2
    by_cases hlt : k < n
    · have hki : (k : Int) < (n : Int) := by omega
      go_wp2
      go_loopw [8, 10] (fun v j wr => ∃ (m q : Nat) (A' : Option Addr) (c' : Nat), k + 1 ≤ m ∧ m ≤ n ∧ j = .int .i64 m ∧ v = .slice A' q c' ∧ OwnP 35 wr (w.heap.size + 1) A' q c' (vpL ps x y amp (rows n k ++ rowTo k m)) ∧ Below w.heap.size w wr ∧ Box wr w.heap.size x y) (fun _ j _ => n - (intOf j).toNat)
      case atStart => exact ⟨k + 1, q, A', c', Nat.le_refl _, hlt, by go_num, rfl, by rw [rowTo_zero, List.append_nil]; exact hO, hbl, hX⟩
      case round =>
        obtain ⟨m, q, A', c', hm1, hm2, rfl, rfl, hO, hbl, hX⟩ := hrel
        by_cases hmn : m < n
        · have hmi : (m : Int) < (n : Int) := by omega
          have hq : q ≤ 49 := by
            have h1 := hO.len
            rw [vpL_len, List.length_append, rowTo_len] at h1
            have := rows_len hn2 k
            omega
          have c1 := hX.2.1
          have c2 := hX.2.2
          go_wp2_with fail
          refine (sDelayPhase_any _ _ _ ps _ _ _ _ _ (hz.below hbl) hn hc).mono ?_
          rintro e w1 ⟨rfl, hb1⟩
          have hO1 := hO.below hb1
          have B1 := below_step hbl hb1
          have X1 := hX.below hb1
          have hs1 := B1.size
          have hs1' : w.heap.size + 1 ≤ w1.heap.size := X1.1
          have HT : Hid (vpL ps x y amp (rows n k ++ rowTo k (m + 1)) = vpL ps x y amp (rows n k ++ rowTo k m) ++ [(amp, dpV ps (k : Int) (m : Int) x y)]) := by
            rw [Hid, rowTo_succ hm1, ← List.append_assoc, vpL_snoc]
          clear c1 c2
          go_wp2_with (at_builtin; refine wpList_append1Vis rfl (.tmp 50) (.tmp 54) rfl w1 (w.heap.size + 1) A' q c' _ amp (dpV ps (k : Int) (m : Int) x y) w1.heap.size rfl rfl rfl hO1 (by omega) hs1' ?_; intro A3 c3 w3 hO3 hG3)
          have B3 := B1.grown hG3 hs1 (fun j e => by have := (hO1.lt j e).1; omega)
          have X3 := box_far' X1 hG3 (fun j e => (hO1.lt j e).1)
          go_roundw
          case rel => exact ⟨m + 1, q + 1, A3, c3, by omega, by omega, by go_num, rfl, by rw [HT.out]; exact hO3, B3, X3⟩
          case measure => simp [intOf]; omega
        · obtain rfl : m = n := by omega
          go_wp2
          go_roundw
          case rel => exact ⟨k + 1, q, A', c', by omega, by go_num, rfl, hO, hbl, hX⟩
          case measure => simp [intOf]; omega
    · obtain rfl : k = n := by omega
      go_wp2
      go_ret2
      exact ⟨_, _, _, by rw [H0.out]; rfl, by rw [HV.out]; exact hO.mono (by omega), hbl⟩

end Go.Proofs.Ytkmnjekpogbkkaa
