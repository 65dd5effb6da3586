/-
  Contracts: DelayOf and DelayBase of the program and of the reference.
-/
import Derived.Test.YtkmnjekpogbkkaaArrV
import Derived.IntWalk
namespace Go.Proofs.Ytkmnjekpogbkkaa
open Go.RowKit
set_option linter.unusedVariables false

set_option maxHeartbeats 2000000 in
theorem iDelayOf_any (A : Option Addr) (n c : Nat) (ps : List (Int × Int)) (i x y : Int) (w : World) (hz : Prs w A n ps) (hn : n ≤ 1048577) (hc : n ≤ c) :
    Calls Try.prog 51 #[.slice A n c, .int .i64 i, .agg #[.int .i64 x, .int .i64 y]] w (RetIB w (doV ps i x y) (doOk ps i x y)) := by
  have HL := Lib.hid hz.len
  have hb0 := below_alloc w (.cells #[.int .i64 x, .int .i64 y] 25)
  have hx0 := Box.new w 25 x y
  have hz0 := hz.below hb0
  cases hv : avB ps
  · have H0 : Hid (doOk ps i x y = false) := by unfold doOk; rw [hv]; rfl
    have HV := Lib.hid (do_no H0.out)
    have HA := Lib.hid hv
    clear hv
    go_enter Try.func51, Try.ntmps51
    go_wp2_with fail
    refine (iArrayV_any _ _ _ ps _ hz0 hn hc).mono ?_
    rintro e w1 ⟨he, hb1⟩
    rw [HA.out] at he
    subst he
    go_wp2
    go_ret2
    exact ⟨ret_ib HV.out.symm H0.out.symm, below_step hb0 hb1⟩
  · have HA := Lib.hid hv
    have hlen := av_len hv
    rw [HL.out] at hlen
    obtain ⟨hn1, hn2⟩ := hlen
    cases hi : isA ps.length i
    · have H0 : Hid (doOk ps i x y = false) := by unfold doOk; rw [hv, hi]; rfl
      have HV := Lib.hid (do_no H0.out)
      have HI : Hid (isA (n : Int) i = false) := by rw [HL.out] at hi; exact hi
      clear hv hi
      go_enter Try.func51, Try.ntmps51
      go_wp2_with fail
      refine (iArrayV_any _ _ _ ps _ hz0 hn hc).mono ?_
      rintro e w1 ⟨he, hb1⟩
      rw [HA.out] at he
      subst he
      go_wp2_with fail
      refine (isAnt_any _ _ _ (by omega) (by omega)).mono ?_
      rintro e w' ⟨he, rfl⟩
      rw [HI.out] at he
      subst he
      go_wp2
      go_ret2
      exact ⟨ret_ib HV.out.symm H0.out.symm, below_step hb0 hb1⟩
    · have HI : Hid (isA (n : Int) i = true) := by rw [HL.out] at hi; exact hi
      cases hp : plc x y
      · have H0 : Hid (doOk ps i x y = false) := by unfold doOk; rw [hv, hi, hp]; rfl
        have HV := Lib.hid (do_no H0.out)
        have HP := Lib.hid hp
        clear hv hi hp
        go_enter Try.func51, Try.ntmps51
        go_wp2_with fail
        refine (iArrayV_any _ _ _ ps _ hz0 hn hc).mono ?_
        rintro e w1 ⟨he, hb1⟩
        rw [HA.out] at he
        subst he
        have hx1 := hx0.below hb1
        obtain ⟨q0, q1, q2⟩ := hx1
        go_wp2_with fail
        refine (isAnt_any _ _ _ (by omega) (by omega)).mono ?_
        rintro e w' ⟨he, rfl⟩
        rw [HI.out] at he
        subst he
        go_wp2_with fail
        refine (isPlace_any _ _ _).mono ?_
        rintro e w2 ⟨he, hb2⟩
        rw [HP.out] at he
        subst he
        go_wp2
        go_ret2
        exact ⟨ret_ib HV.out.symm H0.out.symm, below_step (below_step hb0 hb1) hb2⟩
      · have H0 : Hid (doOk ps i x y = true) := by unfold doOk; rw [hv, hi, hp]; rfl
        have HV := Lib.hid (do_yes H0.out)
        have HP := Lib.hid hp
        obtain ⟨k, rfl, hk⟩ := isA_nat hi
        rw [HL.out] at hk
        have hkn : k < n := by omega
        have ha := av_in hv (j := k) (by rw [HL.out]; exact hkn)
        have hb := plc_true.1 hp
        have m1 := mul_in ha.1 hb.1
        have m2 := mul_in ha.2 hb.2
        clear hv hi hp ha hb
        go_enter Try.func51, Try.ntmps51
        go_wp2_with fail
        refine (iArrayV_any _ _ _ ps _ hz0 hn hc).mono ?_
        rintro e w1 ⟨he, hb1⟩
        rw [HA.out] at he
        subst he
        have hx1 := hx0.below hb1
        have hx1' := hx1
        obtain ⟨q0, q1, q2⟩ := hx1'
        go_wp2_with fail
        refine (isAnt_any _ _ _ (by omega) (by omega)).mono ?_
        rintro e w' ⟨he, rfl⟩
        rw [HI.out] at he
        subst he
        go_wp2_with fail
        refine (isPlace_any _ _ _).mono ?_
        rintro e w2 ⟨he, hb2⟩
        rw [HP.out] at he
        subst he
        clear q0 q1 q2
        obtain ⟨q0, q1, q2⟩ := hx1.below hb2
        obtain ⟨b, off, rfl, hbb, hcc⟩ := ((hz0.below hb1).below hb2).at_ (by omega)
        obtain ⟨hc1, hc2⟩ := hcc k hkn
        clear hcc
        have HE : Hid (doV ps (k : Int) x y = px ps k * x + py ps k * y) := HV.out
        generalize px ps k = a1 at hc1 m1 HE
        generalize py ps k = a2 at hc2 m2 HE
        have v1 : IntKind.i64.wrap (a1 * x) = a1 * x := IntWalk.i64_in _ (by omega)
        have v2 : IntKind.i64.wrap (a2 * y) = a2 * y := IntWalk.i64_in _ (by omega)
        have v3 : IntKind.i64.wrap (a1 * x + a2 * y) = a1 * x + a2 * y := IntWalk.i64_in _ (by omega)
        go_wp2
        go_quiet (fail)
        clear v1 v2 v3
        go_wp2
        go_ret2
        exact ⟨ret_ib HE.out.symm H0.out.symm, below_drewN (below_step (below_step hb0 hb1) hb2) _⟩

set_option maxHeartbeats 2000000 in
theorem sDelayOf_any (A : Option Addr) (n c : Nat) (ps : List (Int × Int)) (i x y : Int) (w : World) (hz : Prs w A n ps) (hn : n ≤ 1048577) (hc : n ≤ c) :
    Calls Try.prog 62 #[.slice A n c, .int .i64 i, .agg #[.int .i64 x, .int .i64 y]] w (RetIB w (doV ps i x y) (doOk ps i x y)) := by
  have HL := Lib.hid hz.len
  have hb0 := below_alloc w (.cells #[.int .i64 x, .int .i64 y] 25)
  have hx0 := Box.new w 25 x y
  have hz0 := hz.below hb0
  cases hv : avB ps
  · have H0 : Hid (doOk ps i x y = false) := by unfold doOk; rw [hv]; rfl
    have HV := Lib.hid (do_no H0.out)
    have HA := Lib.hid hv
    clear hv
    go_enter Try.func62, Try.ntmps62
    go_wp2_with fail
    refine (sArrayV_any _ _ _ ps _ hz0 hn hc).mono ?_
    rintro e w1 ⟨he, hb1⟩
    rw [HA.out] at he
    subst he
    go_wp2
    go_ret2
    exact ⟨ret_ib HV.out.symm H0.out.symm, below_step hb0 hb1⟩
  · have HA := Lib.hid hv
    have hlen := av_len hv
    rw [HL.out] at hlen
    obtain ⟨hn1, hn2⟩ := hlen
    cases hi : isA ps.length i
    · have H0 : Hid (doOk ps i x y = false) := by unfold doOk; rw [hv, hi]; rfl
      have HV := Lib.hid (do_no H0.out)
      have HI : Hid (betB i 0 ((n : Int) - 1) = false) := by rw [HL.out] at hi; exact hi
      clear hv hi
      go_enter Try.func62, Try.ntmps62
      go_wp2_with fail
      refine (sArrayV_any _ _ _ ps _ hz0 hn hc).mono ?_
      rintro e w1 ⟨he, hb1⟩
      rw [HA.out] at he
      subst he
      go_wp2_with fail
      refine (l6In_any _ _ _ _).mono ?_
      rintro e w' ⟨he, rfl⟩
      rw [HI.out] at he
      subst he
      go_wp2
      go_ret2
      exact ⟨ret_ib HV.out.symm H0.out.symm, below_step hb0 hb1⟩
    · have HI : Hid (betB i 0 ((n : Int) - 1) = true) := by rw [HL.out] at hi; exact hi
      cases hp : plc x y
      · have H0 : Hid (doOk ps i x y = false) := by unfold doOk; rw [hv, hi, hp]; rfl
        have HV := Lib.hid (do_no H0.out)
        have HP := Lib.hid hp
        clear hv hi hp
        go_enter Try.func62, Try.ntmps62
        go_wp2_with fail
        refine (sArrayV_any _ _ _ ps _ hz0 hn hc).mono ?_
        rintro e w1 ⟨he, hb1⟩
        rw [HA.out] at he
        subst he
        have hx1 := hx0.below hb1
        obtain ⟨q0, q1, q2⟩ := hx1
        go_wp2_with fail
        refine (l6In_any _ _ _ _).mono ?_
        rintro e w' ⟨he, rfl⟩
        rw [HI.out] at he
        subst he
        go_wp2_with fail
        refine (l3Place_any _ _ _).mono ?_
        rintro e w2 ⟨he, hb2⟩
        rw [HP.out] at he
        subst he
        go_wp2
        go_ret2
        exact ⟨ret_ib HV.out.symm H0.out.symm, below_step (below_step hb0 hb1) hb2⟩
      · have H0 : Hid (doOk ps i x y = true) := by unfold doOk; rw [hv, hi, hp]; rfl
        have HV := Lib.hid (do_yes H0.out)
        have HP := Lib.hid hp
        obtain ⟨k, rfl, hk⟩ := isA_nat hi
        rw [HL.out] at hk
        have hkn : k < n := by omega
        have ha := av_in hv (j := k) (by rw [HL.out]; exact hkn)
        have hb := plc_true.1 hp
        have m1 := mul_in ha.1 hb.1
        have m2 := mul_in ha.2 hb.2
        clear hv hi hp ha hb
        go_enter Try.func62, Try.ntmps62
        go_wp2_with fail
        refine (sArrayV_any _ _ _ ps _ hz0 hn hc).mono ?_
        rintro e w1 ⟨he, hb1⟩
        rw [HA.out] at he
        subst he
        have hx1 := hx0.below hb1
        have hx1' := hx1
        obtain ⟨q0, q1, q2⟩ := hx1'
        go_wp2_with fail
        refine (l6In_any _ _ _ _).mono ?_
        rintro e w' ⟨he, rfl⟩
        rw [HI.out] at he
        subst he
        go_wp2_with fail
        refine (l3Place_any _ _ _).mono ?_
        rintro e w2 ⟨he, hb2⟩
        rw [HP.out] at he
        subst he
        clear q0 q1 q2
        obtain ⟨q0, q1, q2⟩ := hx1.below hb2
        obtain ⟨b, off, rfl, hbb, hcc⟩ := ((hz0.below hb1).below hb2).at_ (by omega)
        obtain ⟨hc1, hc2⟩ := hcc k hkn
        clear hcc
        have HE : Hid (doV ps (k : Int) x y = px ps k * x + py ps k * y) := HV.out
        generalize px ps k = a1 at hc1 m1 HE
        generalize py ps k = a2 at hc2 m2 HE
        have v1 : IntKind.i64.wrap (a1 * x) = a1 * x := IntWalk.i64_in _ (by omega)
        have v2 : IntKind.i64.wrap (a2 * y) = a2 * y := IntWalk.i64_in _ (by omega)
        have v3 : IntKind.i64.wrap (a1 * x + a2 * y) = a1 * x + a2 * y := IntWalk.i64_in _ (by omega)
        go_wp2
        go_quiet (fail)
        clear v1 v2 v3
        go_wp2
        go_ret2
        exact ⟨ret_ib HE.out.symm H0.out.symm, below_drewN (below_step (below_step hb0 hb1) hb2) _⟩

set_option maxHeartbeats 2000000 in
theorem iDelayBase_any (A : Option Addr) (n c : Nat) (ps : List (Int × Int)) (i j x y : Int) (w : World) (hz : Prs w A n ps) (hn : n ≤ 1048577) (hc : n ≤ c) :
    Calls Try.prog 23 #[.slice A n c, .int .i64 i, .int .i64 j, .agg #[.int .i64 x, .int .i64 y]] w (RetIB w (dbV ps i j x y) (dbOk ps i j x y)) := by
  have hb0 := below_alloc w (.cells #[.int .i64 x, .int .i64 y] 25)
  have hx0 := Box.new w 25 x y
  have hz0 := hz.below hb0
  have d1 := do_in ps i x y
  have d2 := do_in ps j x y
  have HE : Hid (dbOk ps i j x y = true → dbV ps i j x y = doV ps j x y - doV ps i x y) := fun h => db_yes h
  have HO : Hid (dbOk ps i j x y = (doOk ps i x y && doOk ps j x y)) := rfl
  have HN : Hid (dbOk ps i j x y = false → dbV ps i j x y = 0) := fun h => db_no h
  obtain ⟨q0, q1, q2⟩ := hx0
  go_enter Try.func23, Try.ntmps23
  go_wp2_with fail
  refine (iDelayOf_any _ _ _ ps _ _ _ _ hz0 hn hc).mono ?_
  rintro e w1 ⟨rfl, hb1⟩
  clear q0 q1 q2
  obtain ⟨q0, q1, q2⟩ := (Box.new w 25 x y).below hb1
  have hz1 := hz0.below hb1
  go_wp2_with fail
  refine (iDelayOf_any _ _ _ ps _ _ _ _ hz1 hn hc).mono ?_
  rintro e w2 ⟨rfl, hb2⟩
  have hB := below_step (below_step hb0 hb1) hb2
  generalize doV ps i x y = v1 at d1 HE ⊢
  generalize doV ps j x y = v2 at d2 HE ⊢
  cases h1 : doOk ps i x y
  · have H0 : Hid (dbOk ps i j x y = false) := by have := HO.out; rw [h1] at this; exact this
    go_wp2
    go_ret2
    exact ⟨ret_ib (HN.out H0.out).symm H0.out.symm, hB⟩
  · cases h2 : doOk ps j x y
    · have H0 : Hid (dbOk ps i j x y = false) := by have := HO.out; rw [h1, h2] at this; exact this
      go_wp2
      go_ret2
      exact ⟨ret_ib (HN.out H0.out).symm H0.out.symm, hB⟩
    · have H0 : Hid (dbOk ps i j x y = true) := by have := HO.out; rw [h1, h2] at this; exact this
      go_wp2
      go_ret2
      exact ⟨ret_ib (HE.out H0.out).symm H0.out.symm, hB⟩

set_option maxHeartbeats 2000000 in
theorem sDelayBase_any (A : Option Addr) (n c : Nat) (ps : List (Int × Int)) (i j x y : Int) (w : World) (hz : Prs w A n ps) (hn : n ≤ 1048577) (hc : n ≤ c) :
    Calls Try.prog 49 #[.slice A n c, .int .i64 i, .int .i64 j, .agg #[.int .i64 x, .int .i64 y]] w (RetIB w (dbV ps i j x y) (dbOk ps i j x y)) := by
  have hb0 := below_alloc w (.cells #[.int .i64 x, .int .i64 y] 25)
  have hx0 := Box.new w 25 x y
  have hz0 := hz.below hb0
  have d1 := do_in ps i x y
  have d2 := do_in ps j x y
  have HE : Hid (dbOk ps i j x y = true → dbV ps i j x y = doV ps j x y - doV ps i x y) := fun h => db_yes h
  have HO : Hid (dbOk ps i j x y = (doOk ps i x y && doOk ps j x y)) := rfl
  have HN : Hid (dbOk ps i j x y = false → dbV ps i j x y = 0) := fun h => db_no h
  obtain ⟨q0, q1, q2⟩ := hx0
  go_enter Try.func49, Try.ntmps49
  go_wp2_with fail
  refine (sDelayOf_any _ _ _ ps _ _ _ _ hz0 hn hc).mono ?_
  rintro e w1 ⟨rfl, hb1⟩
  clear q0 q1 q2
  obtain ⟨q0, q1, q2⟩ := (Box.new w 25 x y).below hb1
  have hz1 := hz0.below hb1
  go_wp2_with fail
  refine (sDelayOf_any _ _ _ ps _ _ _ _ hz1 hn hc).mono ?_
  rintro e w2 ⟨rfl, hb2⟩
  have hB := below_step (below_step hb0 hb1) hb2
  generalize doV ps i x y = v1 at d1 HE ⊢
  generalize doV ps j x y = v2 at d2 HE ⊢
  cases h1 : doOk ps i x y
  · have H0 : Hid (dbOk ps i j x y = false) := by have := HO.out; rw [h1] at this; exact this
    go_wp2
    go_ret2
    exact ⟨ret_ib (HN.out H0.out).symm H0.out.symm, hB⟩
  · cases h2 : doOk ps j x y
    · have H0 : Hid (dbOk ps i j x y = false) := by have := HO.out; rw [h1, h2] at this; exact this
      go_wp2
      go_ret2
      exact ⟨ret_ib (HN.out H0.out).symm H0.out.symm, hB⟩
    · have H0 : Hid (dbOk ps i j x y = true) := by have := HO.out; rw [h1, h2] at this; exact this
      go_wp2
      go_ret2
      exact ⟨ret_ib (HE.out H0.out).symm H0.out.symm, hB⟩

end Go.Proofs.Ytkmnjekpogbkkaa
