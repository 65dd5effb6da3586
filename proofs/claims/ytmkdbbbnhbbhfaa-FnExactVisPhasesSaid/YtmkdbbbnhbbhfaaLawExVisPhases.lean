/-
  The walk of laws.FnExactVisPhases.
-/
import Derived.Test.YtmkdbbbnhbbhfaaVisP
import Derived.Test.YtmkdbbbnhbbhfaaToVis
import Derived.Test.YtmkdbbbnhbbhfaaVisM
import Derived.Test.YtmkdbbbnhbbhfaaToInts
import Derived.Test.YtmkdbbbnhbbhfaaMark
namespace Go.Proofs.Ytmkdbbbnhbbhfaa
open Go.RowKit
set_option linter.unusedVariables false

set_option maxHeartbeats 8000000 in
theorem walkFnExactVisPhases (w : World) (N : Int) (_ : (Lit.int .i64 N).wf = true) (A : Option Addr) (n c : Nat) (ps : List (Int × Int)) (hz : Prs w A n ps) (hl : n ≤ maxLen ∧ n ≤ c) (_ : ∀ j, (Lit.int .i64 (px ps j)).wf = true ∧ (Lit.int .i64 (py ps j)).wf = true) :
    Calls Try.prog 8 #[.int .i64 N, .slice A n c] w fun e w' => e = .returned (.bool true) ∧ Below w.heap.size w w' := by
  obtain ⟨hl, hcap⟩ := hl
  unfold maxLen at hl
  by_cases hb : n ≤ 1048576
  · have hlen := hz.len
    have HL := Lib.hid hlen
    have HV : Hid ((phV N ps).length ≤ 1048576) := phV_len N ps (by omega)
    clear hlen
    go_enter Try.func8, Try.ntmps8
    go_wp2_with fail
    refine (szVisS_any _ _ _ _ hb).mono ?_
    rintro e w' ⟨rfl, rfl⟩
    go_wp2_with fail
    refine (toVisS_any _ _ _ ps _ hz hb).mono ?_
    rintro e w1 ⟨A1, n1, c1, rfl, ho1, hb1⟩
    have hn1 : n1 ≤ 1048577 := by have := ho1.len; have := HL.out; omega
    have hc1 := ho1.cap
    go_wp2_with fail
    refine ((fun h1 h2 (_ : _) => sVisPhases_any N _ _ _ ps _ h1 h2) ho1.prs hn1 hc1).mono ?_
    rintro e w2 ⟨A2, n2, c2, rfl, ho2, hb2⟩
    have hB2 := below_step hb1 hb2
    go_wp2_with fail
    refine (toVisS_any _ _ _ ps _ (hz.below hB2) hb).mono ?_
    rintro e w3 ⟨A3, n3, c3, rfl, ho3, hb3⟩
    have hn3 : n3 ≤ 1048577 := by have := ho3.len; have := HL.out; omega
    have hc3 := ho3.cap
    have hB3 := below_step hB2 hb3
    go_wp2_with fail
    refine ((fun h1 h2 (_ : _) => iVisPhases_any N _ _ _ ps _ h1 h2) ho3.prs hn3 hc3).mono ?_
    rintro e w4 ⟨A4, n4, c4, rfl, ho4, hb4⟩
    have hn4 : n4 ≤ 1048577 := by have := ho4.len; have := HV.out; omega
    have hB4 := below_step hB3 hb4
    have ho24 := (ho2.below hb3).below hb4
    have hEq := eqL_self (phV N ps)
    go_wp2_with fail
    refine (eqIntS_any _ _ _ _ _ _ _ _ _ ho4.ints ho24.ints hn4).mono ?_
    rintro e w5 ⟨rfl, hb5⟩
    have hB5 := below_step hB4 hb5
    go_wp2_with fail
    refine (toVisS_any _ _ _ ps _ (hz.below hB5) hb).mono ?_
    rintro e w6 ⟨A6, n6, c6, rfl, ho6, hb6⟩
    have hB6 := below_step hB5 hb6
    have ho36 := ((ho3.below hb4).below hb5).below hb6
    have hEz := eqP_self ps
    go_wp2_with fail
    refine (eqVisS_any _ _ _ _ _ _ _ _ _ ho36.prs ho6.prs hn3).mono ?_
    rintro e w7 ⟨rfl, hb7⟩
    have hB7 := below_step hB6 hb7
    have ho37 := ho36.below hb7
    go_wp2_with fail
    refine (markVisS_any _ _ _ _ _ _ _ ho37 hn3 (by omega) (by omega)).mono ?_
    rintro e w8 ⟨rfl, ho38, hg8⟩
    have HLO := Lib.hid ho3.lt
    have HL2 := Lib.hid ho2.lt
    have hB8 := hB7.grown hg8 hB7.size (fun k e => by have := (HLO.out k e).1; have := hB2.size; omega)
    have ho28 := (((ho24.below hb5).below hb6).below hb7).far hg8 (fun k e e' => by have := (HL2.out k e).2; have := (HLO.out k e').1; omega)
    have ho48 := (((ho4.below hb5).below hb6).below hb7).off hg8 (fun k e => (HLO.out k e).2)
    go_wp2_with fail
    refine (eqIntS_any _ _ _ _ _ _ _ _ _ ho48.ints ho28.ints hn4).mono ?_
    rintro e w9 ⟨rfl, hb9⟩
    have hB9 := below_step hB8 hb9
    have ho49 := ho48.below hb9
    all_goals
      go_wp2_with fail
      refine (markIntS_any _ _ _ _ _ _ _ ho49 hn4 (by omega) (by omega)).mono ?_
      rintro e wa ⟨rfl, ho4a, hga⟩
      have HL4 := Lib.hid ho4.lt
      have hBa := hB9.grown hga hB9.size (fun k e => by have := (HL4.out k e).1; have := hB3.size; omega)
      have ho2a := (ho28.below hb9).far hga (fun k e e' => by have := (HL2.out k e).2; have := (HL4.out k e').1; have := hb3.size; omega)
      go_wp2_with fail
      refine (heldIntS_any _ _ _ _ _ ho4a.ints hn4 (by omega) (by omega)).mono ?_
      rintro e w' ⟨rfl, rfl⟩
      go_wp2_with fail
      refine (toVisS_any _ _ _ ps _ (hz.below hBa) hb).mono ?_
      rintro e wb ⟨Ab, nb, cb, rfl, hob, hbb⟩
      have hnb : nb ≤ 1048577 := by have := hob.len; have := HL.out; omega
      have hcb := hob.cap
      have hBb := below_step hBa hbb
      go_wp2_with fail
      refine ((fun h1 h2 (_ : _) => iVisPhases_any N _ _ _ ps _ h1 h2) hob.prs hnb hcb).mono ?_
      rintro e wc ⟨Ac, nc, cc, rfl, hoc, hbc⟩
      have hnc : nc ≤ 1048577 := by have := hoc.len; have := HV.out; omega
      have hBc := below_step hBb hbc
      go_wp2_with fail
      refine (eqIntS_any _ _ _ _ _ _ _ _ _ hoc.ints ((ho2a.below hbb).below hbc).ints hnc).mono ?_
      rintro e wd ⟨rfl, hbd⟩
      have hBd := below_step hBc hbd
      go_wp2_with fail
      refine (heldIntS_any _ _ _ _ _ (((ho4a.below hbb).below hbc).below hbd).ints hn4 (by omega) (by omega)).mono ?_
      rintro e w' ⟨rfl, rfl⟩
      go_wp2
      go_ret
      exact ⟨rfl, hBd⟩
  · have hb' : 1048576 < n := by omega
    clear hb
    go_enter Try.func8, Try.ntmps8
    go_wp2_with fail
    refine (szVisS_big _ _ _ _ hb' (by omega)).mono ?_
    rintro e w' ⟨rfl, rfl⟩
    go_wp2
    go_ret
    exact ⟨rfl, Below.refl _ _⟩

end Go.Proofs.Ytmkdbbbnhbbhfaa
