/-
  Contracts: slices.Clone at antennas; ArrayTurn of the program and of the reference.
-/
import Derived.Test.YtkmnjekpogbkkaaArrV
import Derived.Test.YtkmnjekpogbkkaaAntA
import Derived.Test.YtkmnjekpogbkkaaNewP
import Derived.StillTailTactics
import Derived.IntWalk
namespace Go.Proofs.Ytkmnjekpogbkkaa
open Go.RowKit
set_option linter.unusedVariables false

/-- A quarter turn. -/
def tuF (p : Int × Int) : Int × Int := (-p.2, p.1)
def tuN (ps : List (Int × Int)) : Nat → List (Int × Int)
  | 0 => ps
  | k + 1 => (tuN ps k).map tuF
theorem tuN_len (ps : List (Int × Int)) : ∀ k, (tuN ps k).length = ps.length
  | 0 => rfl
  | k + 1 => by simp [tuN, tuN_len ps k]
def atOk (ps : List (Int × Int)) (k : Int) : Bool := avB ps && betB k 0 3
def atV (ps : List (Int × Int)) (k : Int) : List (Int × Int) := if atOk ps k then tuN ps k.toNat else []
theorem at_no {ps : List (Int × Int)} {k : Int} (h : atOk ps k = false) : atV ps k = [] := by simp [atV, h]
theorem at_yes {ps : List (Int × Int)} {k : Int} (h : atOk ps k = true) : atV ps k = tuN ps k.toNat := by simp [atV, h]
theorem at_true {ps : List (Int × Int)} {k : Int} : atOk ps k = true ↔ avB ps = true ∧ 0 ≤ k ∧ k ≤ 3 := by simp only [atOk, Bool.and_eq_true, betB_true]
theorem atV_len (ps : List (Int × Int)) (k : Int) (h : ps.length ≤ 1048576) : (atV ps k).length ≤ 1048576 := by
  cases e : atOk ps k
  · rw [at_no e]; simp
  · rw [at_yes e, tuN_len]; exact h
theorem tuN_in {ps : List (Int × Int)} (h : ∀ j, j < ps.length → (-1000 ≤ px ps j ∧ px ps j ≤ 1000) ∧ (-1000 ≤ py ps j ∧ py ps j ≤ 1000)) : ∀ k j, j < ps.length → (-1000 ≤ px (tuN ps k) j ∧ px (tuN ps k) j ≤ 1000) ∧ (-1000 ≤ py (tuN ps k) j ∧ py (tuN ps k) j ≤ 1000)
  | 0, j, hj => h j hj
  | k + 1, j, hj => by
    have ih := tuN_in h k j hj
    have hj' : j < (tuN ps k).length := by rw [tuN_len]; exact hj
    show (-1000 ≤ px ((tuN ps k).map tuF) j ∧ px ((tuN ps k).map tuF) j ≤ 1000) ∧ (-1000 ≤ py ((tuN ps k).map tuF) j ∧ py ((tuN ps k).map tuF) j ≤ 1000)
    rw [px_map tuF hj', py_map tuF hj']
    simp only [tuF]
    omega
/-- The first k pairs turned. -/
def mixT (ps : List (Int × Int)) (k : Nat) : List (Int × Int) := (ps.take k).map tuF ++ ps.drop k
theorem mixT_zero (ps : List (Int × Int)) : mixT ps 0 = ps := by simp [mixT]
theorem mixT_all {ps : List (Int × Int)} {n : Nat} (h : ps.length = n) : mixT ps n = ps.map tuF := by simp [mixT, ← h]
theorem mixT_len (ps : List (Int × Int)) (k : Nat) : (mixT ps k).length = ps.length := by simp [mixT]; omega
theorem mixT_set {ps : List (Int × Int)} {n k : Nat} (h : ps.length = n) (hk : k < n) : (mixT ps k).set k (-(py ps k), px ps k) = mixT ps (k + 1) := by
  have hl : ((ps.take k).map tuF).length = k := by rw [List.length_map, List.length_take]; omega
  rw [mixT, mixT, List.set_append_right _ _ (by omega), hl, Nat.sub_self, List.drop_eq_getElem_cons (by omega), List.set_cons_zero, map_snocP tuF (by omega), List.append_assoc]
  rfl
theorem mixT_at {ps : List (Int × Int)} {n k : Nat} (h : ps.length = n) (hk : k < n) : px (mixT ps k) k = px ps k ∧ py (mixT ps k) k = py ps k := by
  have hl : ((ps.take k).map tuF).length = k := by rw [List.length_map, List.length_take]; omega
  have e : (mixT ps k).getD k (0, 0) = ps.getD k (0, 0) := by
    rw [mixT, List.getD_eq_getElem?_getD, List.getElem?_append_right (by omega), hl, Nat.sub_self, List.getElem?_drop, Nat.add_zero, ← List.getD_eq_getElem?_getD]
  exact ⟨by rw [px, e]; rfl, by rw [py, e]; rfl⟩

set_option maxHeartbeats 1000000 in
theorem sClone_any (A : Option Addr) (n c : Nat) (ps : List (Int × Int)) (w : World) (hz : Prs w A n ps) (hn : n ≤ 1048577) (hpos : 0 < n) :
    Calls Try.prog 43 #[.slice A n c] w (RetP 25 w ps) := by
  obtain ⟨b, off, rfl, hb, _⟩ := hz.at_ hpos
  have hba := below_alloc w (.cells #[] 25)
  have hO0 := OwnP.lit0 25 w (Nat.le_refl _)
  have hz0 := hz.below hba
  have q22 : ∀ (w : World) (a : Option Addr) (n c n' c' : Nat), (binOp .eql 23 (.slice a n c) (.slice none n' c')).run Try.prog w = .ok (.bool a.isNone) w := fun w a n c n' c' => Lib.run_eql_slice_nil w _ _ a n c n' c' Try.underlying23
  have hs0 : w.heap.size ≤ (w.alloc (.cells #[] 25)).heap.size := hba.size
  go_enter Try.func43, Try.ntmps43
  go_wp2_with (at_builtin; refine wpList_appendAnt rfl (.tmp 5) (.tmp 6) rfl (w.alloc (.cells #[] 25)) w.heap.size _ 0 0 [] b off n c ps rfl rfl hO0 hz0 (by omega) hs0 ?_; intro A3 c3 w3 hO3 hG3)
  go_ret
  exact ⟨_, _, _, rfl, by simpa using hO3, hba.grown hG3 hs0 (fun k e => by cases e; exact Nat.le_refl _)⟩

set_option maxHeartbeats 4000000 in
theorem iTurn_any (A : Option Addr) (n c : Nat) (ps : List (Int × Int)) (k : Int) (w : World) (hz : Prs w A n ps) (hn : n ≤ 1048577) (hc : n ≤ c) :
    Calls Try.prog 14 #[.slice A n c, .int .i64 k] w (RetPB 25 w (atV ps k) (atOk ps k)) := by
  have HL := Lib.hid hz.len
  cases hv : avB ps
  · have HA := Lib.hid hv
    have H0 : Hid (atOk ps k = false) := by unfold atOk; rw [hv]; rfl
    clear hv
    go_enter Try.func14, Try.ntmps14
    go_wp2_with fail
    refine (iArrayV_any _ _ _ ps _ hz hn hc).mono ?_
    rintro e w1 ⟨he, hb1⟩
    rw [HA.out] at he
    subst he
    go_wp2
    go_ret2
    exact ⟨_, _, _, by rw [H0.out]; rfl, by rw [at_no H0.out]; exact OwnP.nil _ _ _, hb1⟩

  have HA := Lib.hid hv
  cases hk : betB k 0 3
  · have HK := Lib.hid hk
    by_cases hk0 : k < 0
    · have hkd : decide (k < 0) = true := by simpa using hk0
      clear hkd
      have H0 : Hid (atOk ps k = false) := by unfold atOk; rw [hv, hk]; rfl
      clear hv hk
      go_enter Try.func14, Try.ntmps14
      go_wp2_with fail
      refine (iArrayV_any _ _ _ ps _ hz hn hc).mono ?_
      rintro e w1 ⟨he, hb1⟩
      rw [HA.out] at he
      subst he
      go_wp2
      go_ret2
      exact ⟨_, _, _, by rw [H0.out]; rfl, by rw [at_no H0.out]; exact OwnP.nil _ _ _, hb1⟩

    · have hk3 : 3 < k := by have := betB_false.1 hk; omega
      have hk0' : 0 ≤ k := by omega
      clear hk0
      have H0 : Hid (atOk ps k = false) := by unfold atOk; rw [hv, hk]; rfl
      clear hv hk
      go_enter Try.func14, Try.ntmps14
      go_wp2_with fail
      refine (iArrayV_any _ _ _ ps _ hz hn hc).mono ?_
      rintro e w1 ⟨he, hb1⟩
      rw [HA.out] at he
      subst he
      go_wp2
      go_ret2
      exact ⟨_, _, _, by rw [H0.out]; rfl, by rw [at_no H0.out]; exact OwnP.nil _ _ _, hb1⟩

  · have HK := Lib.hid hk
    obtain ⟨hk0, hk3⟩ := betB_true.1 hk
    have H0 : Hid (atOk ps k = true) := by unfold atOk; rw [hv, hk]; rfl
    have HV : Hid (atV ps k = tuN ps k.toNat) := at_yes H0.out
    have hlen := av_len hv
    rw [HL.out] at hlen
    obtain ⟨hn1, hn2⟩ := hlen
    have HR : Hid (∀ m j, j < n → (-1000 ≤ px (tuN ps m) j ∧ px (tuN ps m) j ≤ 1000) ∧ (-1000 ≤ py (tuN ps m) j ∧ py (tuN ps m) j ≤ 1000)) := fun m j hj => tuN_in (fun i hi => av_in hv hi) m j (by rw [HL.out]; exact hj)
    obtain ⟨K, rfl⟩ := Int.eq_ofNat_of_zero_le hk0
    clear hv hk
    go_enter Try.func14, Try.ntmps14
    go_wp2_with fail
    refine (iArrayV_any _ _ _ ps _ hz hn hc).mono ?_
    rintro e w1 ⟨he, hb1⟩
    rw [HA.out] at he
    subst he
    go_wp2_with fail
    refine (sClone_any _ _ _ ps _ (hz.below hb1) hn (by omega)).mono ?_
    rintro e w2 ⟨A2, n2, c2, rfl, hO2, hb2⟩
    obtain rfl : n = n2 := by have := hO2.len; have := HL.out; omega
    have hB2 := below_step hb1 hb2
    have hO2' := hO2.mono (base' := w.heap.size) hb1.size
    obtain ⟨g, rfl, hg1, hg2⟩ := hO2'.at0 (by omega)
    go_wp2
    go_loopw [23] (fun i wr => ∃ m : Nat, m ≤ K ∧ i = .int .i64 m ∧ OwnP 25 wr w.heap.size (some ⟨g, 0, none⟩) n c2 (tuN ps m) ∧ Below w.heap.size w wr) (fun i _ => K - (intOf i).toNat)
    case atStart => exact ⟨0, Nat.zero_le _, rfl, hO2', hB2⟩
    case round =>
      obtain ⟨m, hm, rfl, hO, hbl⟩ := hrel
      clear hO2 hO2' hB2
      by_cases hmK : m < K
      · have HLm : Hid ((tuN ps m).length = n) := by rw [Hid, tuN_len]; exact HL.out
        have hOm : OwnP 25 wr w.heap.size (some ⟨g, 0, none⟩) n c2 (mixT (tuN ps m) 0) := by rw [mixT_zero]; exact hO
        go_wp2
        go_loopw [27] (fun i wr => ∃ j : Nat, j ≤ n ∧ i = .int .i64 j ∧ OwnP 25 wr w.heap.size (some ⟨g, 0, none⟩) n c2 (mixT (tuN ps m) j) ∧ Below w.heap.size w wr) (fun i _ => n - (intOf i).toNat)
        case atStart => exact ⟨0, Nat.zero_le _, rfl, hOm, hbl⟩
        case round =>
          obtain ⟨j, hj, rfl, hOj, hbj⟩ := hrel
          clear hOm
          by_cases hlt : j < n
          · obtain ⟨b', off', e', hcc⟩ := hOj.prs.2 (by omega)
            injection e' with e'
            injection e' with e1 e2
            subst e1 e2
            obtain ⟨d1, d2⟩ := hcc j hlt
            have hat := mixT_at HLm.out hlt
            rw [hat.1, Nat.zero_add] at d1
            rw [hat.2, Nat.zero_add] at d2
            have hr := HR.out m j hlt
            have HU := Lib.hid (mixT_set HLm.out hlt)
            have hf1 : wr.frozen? ⟨g, j * 2, none⟩ = false := World.ownsRow.frozenAt hOj _
            have hf2 : wr.frozen? ⟨g, j * 2 + 1, none⟩ = false := World.ownsRow.frozenAt hOj _
            clear hcc hat
            generalize hPX : px (tuN ps m) j = X at d1 hr HU
            generalize hPY : py (tuN ps m) j = Y at d2 hr HU
            clear hPX hPY
            have hba := below_alloc wr (.cells #[.int .i64 X, .int .i64 Y] 25)
            obtain ⟨q0, q1, q2⟩ := Box.new wr 25 X Y
            have hOx := hOj.below hba
            have hBx := hbj.alloc hbj.size (.cells #[.int .i64 X, .int .i64 Y] 25)
            obtain ⟨o1, o2, hs1, hs2⟩ := hOx.cells2 hlt
            have hx1 : (wr.alloc (.cells #[.int .i64 X, .int .i64 Y] 25)).frozen? ⟨g, j * 2, none⟩ = false := World.ownsRow.frozenAt hOx _
            have hx2 : (wr.alloc (.cells #[.int .i64 X, .int .i64 Y] 25)).frozen? ⟨g, j * 2 + 1, none⟩ = false := World.ownsRow.frozenAt hOx _
            have HS := Lib.hid (hOx.stored2 (x := -Y) (y := X) hlt)
            have HBl := Lib.hid ((hBx.setCell (p := ⟨g, j * 2, none⟩) hg2 (.int .i64 (-Y))).setCell (p := ⟨g, j * 2 + 1, none⟩) hg2 (.int .i64 X))
            clear hf1 hf2
            go_wp2
            go_roundw
            case rel => exact ⟨j + 1, by omega, by go_num, by rw [← HU.out]; exact HS.out, HBl.out⟩
            case measure => simp [intOf]; omega
          · obtain rfl : j = n := by omega
            rw [mixT_all HLm.out] at hOj
            go_wp2
            go_roundw
            case rel => exact ⟨m + 1, by omega, by go_num, hOj, hbj⟩
            case measure => simp [intOf]; omega
      · obtain rfl : m = K := by omega
        go_wp2
        go_ret2
        exact ⟨_, _, _, by rw [H0.out]; rfl, by rw [HV.out]; exact hO, hbl⟩

end Go.Proofs.Ytkmnjekpogbkkaa
