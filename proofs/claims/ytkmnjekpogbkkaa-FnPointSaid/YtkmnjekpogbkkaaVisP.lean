/-
  Contracts: VisPhases of the program and of the reference.
-/
import Derived.Test.YtkmnjekpogbkkaaVisW
import Derived.Test.YtkmnjekpogbkkaaPairsB
import Derived.Test.YtkmnjekpogbkkaaInts
namespace Go.Proofs.Ytkmnjekpogbkkaa
open Go.RowKit
set_option linter.unusedVariables false

/-- append(out, z) onto a row of one's own; where the literal lies is told. -/
theorem wpList_appendIH {ops : Array Oper} {rest : List Oper} {o : Oper} {a : Act} {Q : Exit → Act → World → Prop} (hgd : o.guard = none) (s x : Operand)
    (ho : o.op = .call { callee := .builtin .append, args := #[s, x], argTypes := #[45, 45] })
    (W : World) (base : Nat) (A : Option Addr) (n c : Nat) (zs : List Int) (z : Int) (H : Nat) (hH : W.heap.size = H) (hs : a.eval s = .slice A n c) (hx : a.eval x = .slice (some ⟨H, 0, none⟩) 1 1)
    (hO : OwnI W base A n c zs) (hn : n ≤ 1048577) (hb : base ≤ W.heap.size)
    (h : ∀ A' c' w', OwnI w' base A' (n + 1) c' (zs ++ [z]) → W.grownBy w' (Value.slice A n c).ownBlock → wpList Try.prog ops Q rest (a.put o.dst (.slice A' (n + 1) c')) w') :
    wpList Try.prog ops Q (o :: rest) a (W.alloc (.cells #[.int .i64 z] 3)) := by
  subst hH
  exact wpList_appendI hgd s x ho W base A n c zs z hs hx hO hn hb h

/-- The phases. -/
def phs (ps : List (Int × Int)) : List Int := ps.map fun p => p.2
def phV (N : Int) (ps : List (Int × Int)) : List Int := if vvB N ps then phs ps else []
theorem ph_no {N : Int} {ps : List (Int × Int)} (h : vvB N ps = false) : phV N ps = [] := by simp [phV, h]
theorem ph_yes {N : Int} {ps : List (Int × Int)} (h : vvB N ps = true) : phV N ps = phs ps := by simp [phV, h]
theorem phs_len (ps : List (Int × Int)) : (phs ps).length = ps.length := by simp [phs]
theorem phs_snoc {ps : List (Int × Int)} {k : Nat} (h : k < ps.length) : phs (ps.take (k + 1)) = phs (ps.take k) ++ [py ps k] := by
  rw [pair_snoc h, phs, List.map_append]; rfl
theorem phV_len (N : Int) (ps : List (Int × Int)) (h : ps.length ≤ 1048576) : (phV N ps).length ≤ 1048576 := by
  cases e : vvB N ps
  · rw [ph_no e]; simp
  · rw [ph_yes e, phs_len]; exact h
theorem vv_true {n : Int} {ps : List (Int × Int)} (h : vvB n ps = true) : betB n 2 7 = true ∧ (ps.length : Int) = bm n ∧ vAll ps 1000000 = true := by
  simp only [vvB, Bool.and_eq_true, decide_eq_true_eq] at h
  exact ⟨h.1, h.2⟩

set_option maxHeartbeats 2000000 in
theorem iVisPhases_any (N : Int) (A : Option Addr) (n c : Nat) (ps : List (Int × Int)) (w : World) (hz : Prs w A n ps) (hn : n ≤ 1048577) :
    Calls Try.prog 20 #[.int .i64 N, .slice A n c] w (RetRow w (phV N ps)) := by
  have HL := Lib.hid hz.len
  cases hv : vvB N ps
  · have HV := Lib.hid hv
    clear hv
    go_enter Try.func20, Try.ntmps20
    go_wp2_with fail
    refine (iVisV_any _ _ _ _ ps _ hz hn).mono ?_
    rintro e w1 ⟨he, hb1⟩
    rw [HV.out] at he
    subst he
    go_wp2
    go_ret
    exact ⟨_, _, _, rfl, by rw [ph_no HV.out]; exact OwnI.nil _ _, hb1⟩
  · have HV := Lib.hid hv
    have hn21 : n ≤ 21 := by
      obtain ⟨h1, h2, _⟩ := vv_true hv
      rw [HL.out] at h2
      rcases bm_cases h1 with ⟨_, h⟩ | ⟨_, h⟩ | ⟨_, h⟩ | ⟨_, h⟩ | ⟨_, h⟩ | ⟨_, h⟩ <;> omega
    clear hv
    go_enter Try.func20, Try.ntmps20
    go_wp2_with fail
    refine (iVisV_any _ _ _ _ ps _ hz hn).mono ?_
    rintro e w1 ⟨he, hb1⟩
    rw [HV.out] at he
    subst he
    go_wp2
    have hO0 := OwnI.nil w1 w.heap.size
    go_loopw [5, 14] (fun v i wr => ∃ (k : Nat) (A' : Option Addr) (c' : Nat), k ≤ n ∧ i = .int .i64 k ∧ v = .slice A' k c' ∧ OwnI wr w.heap.size A' k c' (phs (ps.take k)) ∧ Below w.heap.size w wr) (fun _ i _ => n - (intOf i).toNat)
    case atStart => exact ⟨0, _, _, Nat.zero_le _, rfl, rfl, hO0, hb1⟩
    case round =>
      obtain ⟨k, A', c', hk, rfl, rfl, hO, hbl⟩ := hrel
      clear hO0
      by_cases hlt : k < n
      · obtain ⟨b0, off, rfl, hb, hc⟩ := (hz.below hbl).at_ (by omega)
        obtain ⟨hc1, hc2⟩ := hc k hlt
        clear hc
        have HT : Hid (phs (ps.take (k + 1)) = phs (ps.take k) ++ [py ps k]) := phs_snoc (by rw [HL.out]; exact hlt)
        have hbx := hbl.alloc hbl.size (.cells #[.int .i64 (px ps k), .int .i64 (py ps k)] 35)
        have hOx := hO.below (below_alloc wr (.cells #[.int .i64 (px ps k), .int .i64 (py ps k)] 35))
        have hsx := hbx.size
        obtain ⟨q0, q1, q2⟩ := Box.new wr 35 (px ps k) (py ps k)
        go_wp2_with (at_builtin; refine wpList_appendIH rfl (.tmp 18) (.tmp 21) rfl (wr.alloc (.cells #[.int .i64 (px ps k), .int .i64 (py ps k)] 35)) w.heap.size A' k c' _ (py ps k) (wr.heap.size + 1) (by simp) rfl rfl hOx (by omega) hsx ?_; intro A3 c3 w3 hO3 hG3)
        have hbl3 := hbx.grown hG3 hsx (fun j e => (hOx.lt j e).1)
        go_roundw
        case rel => exact ⟨k + 1, A3, c3, by omega, by go_num, rfl, by rw [HT.out]; exact hO3, hbl3⟩
        case measure => simp [intOf]; omega
      · obtain rfl : k = n := by omega
        go_wp2
        go_ret
        exact ⟨_, _, _, rfl, by rw [ph_yes HV.out]; rw [take_full HL.out] at hO; exact hO, hbl⟩

/-- No round yet, or the list is valid. -/
def PhOk (N : Int) (ps : List (Int × Int)) (k : Nat) : Prop := k = 0 ∨ vvB N ps = true
theorem PhOk.zero {N : Int} {ps : List (Int × Int)} : PhOk N ps 0 := .inl rfl
theorem PhOk.mk {N : Int} {ps : List (Int × Int)} {k : Nat} (h : vvB N ps = true) : PhOk N ps k := .inr h

end Go.Proofs.Ytkmnjekpogbkkaa
