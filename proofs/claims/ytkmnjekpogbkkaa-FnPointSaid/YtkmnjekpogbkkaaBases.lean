/-
  Contracts: impl.bases yields the pairs of antennas in order, for every loop body that keeps the number that the function has captured.
-/
import Derived.RangeFuncNested
import Derived.RangeFuncBound
import Derived.RangeFuncCalls
import Derived.RangeFuncLeaves
import Derived.RangeFuncBox
import Derived.Shelf.Abstract
import Derived.Shelf.RegionOpen
import Derived.WalkKit
import Derived.OwnWalkIn
import Derived.TacticsInMore
import Derived.LoopNIn
import Derived.LoopIn
import Derived.Test.YtkmnjekpogbkkaaMany
namespace Go.Proofs.Ytkmnjekpogbkkaa
open Go.RowKit Go.Shelf
set_option linter.unusedVariables false

attribute [local go_sem] Oper.semAt_some

/-- The pairs (i, j) with j from i + 1 on, below m. -/
def rowTo (i m : Nat) : List (Nat × Nat) := (List.range (m - (i + 1))).map fun t => (i, i + 1 + t)
theorem rowTo_zero (i : Nat) : rowTo i (i + 1) = [] := by simp [rowTo]
theorem rowTo_succ {i m : Nat} (h : i + 1 ≤ m) : rowTo i (m + 1) = rowTo i m ++ [(i, m)] := by
  rw [rowTo, rowTo, show m + 1 - (i + 1) = (m - (i + 1)) + 1 by omega, List.range_succ, List.map_append]
  simp
  omega
theorem rowTo_len (i m : Nat) : (rowTo i m).length = m - (i + 1) := by simp [rowTo]
/-- All pairs of N antennas whose first is below k. -/
def rows (N : Nat) : Nat → List (Nat × Nat)
  | 0 => []
  | k + 1 => rows N k ++ rowTo k N
theorem rows_len {N : Nat} (h : N ≤ 7) : ∀ k, (rows N k).length ≤ k * 6
  | 0 => by simp [rows]
  | k + 1 => by have := rows_len h k; rw [rows, List.length_append, rowTo_len]; omega
theorem rowTo_part (i : Nat) {m N : Nat} (h : m ≤ N) : rowTo i m <+: rowTo i N := by
  rw [rowTo, rowTo]
  refine List.IsPrefix.map _ ?_
  rw [show N - (i + 1) = (m - (i + 1)) + (N - (i + 1) - (m - (i + 1))) by omega, List.range_add]
  exact List.prefix_append _ _
theorem rows_mono (N : Nat) {k : Nat} : ∀ d, rows N k <+: rows N (k + d)
  | 0 => List.prefix_refl _
  | d + 1 => (rows_mono N d).trans (by show rows N (k + d) <+: rows N (k + d) ++ rowTo (k + d) N; exact List.prefix_append _ _)
theorem rows_part {N k m : Nat} (hk : k < N) (h1 : k + 1 ≤ m) (h2 : m ≤ N) : rows N k ++ rowTo k m <+: rows N N := by
  have h3 : rows N k ++ rowTo k m <+: rows N (k + 1) := by
    show rows N k ++ rowTo k m <+: rows N k ++ rowTo k N
    exact (List.prefix_append_right_inj _).2 (rowTo_part k h2)
  have h4 := rows_mono N (k := k + 1) (N - (k + 1))
  rw [show k + 1 + (N - (k + 1)) = N by omega] at h4
  exact h3.trans h4
def enc2 (x : Nat × Nat) : Array Value := #[.int .i64 (x.1 : Int), .int .i64 (x.2 : Int)]
/-- Block B holds the number N. -/
def NumBox (W : World) (B : Nat) (N : Nat) : Prop := W.heap[B]? = some (.cells #[.int .i64 (N : Int)] 3 (0, 0))
theorem NumBox.cell {W : World} {B N : Nat} (h : NumBox W B N) : W.cell? ⟨B, 0, none⟩ = some (.int .i64 (N : Int)) := by rw [cell_of_row _ _ 0 _ _ _ h]; rfl

set_option maxRecDepth 100000 in
set_option maxHeartbeats 2000000 in
theorem bases1_in (d : Nat) (hd : 1 ≤ d) (l Bn N : Nat) (hN1 : 2 ≤ N) (hN2 : N ≤ 7) (J Jx : List (Nat × Nat) → World → Prop)
    (hY : ∀ pre x W, J pre W → pre.length < 49 → YieldAt Fence.wide (d - 1) Try.prog l (enc2 x) W fun e W' =>
      (e = .returned (.bool true) ∧ J (pre ++ [x]) W' ∧ W'.heap[Bn]? = W.heap[Bn]?) ∨ (e = .returned (.bool false) ∧ Jx (pre ++ [x]) W'))
    (W : World) (hBn : NumBox W Bn N) (h0 : J [] W) :
    CallsIn Fence.wide d Try.prog 57 #[.func (.yield l) #[] #[], .pointer (some ⟨Bn, 0, none⟩)] W fun e W' => (∃ v, e = .returned v) ∧
      ((∃ ys, ys = rows N N ∧ J ys W') ∨ (∃ pre, pre <+: rows N N ∧ Jx pre W')) := by
  have hmany : betB (N : Int) 2 7 = true := betB_true.2 ⟨by omega, by omega⟩
  have HM := Lib.hid hmany
  clear hmany
  refine callsIn_of_wp Try.func57 rfl trivial ?_ rfl
  simp only [Try.ntmps57, List.size_toArray, List.length_cons, List.length_nil, Nat.reduceAdd, Nat.reduceSub, Array.replicate_succ, Array.replicate_zero, List.push_toArray, List.append_toArray, List.nil_append, List.cons_append]
  gi_wp2
  gi_loopw [3] (fun i wr => ∃ k : Nat, k ≤ N ∧ i = .int .i64 k ∧ J (rows N k) wr ∧ NumBox wr Bn N) (fun i _ => N - (intOf i).toNat)
  case atStart => exact ⟨0, Nat.zero_le _, rfl, h0, hBn⟩
  case round =>
    obtain ⟨k, hk, rfl, hJ, hB⟩ := hrel
    have hc := hB.cell
    by_cases hlt : k < N
    · have hki : (k : Int) < (N : Int) := by omega
      gi_wp2_with (refine ⟨trivial, ?_⟩; gi_at_call 45; refine (callsIn_wide.2 (isMany_any _ _)).mono ?_; rintro e w' ⟨he, rfl⟩; rw [HM.out] at he; subst he)
      gi_loopw [4] (fun j wr => ∃ m : Nat, k + 1 ≤ m ∧ m ≤ N ∧ j = .int .i64 m ∧ J (rows N k ++ rowTo k m) wr ∧ NumBox wr Bn N) (fun j _ => N - (intOf j).toNat)
      case atStart => exact ⟨k + 1, Nat.le_refl _, hlt, by go_num, by rw [rowTo_zero, List.append_nil]; exact hJ, hB⟩
      case round =>
        obtain ⟨m, hm1, hm2, rfl, hJm, hBm⟩ := hrel
        have hcm := hBm.cell
        by_cases hmN : m < N
        · have hmi : (m : Int) < (N : Int) := by omega
          obtain ⟨fn, tmps, assign, body, hy, hR⟩ := hY (rows N k ++ rowTo k m) (k, m) wr hJm (by have := rows_len hN2 k; rw [List.length_append, rowTo_len]; omega)
          dsimp only [enc2] at hy
          gi_wp2
          refine hR.mono ?_
          rintro e W3 (⟨rfl, hJ3, hk3⟩ | ⟨rfl, hJx3⟩)
          · gi_wp2
            go_roundw
            case rel => exact ⟨m + 1, by omega, by omega, by go_num, by rw [rowTo_succ hm1, ← List.append_assoc]; exact hJ3, hk3.trans hBm⟩
            case measure => simp [intOf]; omega
          · gi_wp2
            refine bodyPost_ret (results_none rfl _ _ _) rfl ?_
            exact ⟨⟨_, rfl⟩, .inr ⟨_, by rw [List.append_assoc, ← rowTo_succ hm1]; exact rows_part hlt (by omega) hmN, hJx3⟩⟩
        · obtain rfl : m = N := by omega
          gi_wp2
          go_roundw
          case rel => exact ⟨k + 1, by omega, by go_num, hJm, hBm⟩
          case measure => simp [intOf]; omega
    · obtain rfl : k = N := by omega
      gi_wp2
      refine ⟨trivial, ?_⟩
      gi_wp2
      go_end0
      exact ⟨⟨_, rfl⟩, .inl ⟨_, rfl, hJ⟩⟩

/-- bases(n): n is boxed; the function value captures the box. -/
theorem bases_any (N : Nat) (w : World) :
    Calls Try.prog 39 #[.int .i64 (N : Int)] w fun e w' => e = .returned (.func (.func 57) #[] #[.pointer (some ⟨w.heap.size, 0, none⟩)]) ∧ w' = w.alloc (.cells #[.int .i64 (N : Int)] 3) := by
  go_enter Try.func39, Try.ntmps39
  go_wp2
  go_ret
  exact ⟨rfl, rfl⟩

/-- bases(n) hands back a value that stops, keeping the captured number. -/
theorem bases_stops (d : Nat) (hd : 1 ≤ d) (Bn N : Nat) (hN1 : 2 ≤ N) (hN2 : N ≤ 7) (w : World) (hlt : Bn < w.heap.size) (hBn : NumBox w Bn N) :
    SeqStopsK Fence.wide d Try.prog 57 #[.pointer (some ⟨Bn, 0, none⟩)] enc2 (fun W W' => W'.heap[Bn]? = W.heap[Bn]?) (fun ys => ys = rows N N) (fun pre => pre <+: rows N N) 49 w := fun l J Jx W hW _ _ hY h0 =>
  bases1_in d hd l Bn N hN1 hN2 J Jx hY W ((hW.block Bn hlt).trans hBn) h0

end Go.Proofs.Ytkmnjekpogbkkaa
