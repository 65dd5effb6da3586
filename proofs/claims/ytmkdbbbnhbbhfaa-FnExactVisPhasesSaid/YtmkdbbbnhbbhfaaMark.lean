/-
  Contracts: laws.markIntS writes running numbers into a slice of one's own; laws.heldIntS says whether a slice holds them.
-/
import Derived.Test.YtmkdbbbnhbbhfaaInts
namespace Go.Proofs.Ytmkdbbbnhbbhfaa
open Go.RowKit
set_option linter.unusedVariables false

/-- The running numbers a, a + 1, .., n of them. -/
def marks (a : Int) (n : Nat) : List Int := (List.range n).map fun (j : Nat) => a + (j : Int)
theorem marks_len (a : Int) (n : Nat) : (marks a n).length = n := by simp [marks]
theorem marks_at {a : Int} {n j : Nat} (h : j < n) : el (marks a n) j = a + (j : Int) := by rw [el_lt (by rw [marks_len]; exact h)]; simp [marks]
/-- The first k numbers replaced by running numbers. -/
def mix (zs : List Int) (a : Int) (k : Nat) : List Int := marks a k ++ zs.drop k
theorem mix_zero (zs : List Int) (a : Int) : mix zs a 0 = zs := by simp [mix, marks]
theorem mix_all {zs : List Int} {n : Nat} (a : Int) (h : zs.length = n) : mix zs a n = marks a n := by simp [mix, ← h]
theorem mix_set {zs : List Int} {n k : Nat} (a : Int) (h : zs.length = n) (hk : k < n) : ((mix zs a k).map (Value.int .i64)).set k (.int .i64 (a + (k : Int))) = (mix zs a (k + 1)).map (Value.int .i64) := by
  rw [← List.map_set]
  congr 1
  rw [mix, mix, List.set_append_right _ _ (by rw [marks_len]; omega), marks_len, Nat.sub_self, List.drop_eq_getElem_cons (by omega), List.set_cons_zero]
  simp [marks, List.range_succ]

/-- What markIntS leaves. -/
def MarkPost (w : World) (base : Nat) (A : Option Addr) (n c : Nat) (a : Int) (e : Ending) (w' : World) : Prop :=
  e = .returned (.int .i64 (a + (n : Int))) ∧ OwnI w' base A n c (marks a n) ∧ w.grownBy w' (Value.slice A n c).ownBlock

set_option maxHeartbeats 400000 in
theorem markIntS_any (base : Nat) (A : Option Addr) (n c : Nat) (zs : List Int) (a : Int) (w : World) (hO : OwnI w base A n c zs) (hn : n ≤ 1048577) (h0 : 0 ≤ a) (h1 : a ≤ 1048577) :
    Calls Try.prog 26 #[.slice A n c, .int .i64 a] w (MarkPost w base A n c a) := by
  have hlen := hO.ints.len
  have HL := Lib.hid hlen
  rcases Nat.eq_zero_or_pos n with rfl | hpos
  · have hz : zs = [] := List.eq_nil_of_length_eq_zero hlen
    subst hz
    clear hlen
    go_enter Try.func26, Try.ntmps26
    go_wp2
    refine wp_loop_rounds 1 ?_
    rw [rounds_succ]
    go_wp2
    go_ret
    exact ⟨ret_int (by simp), by simpa [marks] using hO, World.grownBy.refl w _⟩
  · obtain ⟨g, cap, hv, _, hlt⟩ := World.ownsRow.form hO hpos
    have hA : A = some ⟨g, 0, none⟩ := by injection hv
    subst hA
    clear hv hlen
    have hO0 : OwnI w base (some ⟨g, 0, none⟩) n c (mix zs a 0) := by rw [mix_zero]; exact hO
    go_enter Try.func26, Try.ntmps26
    go_wp2
    go_loopw [1, 5] (fun x i wr => ∃ k : Nat, k ≤ n ∧ i = .int .i64 k ∧ x = .int .i64 (a + (k : Int)) ∧ OwnI wr base (some ⟨g, 0, none⟩) n c (mix zs a k) ∧ w.grownBy wr (some g)) (fun _ i _ => n - (intOf i).toNat)
    case atStart => exact ⟨0, Nat.zero_le _, rfl, by simp, hO0, World.grownBy.refl w _⟩
    case round =>
      obtain ⟨k, hk, rfl, rfl, hOk, hg⟩ := hrel
      by_cases hlt : k < n
      · obtain ⟨old, hs1⟩ := hOk.cell_ hlt
        have hs2 : wr.frozen? ⟨g, k, none⟩ = false := World.ownsRow.frozenAt hOk k
        have hst := World.ownsRow.stored hOk k (.int .i64 (a + (k : Int)))
        rw [mix_set a HL.out hlt] at hst
        have HS := Lib.hid hst
        clear hst
        go_wp2
        go_roundw
        case rel => exact ⟨k + 1, by omega, by go_num, by go_num, HS.out.1, hg.trans HS.out.2⟩
        case measure => simp [intOf]; omega
      · obtain rfl : k = n := by omega
        go_wp2
        go_ret
        exact ⟨rfl, by rw [mix_all a HL.out] at hOk; exact hOk, hg⟩

set_option maxHeartbeats 400000 in
theorem heldIntS_any (A : Option Addr) (n c : Nat) (a : Int) (w : World) (hz : Ints w A n (marks a n)) (hn : n ≤ 1048577) (h0 : 0 ≤ a) (h1 : a ≤ 1048577) :
    Calls Try.prog 27 #[.slice A n c, .int .i64 a] w fun e w' => e = .returned (.int .i64 (a + (n : Int))) ∧ w = w' := by
  go_enter Try.func27, Try.ntmps27
  go_wp2
  go_loop [1, 5] (fun x i => ∃ k : Nat, k ≤ n ∧ i = .int .i64 k ∧ x = .int .i64 (a + (k : Int))) (fun _ i => n - (intOf i).toNat)
  case atStart => exact ⟨0, Nat.zero_le _, rfl, by simp⟩
  case round =>
    obtain ⟨k, hk, rfl, rfl⟩ := hrel
    by_cases hlt : k < n
    · obtain ⟨b, off, rfl, hb, hc⟩ := hz.at_ (by omega)
      have hck := hc k hlt
      rw [marks_at hlt] at hck
      clear hc
      go_wp2
      go_round
      case rel => exact ⟨k + 1, by omega, by go_num, by go_num⟩
      case measure => simp [intOf]; omega
    · obtain rfl : k = n := by omega
      go_wp2
      go_ret
      exact ⟨rfl, rfl⟩

end Go.Proofs.Ytmkdbbbnhbbhfaa
