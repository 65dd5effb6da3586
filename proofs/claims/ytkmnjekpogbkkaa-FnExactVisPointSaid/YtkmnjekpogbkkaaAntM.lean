/-
  Contracts: laws.markAntS writes running numbers into a slice of structs of one's own; laws.heldAntS says whether a slice holds them.
-/
import Derived.Test.YtkmnjekpogbkkaaProg
import Derived.Test.YtkmnjekpogbkkaaPairsB
import Derived.Deep.QuietTactic
import Derived.BigQuiet
namespace Go.Proofs.Ytkmnjekpogbkkaa
open Go.RowKit
set_option linter.unusedVariables false

/-- What markAntS leaves. -/
def MarkAntPost (w : World) (base : Nat) (A : Option Addr) (n c : Nat) (a : Int) (e : Ending) (w' : World) : Prop :=
  e = .returned (.int .i64 (a + 2 * (n : Int))) ∧ OwnP 25 w' base A n c (marksP a n) ∧ w.grownBy w' (Value.slice A n c).ownBlock

set_option maxHeartbeats 1000000 in
theorem markAntS_any (base : Nat) (A : Option Addr) (n c : Nat) (ps : List (Int × Int)) (a : Int) (w : World) (hO : OwnP 25 w base A n c ps) (hn : n ≤ 1048577) (h0 : 0 ≤ a) (h1 : a ≤ 1048577) :
    Calls Try.prog 30 #[.slice A n c, .int .i64 a] w (MarkAntPost w base A n c a) := by
  have hlen := hO.len
  have HL := Lib.hid hlen
  rcases Nat.eq_zero_or_pos n with rfl | hpos
  · have hz : ps = [] := List.eq_nil_of_length_eq_zero hlen
    subst hz
    clear hlen
    go_enter Try.func30, Try.ntmps30
    go_wp2
    refine wp_loop_rounds 1 ?_
    rw [rounds_succ]
    go_wp2
    go_ret
    exact ⟨ret_int (by simp), by simpa [marksP] using hO, World.grownBy.refl w _⟩
  · obtain ⟨g, rfl, hlt, hbg⟩ := hO.at0 hpos
    clear hlen
    have hO0 : OwnP 25 w base (some ⟨g, 0, none⟩) n c (mixP ps a 0) := by rw [mixP_zero]; exact hO
    go_enter Try.func30, Try.ntmps30
    go_wp2
    go_loopw [1, 5] (fun x i wr => ∃ k : Nat, k ≤ n ∧ i = .int .i64 k ∧ x = .int .i64 (a + 2 * (k : Int)) ∧ OwnP 25 wr base (some ⟨g, 0, none⟩) n c (mixP ps a k) ∧ w.grownBy wr (some g)) (fun _ i _ => n - (intOf i).toNat)
    case atStart => exact ⟨0, Nat.zero_le _, rfl, by simp, hO0, World.grownBy.refl w _⟩
    case round =>
      obtain ⟨k, hk, rfl, rfl, hOk, hg⟩ := hrel
      by_cases hlt : k < n
      · obtain ⟨o1, o2, hs1, hs2⟩ := hOk.cells2 hlt
        have hf1 : wr.frozen? ⟨g, k * 2, none⟩ = false := World.ownsRow.frozenAt hOk _
        have hf2 : wr.frozen? ⟨g, k * 2 + 1, none⟩ = false := World.ownsRow.frozenAt hOk _
        have hs3 : (wr.setCell ⟨g, k * 2, none⟩ (.int .i64 (a + 2 * (k : Int)))).cell? ⟨g, k * 2 + 1, none⟩ = some o2 := (World.cell?_setCell_other _ _ _ _ (by simp)).trans hs2
        have hf3 : (wr.setCell ⟨g, k * 2, none⟩ (.int .i64 (a + 2 * (k : Int)))).frozen? ⟨g, k * 2 + 1, none⟩ = false := by rw [World.frozen?_setCell]; exact hf2
        have hst := hOk.stored2 (x := a + 2 * (k : Int)) (y := a + 2 * (k : Int) + 1) hlt
        rw [mixP_set a HL.out hlt] at hst
        have hg1 : wr.grownBy (wr.setCell ⟨g, k * 2, none⟩ (.int .i64 (a + 2 * (k : Int)))) (some g) := (World.ownsRow.stored hOk (k * 2) (.int .i64 (a + 2 * (k : Int)))).2
        have hg2 : (wr.setCell ⟨g, k * 2, none⟩ (.int .i64 (a + 2 * (k : Int)))).grownBy ((wr.setCell ⟨g, k * 2, none⟩ (.int .i64 (a + 2 * (k : Int)))).setCell ⟨g, k * 2 + 1, none⟩ (.int .i64 (a + 2 * (k : Int) + 1))) (some g) :=
          (World.ownsRow.stored (World.ownsRow.stored hOk (k * 2) (.int .i64 (a + 2 * (k : Int)))).1 (k * 2 + 1) (.int .i64 (a + 2 * (k : Int) + 1))).2
        have HS := Lib.hid hst
        have HG := Lib.hid ((hg.trans hg1).trans hg2)
        clear hst hg1 hg2
        go_wp2
        go_roundw
        case rel => exact ⟨k + 1, by omega, by go_num, by go_num, HS.out, HG.out⟩
        case measure => simp [intOf]; omega
      · obtain rfl : k = n := by omega
        go_wp2
        go_ret
        exact ⟨rfl, by rw [mixP_all a HL.out] at hOk; exact hOk, hg⟩

end Go.Proofs.Ytkmnjekpogbkkaa
