/-
  Contracts: spec.DrawCorrelate and spec.DrawCorrelateBest draw two lists of samples (and a lag); all that was there is as it was.
-/
import Derived.Test.YtiehommofdjgcaaDrawS
import Derived.Test.YtiehommofdjgcaaShift
namespace Go.Proofs.Ytiehommofdjgcaa
open Go.RowKit
set_option linter.unusedVariables false

/-- Two lists of integers and a lag have been drawn. -/
def CorrPost (w : World) (e : Ending) (w' : World) : Prop :=
  ∃ (A : Option Addr) (n c : Nat) (a : List Int) (B : Option Addr) (m d : Nat) (b : List Int) (lag : Int), e = .returned (.tuple #[.slice A n c, .slice B m d, .int .i64 lag]) ∧
    OwnI w' w.heap.size A n c a ∧ OwnI w' w.heap.size B m d b ∧ n ≤ 100 ∧ m ≤ 101 ∧ -1001 ≤ lag ∧ lag ≤ 1001 ∧ Below w.heap.size w w'
/-- Two lists of integers have been drawn. -/
def PairPost (w : World) (e : Ending) (w' : World) : Prop :=
  ∃ (A : Option Addr) (n c : Nat) (a : List Int) (B : Option Addr) (m d : Nat) (b : List Int), e = .returned (.tuple #[.slice A n c, .slice B m d]) ∧
    OwnI w' w.heap.size A n c a ∧ OwnI w' w.heap.size B m d b ∧ n ≤ 100 ∧ m ≤ 101 ∧ Below w.heap.size w w'

set_option maxHeartbeats 1000000 in
theorem DrawCorrelate_any (A : Option Addr) (n c : Nat) (bs : List Int) (w : World) (hz : IntsK .u8 w A n bs) (hn : n ≤ 1048576) (hc : n ≤ c) (hbs : ∀ j, 0 ≤ el bs j ∧ el bs j ≤ 255) :
    Calls Try.prog 20 #[.slice A n c] w (CorrPost w) := by
  go_enter Try.func20, Try.ntmps20
  go_wp2_with fail
  refine (l6Open_any A n c bs _ hz hn hc hbs).mono ?_
  rintro e w1 ⟨g, rfl, hg, hR1, hb1⟩
  clear hbs
  go_wp2_with fail
  refine (pick_any g 0 _ _ hR1 (by omega) (by omega) (by omega)).mono ?_
  rintro e w2 ⟨x, hx0, hx1, rfl, hR2, hG2⟩
  go_wp2_with fail
  refine (l91Samples_any g _ _ _ hR2 (by omega) (by omega) (by omega)).mono ?_
  rintro e w3 ⟨A3, n3, c3, a, p3, rfl, hO3, hn3, hR3, hp3, hG3⟩
  go_wp2_with fail
  refine (l91Samples_any g _ _ _ hR3 (by omega) (by omega) (by omega)).mono ?_
  rintro e w4 ⟨A4, n4, c4, b, p4, rfl, hO4, hn4, hR4, hp4, hG4⟩
  have hlt2 := hR2.lt
  have hO34 := hO3.off hG4 (fun k e => by cases e; exact hlt2)
  go_wp2_with fail
  refine (pick_any g _ _ _ hR4 (by omega) (by omega) (by omega)).mono ?_
  rintro e w5 ⟨m, hm0, hm1, rfl, hR5, hG5⟩
  have hO35 := hO34.off hG5 (fun k e => by cases e; exact hlt2)
  have hO45 := hO4.off hG5 (fun k e => by cases e; exact hR3.lt)
  have hs1 : w.heap.size ≤ w2.heap.size := Nat.le_trans hb1.size hG2.size
  have hs3 : w2.heap.size ≤ w3.heap.size := hG3.size
  have hB5 := below_grown hb1 ((hG2.trans hG3).trans (hG4.trans hG5)) hg
  have hs5 : w3.heap.size ≤ w5.heap.size := Nat.le_trans hG4.size hG5.size
  have hA3 : ∀ k, (Value.slice A3 n3 c3).ownBlock = some k → k < w3.heap.size := fun k e => (hO3.lt k e).2
  have hA4 : ∀ k, (Value.slice A4 n4 c4).ownBlock = some k → w3.heap.size ≤ k := fun k e => (hO4.lt k e).1
  by_cases e0 : m = 0
  · subst e0
    go_wp2_with (first | (at_builtin; refine wpList_appendI rfl _ _ rfl w5 w3.heap.size A4 n4 c4 b 1 rfl rfl hO45 (by omega) hs5 ?_; intro A6 c6 w6 hO6 hG6))
    have hR6 := hR5.off hG6 (fun k e => by have := hA4 k e; omega)
    have hO36 := hO35.far hG6 (fun k e e' => by have := hA3 k e; have := hA4 k e'; omega)
    have hB6 := hB5.grown hG6 hB5.size (fun k e => by have := hA4 k e; omega)
    refine (l91Lag_any g _ _ hR6 (by omega)).mono ?_
    rintro e w7 ⟨t, p7, rfl, ht0, ht1, hR7, hp7, hG7⟩
    go_wp2
    go_ret3
    exact ⟨_, _, _, _, _, _, _, _, _, rfl, (hO36.off hG7 (fun k e => by cases e; exact hlt2)).mono hs1, (hO6.off hG7 (fun k e => by cases e; exact hR3.lt)).mono (by omega), hn3, by omega, ht0, ht1, below_grown hB6 hG7 hg⟩
  · have e0' : (m == 0) = false := by simp [e0]
    clear e0
    go_wp2_with fail
    refine (l91Lag_any g _ _ hR5 (by omega)).mono ?_
    rintro e w7 ⟨t, p7, rfl, ht0, ht1, hR7, hp7, hG7⟩
    go_wp2
    go_ret3
    exact ⟨_, _, _, _, _, _, _, _, _, rfl, (hO35.off hG7 (fun k e => by cases e; exact hlt2)).mono hs1, (hO45.off hG7 (fun k e => by cases e; exact hR3.lt)).mono (by omega), hn3, by omega, ht0, ht1, below_grown hB5 hG7 hg⟩

set_option maxHeartbeats 1000000 in
theorem DrawCorrelateBest_any (A : Option Addr) (n c : Nat) (bs : List Int) (w : World) (hz : IntsK .u8 w A n bs) (hn : n ≤ 1048576) (hc : n ≤ c) (hbs : ∀ j, 0 ≤ el bs j ∧ el bs j ≤ 255) :
    Calls Try.prog 22 #[.slice A n c] w (PairPost w) := by
  have HBS := Lib.hid hbs
  clear hbs
  go_enter Try.func22, Try.ntmps22
  go_wp2_with fail
  refine (l6Open_any A n c bs _ hz hn hc HBS.out).mono ?_
  rintro e w1 ⟨g, rfl, hg, hR1, hb1⟩
  go_wp2_with fail
  refine (DrawCorrelate_any A n c bs _ (hz.below hb1) hn hc HBS.out).mono ?_
  rintro e w2 ⟨A2, n2, c2, a, B2, m2, d2, b, lag, rfl, hOa, hOb, hn2, hm2, hl0, hl1, hb2⟩
  have hB2 := below_step hb1 hb2
  have hR2 := hR1.below hb2
  have hlt := hR1.lt
  have hVL : Hid ((shV a lag).length ≤ 100) := by
    have h1 := hOa.len
    unfold shV; split
    · rw [shl_len, h1]; exact hn2
    · exact Nat.zero_le _
  go_wp2_with fail
  refine (sShift_any _ _ _ a _ _ hOa.ints (by omega)).mono ?_
  rintro e w3 ⟨A3, n3, c3, rfl, hOx, hb3⟩
  have hB3 := below_step hB2 hb3
  have hR3 := hR2.below hb3
  have hOa3 := hOa.below hb3
  have hOb3 := hOb.below hb3
  have hn3 : n3 ≤ 100 := by have := hOx.len; have := hVL.out; omega
  have hs1 : w.heap.size ≤ w1.heap.size := hb1.size
  have hs2 : w.heap.size ≤ w2.heap.size := hB2.size
  cases hok : shOk a lag
  · go_wp2
    go_ret2
    exact ⟨_, _, _, _, _, _, _, _, rfl, hOa3.mono hs1, hOb3.mono hs1, hn2, hm2, hB3⟩
  · go_wp2_with fail
    refine (pick_any g _ _ _ hR3 (by omega) (by omega) (by omega)).mono ?_
    rintro e w4 ⟨m, hm0, hm1, rfl, hR4, hG4⟩
    have hOa4 := (hOa3.off hG4 (fun k e => by cases e; exact hlt)).mono hs1
    have hOb4 := (hOb3.off hG4 (fun k e => by cases e; exact hlt)).mono hs1
    have hOx4 := (hOx.off hG4 (fun k e => by cases e; have := hb2.size; omega)).mono hs2
    have hB4 := below_grown hB3 hG4 hg
    by_cases e0 : m = 0
    · subst e0
      go_wp2
      go_ret2
      exact ⟨_, _, _, _, _, _, _, _, rfl, hOa4, hOx4, hn2, by omega, hB4⟩
    · have e0' : (m == 0) = false := by simp [e0]
      clear e0
      go_wp2
      go_ret2
      exact ⟨_, _, _, _, _, _, _, _, rfl, hOa4, hOb4, hn2, hm2, hB4⟩

end Go.Proofs.Ytiehommofdjgcaa
