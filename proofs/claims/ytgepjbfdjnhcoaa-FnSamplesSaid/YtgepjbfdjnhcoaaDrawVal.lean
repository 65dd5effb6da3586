/-
  Contract: spec.DrawSamplesValid draws a list of integers; all that was there is as it was. Beside it: append of one row of one's own onto another.
-/
import Derived.Test.YtgepjbfdjnhcoaaDrawS
import Derived.Laws.AppendOwnNone
namespace Go.Proofs.Ytgepjbfdjnhcoaa
open Go.RowKit
set_option linter.unusedVariables false

/-- append(out, src...) where both are rows of one's own (they may be one row). -/
theorem wpList_appendO {ops : Array Oper} {rest : List Oper} {o : Oper} {a : Act} {Q : Exit → Act → World → Prop} (hgd : o.guard = none) (s x : Operand)
    (ho : o.op = .call { callee := .builtin .append, args := #[s, x], argTypes := #[24, 24] })
    (W : World) (base : Nat) (A : Option Addr) (n c : Nat) (zs : List Int) (base' : Nat) (B : Option Addr) (m d : Nat) (ys : List Int) (hs : a.eval s = .slice A n c) (hx : a.eval x = .slice B m d)
    (hO : OwnI W base A n c zs) (hS : OwnI W base' B m d ys) (hn : n + m ≤ 1048577) (hb : base ≤ W.heap.size)
    (h : ∀ A' c' w', OwnI w' base A' (n + m) c' (zs ++ ys) → W.grownBy w' (Value.slice A n c).ownBlock → wpList Try.prog ops Q rest (a.put o.dst (.slice A' (n + m) c')) w') :
    wpList Try.prog ops Q (o :: rest) a W := by
  obtain ⟨i0, hi, hz0, hz1, hz2⟩ := info_parts infoI
  rcases hS.2 with ⟨hv, hm⟩ | ⟨g, cap, cur, hv, _⟩
  · injection hv with h1 h2 h3
    subst h1 h2 h3
    have hy : ys = [] := List.eq_nil_of_length_eq_zero hS.len
    subst hy
    refine wpList_append_own_none hgd s x 24 ho base 3 i0 1 Try.underlying24 hi (.slice A n c) n _ hs hO hx ?_
    exact h A c W (by simpa using hO) (World.grownBy.refl W _)
  · injection hv with h1 h2 h3
    subst h1
    refine wpList_append_own _ hgd s x 24 ho base 3 i0 (.int .i64 0) 1 8 Try.underlying24 hi hz0 hz1 hz2 rfl (by decide) (.slice A n c) n _ hs hO ⟨g, 0, none⟩ m d (ys.map (Value.int .i64)) hx (by simpa using hS.1)
      (World.ownsRow.cells hS rfl) (by intro u hu; obtain ⟨y, _, rfl⟩ := List.mem_map.1 hu; rfl) (by simp only [maxLen]; omega) (by omega) hb ?_
    intro v' w' hown hg _
    rcases hown.2 with ⟨hv, hnm⟩ | ⟨g', cap', cur', hv, r⟩
    · subst hv
      have hnm' : n + m = 0 := hnm
      have e1 : (Value.slice none 0 0) = .slice none (n + m) 0 := by rw [hnm']
      rw [e1] at hown ⊢
      exact h _ _ _ (by unfold OwnI; rw [List.map_append]; exact hown) hg
    · subst hv
      exact h _ _ _ (by unfold OwnI; rw [List.map_append]; exact hown) hg

/-- One list of integers has been drawn. -/
def OnePost (w : World) (e : Ending) (w' : World) : Prop :=
  ∃ (A : Option Addr) (n c : Nat) (zs : List Int), e = .returned (.slice A n c) ∧ OwnI w' w.heap.size A n c zs ∧ n ≤ 300 ∧ Below w.heap.size w w'

set_option maxHeartbeats 2000000 in
theorem DrawSamplesValid_any (A : Option Addr) (n c : Nat) (bs : List Int) (w : World) (hz : IntsK .u8 w A n bs) (hn : n ≤ 1048576) (hc : n ≤ c) (hbs : ∀ j, 0 ≤ el bs j ∧ el bs j ≤ 255) :
    Calls Try.prog 21 #[.slice A n c] w (OnePost w) := by
  go_enter Try.func21, Try.ntmps21
  go_wp2_with fail
  refine (l6Open_any A n c bs _ hz hn hc hbs).mono ?_
  rintro e w1 ⟨g, rfl, hg, hR1, hb1⟩
  clear hbs
  go_wp2_with fail
  refine (pick_any g 0 _ _ hR1 (by omega) (by omega) (by omega)).mono ?_
  rintro e w2 ⟨x, hx0, hx1, rfl, hR2, hG2⟩
  go_wp2_with fail
  refine (l91Samples_any g _ _ _ hR2 (by omega) (by omega) (by omega)).mono ?_
  rintro e w3 ⟨A3, n3, c3, zs, p3, rfl, hO3, hn3, hR3, hp3, hG3⟩
  have hlt := hR2.lt
  have hG23 := hG2.trans hG3
  have hs12 : w1.heap.size ≤ w2.heap.size := hG2.size
  go_wp2
  go_loopw [4] (fun v wr => ∃ (A' : Option Addr) (k c' : Nat) (ys : List Int) (q : Nat), v = .slice A' k c' ∧ k ≤ 200 ∧ q ≤ 300 + k ∧ OwnI wr w2.heap.size A' k c' ys ∧ Rdr wr g q ∧ w2.heap.size ≤ wr.heap.size ∧ Below w.heap.size w wr)
    (fun v _ => match v with | .slice _ k _ => 300 - k | _ => 0)
  case atStart => exact ⟨A3, n3, c3, zs, p3, rfl, by omega, by omega, hO3, hR3, hG3.size, below_grown hb1 hG23 hg⟩
  case round =>
    obtain ⟨A', k, c', ys, q, rfl, hk, hq, hO, hR, hsz, hB⟩ := hrel
    clear hO3 hR3 hR1 hR2 hG2 hG3 hG23 hb1 hz
    go_wp2_with fail
    refine (pick_any g q _ _ hR (by omega) (by omega) (by omega)).mono ?_
    rintro e w4 ⟨m, hm0, hm1, rfl, hR4, hG4⟩
    have hO4 := hO.off hG4 (fun k e => by cases e; exact hlt)
    have hB4 := below_grown hB hG4 hg
    have hs4 : w2.heap.size ≤ w4.heap.size := Nat.le_trans hsz hG4.size
    by_cases e7 : m = 7
    · subst e7
      by_cases hk40 : k < 40
      · go_wp2_with (first | (at_builtin; have _t := hk40; refine wpList_appendO rfl (.tmp 20) (.tmp 21) rfl w4 w2.heap.size A' k c' ys w2.heap.size A' k c' ys rfl rfl hO4 hO4 (by omega) hs4 ?_; intro A5 c5 w5 hO5 hG5; clear hk40; have hs5 : w2.heap.size ≤ w5.heap.size := Nat.le_trans hs4 hG5.size) | (at_builtin; refine wpList_appendI rfl (.tmp 23) (.tmp 24) rfl w5 w2.heap.size A5 (k + k) c5 (ys ++ ys) 1 rfl rfl hO5 (by omega) hs5 ?_; intro A6 c6 w6 hO6 hG6))
        have hR5 := hR4.off hG5 (fun j e => by have := (hO4.lt j e).1; omega)
        have hR6 := hR5.off hG6 (fun j e => by have := (hO5.lt j e).1; omega)
        have hB5 := hB4.grown hG5 hB4.size (fun j e => by have := (hO4.lt j e).1; have := hB.size; omega)
        have hB6 := hB5.grown hG6 hB5.size (fun j e => by have := (hO5.lt j e).1; have := hB.size; omega)
        go_roundw
        case rel => exact ⟨A6, k + k + 1, c6, _, q + 1, rfl, by omega, by omega, hO6, hR6, Nat.le_trans hs5 hG6.size, hB6⟩
        case measure => simp; omega
      · have hk40' : 40 ≤ k := by omega
        clear hk40
        go_wp2
        go_ret
        exact ⟨_, _, _, _, rfl, hO4.mono (by omega), by omega, hB4⟩
    · have e7' : (m == 7) = false := by simp [e7]
      clear e7
      go_wp2
      go_ret
      exact ⟨_, _, _, _, rfl, hO4.mono (by omega), by omega, hB4⟩

end Go.Proofs.Ytgepjbfdjnhcoaa
