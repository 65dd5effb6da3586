/-
  Contracts: laws.toIntS, eqIntS, sameInts, markIntS, heldIntS: a copy of a slice of integers; whether two are equal; marks written into one; whether it holds them.
-/
import Derived.Test.YtgepjbfdjnhcoaaProg
import Derived.Test.YtgepjbfdjnhcoaaWords
import Derived.Deep.QuietTactic
import Derived.BigQuiet
namespace Go.Proofs.Ytgepjbfdjnhcoaa
open Go.RowKit
set_option linter.unusedVariables false

theorem infoI : (Try.prog.info? 3).map (fun i => (i.zero, i.size, i.bytes)) = some (some (.int .i64 0), 1, 8) := by kernel_rfl

/-- A slice of integers in memory of one's own, from block 'base' on. -/
def OwnI (w : World) (base : Nat) (A : Option Addr) (n c : Nat) (zs : List Int) : Prop := w.ownsRow base 3 1 (.slice A n c) n (zs.map (Value.int .i64))
theorem OwnI.ints {w : World} {base : Nat} {A : Option Addr} {n c : Nat} {zs : List Int} (h : OwnI w base A n c zs) : Ints w A n zs := ints_of_own h
theorem OwnI.below {w w' : World} {base : Nat} {A : Option Addr} {n c : Nat} {zs : List Int} (h : OwnI w base A n c zs) (hb : Below w.heap.size w w') : OwnI w' base A n c zs := by
  refine ⟨h.1, ?_⟩
  rcases h.2 with h2 | ⟨g, cap, cur, hv, hg, hh, r⟩
  · exact .inl h2
  · refine .inr ⟨g, cap, cur, hv, hg, ?_, r⟩
    have hlt : g < w.heap.size := by
      rcases Nat.lt_or_ge g w.heap.size with hlt | hge
      · exact hlt
      · rw [Array.getElem?_eq_none hge] at hh; cases hh
    rw [hb.block g hlt]; exact hh
theorem OwnI.mono {w : World} {base base' : Nat} {A : Option Addr} {n c : Nat} {zs : List Int} (h : OwnI w base A n c zs) (hb : base' ≤ base) : OwnI w base' A n c zs := by
  refine ⟨h.1, ?_⟩
  rcases h.2 with h2 | ⟨g, cap, cur, hv, hg, r⟩
  · exact .inl h2
  · exact .inr ⟨g, cap, cur, hv, by omega, r⟩

theorem OwnI.cell_ {w : World} {base g n c k : Nat} {zs : List Int} (h : OwnI w base (some ⟨g, 0, none⟩) n c zs) (hk : k < n) : ∃ old, w.cell? ⟨g, k, none⟩ = some old := by
  have hl : k < (zs.map (Value.int .i64)).length := by have := h.1; omega
  exact ⟨_, (World.ownsRow.cellAt h k (by omega)).trans (List.getElem?_eq_getElem hl)⟩

/-- An owned row is kept where only a block below its base has changed. -/
theorem OwnI.off {w w' : World} {base : Nat} {A : Option Addr} {n c : Nat} {zs : List Int} {row : Option Nat} (h : OwnI w base A n c zs) (hg : w.grownBy w' row) (hr : ∀ k, row = some k → k < base) : OwnI w' base A n c zs :=
  World.ownsRow.kept h hg (by
    cases e : (Value.slice A n c).ownBlock with
    | none => exact .inl rfl
    | some k => exact .inr (fun e' => by have h1 := (World.ownsRow.lt h k e).1; have h2 := hr k e'.symm; omega))
theorem OwnI.far {w w' : World} {base : Nat} {A : Option Addr} {n c : Nat} {zs : List Int} {row : Option Nat} (h : OwnI w base A n c zs) (hg : w.grownBy w' row) (hr : ∀ k, (Value.slice A n c).ownBlock = some k → row = some k → False) : OwnI w' base A n c zs :=
  World.ownsRow.kept h hg (by
    cases e : (Value.slice A n c).ownBlock with
    | none => exact .inl rfl
    | some k => exact .inr (fun e' => hr k e e'.symm))
theorem OwnI.lt {w : World} {base : Nat} {A : Option Addr} {n c : Nat} {zs : List Int} (h : OwnI w base A n c zs) : ∀ k, (Value.slice A n c).ownBlock = some k → base ≤ k ∧ k < w.heap.size := World.ownsRow.lt h
theorem OwnI.len {w : World} {base : Nat} {A : Option Addr} {n c : Nat} {zs : List Int} (h : OwnI w base A n c zs) : zs.length = n := by simpa using h.1
theorem OwnI.nil (w : World) (base : Nat) : OwnI w base none 0 0 [] := World.ownsRow_nil w base _ _
/-- An empty literal. -/
theorem OwnI.lit0 (w : World) {base : Nat} (hb : base ≤ w.heap.size) : OwnI (w.alloc (.cells #[] 3)) base (some ⟨w.heap.size, 0, none⟩) 0 0 [] := World.ownsRow_lit w #[] 0 hb (by simp [maxLen]) rfl

/-- append(out, z) onto a row of one's own. -/
theorem wpList_appendI {ops : Array Oper} {rest : List Oper} {o : Oper} {a : Act} {Q : Exit → Act → World → Prop} (hgd : o.guard = none) (s x : Operand)
    (ho : o.op = .call { callee := .builtin .append, args := #[s, x], argTypes := #[24, 24] })
    (W : World) (base : Nat) (A : Option Addr) (n c : Nat) (zs : List Int) (z : Int) (hs : a.eval s = .slice A n c) (hx : a.eval x = .slice (some ⟨W.heap.size, 0, none⟩) 1 1)
    (hO : OwnI W base A n c zs) (hn : n ≤ 1048577) (hb : base ≤ W.heap.size)
    (h : ∀ A' c' w', OwnI w' base A' (n + 1) c' (zs ++ [z]) → W.grownBy w' (Value.slice A n c).ownBlock → wpList Try.prog ops Q rest (a.put o.dst (.slice A' (n + 1) c')) w') :
    wpList Try.prog ops Q (o :: rest) a (W.alloc (.cells #[.int .i64 z] 3)) := by
  obtain ⟨i0, hi, hz0, hz1, hz2⟩ := info_parts infoI
  refine wpList_append_own _ hgd s x 24 ho base 3 i0 (.int .i64 0) 1 8 Try.underlying24 hi hz0 hz1 hz2 rfl (by decide) (.slice A n c) n _ hs (World.ownsRow.alloc hO _) ⟨W.heap.size, 0, none⟩ 1 1 [.int .i64 z] hx rfl
    (cell_one_new _ _ _) (by simp [Value.oneCell']) (by simp only [maxLen]; omega) (by omega) (by simp; omega) ?_
  intro v' w' hown hg _
  obtain ⟨g, cap, hv, _, _⟩ := World.ownsRow.form hown (by omega)
  subst hv
  refine h _ _ _ (by unfold OwnI; rw [List.map_append]; exact hown) ⟨hg.os, hg.tape, hg.output, Nat.le_trans (by simp) hg.size, fun k hk hne => (hg.block k (by simp; omega) hne).trans (Below.heap_alloc W _ k hk)⟩

/-- A call returns one slice of integers in new memory; what was there is as it was. -/
def RetRow (w : World) (zs : List Int) (e : Ending) (w' : World) : Prop :=
  ∃ A n c, e = .returned (.slice A n c) ∧ OwnI w' w.heap.size A n c zs ∧ Below w.heap.size w w'

/-- A call returns a slice of integers in new memory and a bool. -/
def RetRowB (w : World) (zs : List Int) (ok : Bool) (e : Ending) (w' : World) : Prop :=
  ∃ A n c, e = .returned (.tuple #[.slice A n c, .bool ok]) ∧ OwnI w' w.heap.size A n c zs ∧ Below w.heap.size w w'

def zerosA (n : Nat) : Array Value := Array.replicate n (.int .i64 0)
theorem run_makeI (n : Nat) (hn : n ≤ 1048577) (w : World) : (Instr.makeSlice 24 (.int .i64 (n : Int)) (.int .i64 (n : Int))).run Try.prog w =
    .ok (.slice (some ⟨w.heap.size, 0, none⟩) n n) (w.alloc (.cells (zerosA n) 3)) := by
  obtain ⟨i0, hi, hz0, hz1, hz2⟩ := info_parts infoI
  have hr := run_make (P := Try.prog) w 24 3 i0 _ Try.underlying24 hi hz0 .i64 .i64 n n (by omega) (by omega) (by rw [hz2]; omega) (by omega)
  simp only [Int.toNat_natCast] at hr
  rw [hr, hz1, Nat.mul_one]
  congr 3
  apply Array.ext
  · simp [madeCells, zerosA]
  · intro i h1 h2
    simp [madeCells, zerosA, Value.cells, Nat.mod_one]

/-- The first k numbers of zs, then zeros. -/
def upTo (zs : List Int) (n k : Nat) : List Int := zs.take k ++ List.replicate (n - k) 0
theorem upTo_zero (zs : List Int) (n : Nat) : (zerosA n).toList = (upTo zs n 0).map (Value.int .i64) := by simp [upTo, zerosA]
theorem upTo_all {zs : List Int} {n : Nat} (h : zs.length = n) : upTo zs n n = zs := by simp [upTo, ← h]
theorem upTo_set {zs : List Int} {n k : Nat} (h : zs.length = n) (hk : k < n) : ((upTo zs n k).map (Value.int .i64)).set k (.int .i64 (el zs k)) = (upTo zs n (k + 1)).map (Value.int .i64) := by
  rw [← List.map_set]
  congr 1
  have hl : (zs.take k).length = k := by rw [List.length_take]; omega
  rw [upTo, upTo, List.set_append_right _ _ (by omega), hl, Nat.sub_self, show n - k = (n - (k + 1)) + 1 by omega, List.replicate_succ, List.set_cons_zero,
    el_lt (by omega), List.take_succ_eq_append_getElem (i := k) (by omega), List.append_assoc, List.singleton_append]

set_option maxHeartbeats 400000 in
theorem toIntS_any (A : Option Addr) (n c : Nat) (zs : List Int) (w : World) (hz : Ints w A n zs) (hn : n ≤ 1048576) :
    Calls Try.prog 17 #[.slice A n c] w (RetRow w zs) := by
  have HL := Lib.hid hz.len
  have hmk := run_makeI n (by omega)
  have hB0 : OwnI (w.alloc (.cells (zerosA n) 3)) w.heap.size (some ⟨w.heap.size, 0, none⟩) n n (upTo zs n 0) := by
    unfold OwnI; rw [← upTo_zero]
    exact World.ownsRow_lit w (zerosA n) n (Nat.le_refl _) (by simp only [maxLen]; omega) (by simp [zerosA])
  have hb0 : Below w.heap.size w (w.alloc (.cells (zerosA n) 3)) := (Below.refl _ _).alloc (Nat.le_refl _) _
  go_enter Try.func17, Try.ntmps17
  go_wp2
  go_loopw [4] (fun i wr => ∃ k : Nat, k ≤ n ∧ i = .int .i64 k ∧ OwnI wr w.heap.size (some ⟨w.heap.size, 0, none⟩) n n (upTo zs n k) ∧ Below w.heap.size w wr) (fun i _ => n - (intOf i).toNat)
  case atStart => exact ⟨0, Nat.zero_le _, rfl, hB0, hb0⟩
  case round =>
    obtain ⟨k, hk, rfl, hO, hbl⟩ := hrel
    clear hmk hB0 hb0
    by_cases hlt : k < n
    · obtain ⟨b, off, rfl, hb, hc⟩ := hz.at_ (by omega)
      have hck : wr.cell? ⟨b, off + k, none⟩ = some (.int .i64 (el zs k)) := (hbl.cell (p := ⟨b, off + k, none⟩) hb).trans (hc k hlt)
      obtain ⟨old, hs1⟩ := hO.cell_ hlt
      have hs2 : wr.frozen? ⟨w.heap.size, k, none⟩ = false := World.ownsRow.frozenAt hO k
      have hst := World.ownsRow.stored hO k (.int .i64 (el zs k))
      rw [upTo_set HL.out hlt] at hst
      have HS := Lib.hid hst
      have HBl := Lib.hid (hbl.setCell (p := ⟨w.heap.size, k, none⟩) (Nat.le_refl _) (.int .i64 (el zs k)))
      clear hc hst
      go_wp2
      go_roundw
      case rel => exact ⟨k + 1, by omega, by go_num, HS.out.1, HBl.out⟩
      case measure => simp [intOf]; omega
    · obtain rfl : k = n := by omega
      go_wp2
      go_ret
      exact ⟨_, _, _, rfl, by rw [upTo_all HL.out] at hO; exact hO, hbl⟩

/-- Whether two lists are one. -/
def eqL (zs ys : List Int) : Bool := decide (zs = ys)
theorem eqL_self (zs : List Int) : eqL zs zs = true := by simp [eqL]
theorem eqL_len {zs ys : List Int} (h : zs.length ≠ ys.length) : eqL zs ys = false := by
  simp only [eqL, decide_eq_false_iff_not]; intro e; exact h (by rw [e])
theorem eqL_at {zs ys : List Int} {k : Nat} (h : el zs k ≠ el ys k) : eqL zs ys = false := by
  simp only [eqL, decide_eq_false_iff_not]; intro e; exact h (by rw [e])
theorem el_ext {zs ys : List Int} (hl : zs.length = ys.length) (h : ∀ j, j < zs.length → el zs j = el ys j) : zs = ys := by
  apply List.ext_getElem hl
  intro j h1 h2
  have := h j h1
  rwa [el_lt h1, el_lt h2] at this
theorem eqL_all {zs ys : List Int} (hl : zs.length = ys.length) (h : ∀ j, j < zs.length → el zs j = el ys j) : eqL zs ys = true := by
  simp only [eqL, decide_eq_true_eq]; exact el_ext hl h

set_option maxHeartbeats 400000 in
theorem eqIntS_any (A B : Option Addr) (n m c d : Nat) (zs ys : List Int) (w : World) (hz : Ints w A n zs) (hy : Ints w B m ys) (hn : n ≤ 1048577) :
    Calls Try.prog 19 #[.slice A n c, .slice B m d] w fun e w' => e = .returned (.bool (eqL zs ys)) ∧ Below w.heap.size w w' := by
  by_cases hnm : n = m
  · subst hnm
    have HL := Lib.hid (hz.len.trans hy.len.symm)
    have HL' := Lib.hid hz.len
    go_enter Try.func19, Try.ntmps19
    go_wp2
    go_loopw [5] (fun i wr => ∃ k : Nat, k ≤ n ∧ i = .int .i64 k ∧ (∀ j, j < k → el zs j = el ys j) ∧ ∃ q, wr = w.drewN q) (fun i _ => n - (intOf i).toNat)
    case atStart => exact ⟨0, Nat.zero_le _, rfl, fun j hj => absurd hj (by omega), 0, rfl⟩
    case round =>
      obtain ⟨k, hk, rfl, ha, q, rfl⟩ := hrel
      have HA := Lib.hid ha
      clear ha
      by_cases hlt : k < n
      · obtain ⟨b, off, rfl, hb, hc⟩ := hz.at_ (by omega)
        obtain ⟨b', off', rfl, hb', hc'⟩ := hy.at_ (by omega)
        have hck := hc k hlt
        have hck' := hc' k hlt
        clear hc hc'
        by_cases he : el zs k = el ys k
        · have HE := Lib.hid he
          have he1 : (el zs k != el ys k) = false := by simp [he]
          clear he
          go_wp2
          go_quiet (fail)
          go_wp2
          go_roundw
          case rel =>
            refine ⟨k + 1, by omega, by go_num, fun j hj => ?_, _, rfl⟩
            rcases Nat.lt_or_ge j k with h | h
            · exact HA.out j h
            · obtain rfl : j = k := by omega
              exact HE.out
          case measure => simp [intOf]; omega
        · have HE := Lib.hid he
          have he1 : (el zs k != el ys k) = true := by simp [he]
          clear he
          go_wp2
          go_quiet (fail)
          go_wp2
          go_ret
          exact ⟨ret_bool (eqL_at HE.out).symm, below_drewN (below_drewN (Below.refl _ _) _) _⟩
      · have H : Hid (eqL zs ys = true) := eqL_all HL.out fun j hj => HA.out j (by rw [HL'.out] at hj; omega)
        go_wp2
        go_ret
        exact ⟨ret_bool H.out.symm, below_drewN (Below.refl _ _) _⟩
  · have H := Lib.hid (eqL_len (zs := zs) (ys := ys) (by rw [hz.len, hy.len]; exact hnm))
    have h1 : ((n : Int) != (m : Int)) = true := by simp; omega
    have h2 : (n != m) = true := by simp; omega
    go_enter Try.func19, Try.ntmps19
    go_wp2
    go_ret
    exact ⟨ret_bool H.out.symm, Below.refl _ _⟩

set_option maxHeartbeats 400000 in
theorem sameInts_any (A B : Option Addr) (n m c d : Nat) (zs ys : List Int) (w : World) (hz : Ints w A n zs) (hy : Ints w B m ys) (hn : n ≤ 1048577) :
    Calls Try.prog 29 #[.slice A n c, .slice B m d] w fun e w' => e = .returned (.bool (eqL zs ys)) ∧ Below w.heap.size w w' := by
  by_cases hnm : n = m
  · subst hnm
    have HL := Lib.hid (hz.len.trans hy.len.symm)
    have HL' := Lib.hid hz.len
    go_enter Try.func29, Try.ntmps29
    go_wp2
    go_loopw [5] (fun i wr => ∃ k : Nat, k ≤ n ∧ i = .int .i64 k ∧ (∀ j, j < k → el zs j = el ys j) ∧ ∃ q, wr = w.drewN q) (fun i _ => n - (intOf i).toNat)
    case atStart => exact ⟨0, Nat.zero_le _, rfl, fun j hj => absurd hj (by omega), 0, rfl⟩
    case round =>
      obtain ⟨k, hk, rfl, ha, q, rfl⟩ := hrel
      have HA := Lib.hid ha
      clear ha
      by_cases hlt : k < n
      · obtain ⟨b, off, rfl, hb, hc⟩ := hz.at_ (by omega)
        obtain ⟨b', off', rfl, hb', hc'⟩ := hy.at_ (by omega)
        have hck := hc k hlt
        have hck' := hc' k hlt
        clear hc hc'
        by_cases he : el zs k = el ys k
        · have HE := Lib.hid he
          have he1 : (el zs k != el ys k) = false := by simp [he]
          clear he
          go_wp2
          go_quiet (fail)
          go_wp2
          go_roundw
          case rel =>
            refine ⟨k + 1, by omega, by go_num, fun j hj => ?_, _, rfl⟩
            rcases Nat.lt_or_ge j k with h | h
            · exact HA.out j h
            · obtain rfl : j = k := by omega
              exact HE.out
          case measure => simp [intOf]; omega
        · have HE := Lib.hid he
          have he1 : (el zs k != el ys k) = true := by simp [he]
          clear he
          go_wp2
          go_quiet (fail)
          go_wp2
          go_ret
          exact ⟨ret_bool (eqL_at HE.out).symm, below_drewN (below_drewN (Below.refl _ _) _) _⟩
      · have H : Hid (eqL zs ys = true) := eqL_all HL.out fun j hj => HA.out j (by rw [HL'.out] at hj; omega)
        go_wp2
        go_ret
        exact ⟨ret_bool H.out.symm, below_drewN (Below.refl _ _) _⟩
  · have H := Lib.hid (eqL_len (zs := zs) (ys := ys) (by rw [hz.len, hy.len]; exact hnm))
    have h1 : ((n : Int) != (m : Int)) = true := by simp; omega
    have h2 : (n != m) = true := by simp; omega
    go_enter Try.func29, Try.ntmps29
    go_wp2
    go_ret
    exact ⟨ret_bool H.out.symm, Below.refl _ _⟩

end Go.Proofs.Ytgepjbfdjnhcoaa
