/-
  Contract: impl.BasePair returns the baseline at a place.
-/
import Derived.Test.YtkmnjekpogbkkaaBaseAt
import Derived.Test.YtkmnjekpogbkkaaVisPt
import Derived.RegionIn
namespace Go.Proofs.Ytkmnjekpogbkkaa
open Go.RowKit Go.Shelf
set_option linter.unusedVariables false

attribute [local go_sem] Oper.semAt_some

theorem set1 {W : World} {a : Nat} {T : TypeId} {v0 : Value} (h : W.heap[a]? = some (.cells #[v0] T (0, 0))) (v : Value) : (W.setCell ⟨a, 0, none⟩ v).heap[a]? = some (.cells #[v] T (0, 0)) := by
  simp [World.setCell, Array.getElem?_modify, h]
theorem blk1_fz {W : World} {b : Nat} {v : Value} {t : TypeId} (h : W.heap[b]? = some (.cells #[v] t (0, 0))) : W.frozen? ⟨b, 0, none⟩ = false := by simp [World.frozen?, h]
/-- Three result variables. -/
def Tri (W : World) (s : Nat) (x y : Int) (b : Bool) : Prop :=
  W.heap[s]? = some (.cells #[.int .i64 x] 3 (0, 0)) ∧ W.heap[s + 1]? = some (.cells #[.int .i64 y] 3 (0, 0)) ∧ W.heap[s + 1 + 1]? = some (.cells #[.bool b] 4 (0, 0))
theorem Tri.put {W : World} {s : Nat} {x y : Int} {b : Bool} (h : Tri W s x y b) (u v : Int) (c : Bool) : Tri (((W.setCell ⟨s, 0, none⟩ (.int .i64 u)).setCell ⟨s + 1, 0, none⟩ (.int .i64 v)).setCell ⟨s + 1 + 1, 0, none⟩ (.bool c)) s u v c := by
  obtain ⟨h1, h2, h3⟩ := h
  refine ⟨?_, ?_, ?_⟩
  · rw [Below.heap_setCell _ ⟨s + 1 + 1, 0, none⟩ _ s (by simp; omega), Below.heap_setCell _ ⟨s + 1, 0, none⟩ _ s (by simp)]
    exact set1 h1 _
  · rw [Below.heap_setCell _ ⟨s + 1 + 1, 0, none⟩ _ (s + 1) (by simp)]
    refine set1 (v0 := .int .i64 y) ?_ _
    rw [Below.heap_setCell _ ⟨s, 0, none⟩ _ (s + 1) (by simp)]; exact h2
  · refine set1 (v0 := .bool b) ?_ _
    rw [Below.heap_setCell _ ⟨s + 1, 0, none⟩ _ (s + 1 + 1) (by simp), Below.heap_setCell _ ⟨s, 0, none⟩ _ (s + 1 + 1) (by simp; omega)]; exact h3
theorem Tri.own {X Y : World} {s B : Nat} {x y : Int} {b : Bool} {row : Option Nat} (h : Tri X s x y b) (hg : X.grownBy Y row)
    (hr : ∀ r, row = some r → B ≤ r ∧ ∃ o : Obj, X.heap[r]? = some o ∧ o.isCells = false) : Tri Y s x y b := ⟨blk_own h.1 hg hr, blk_own h.2.1 hg hr, blk_own h.2.2 hg hr⟩
theorem Tri.putObj {X : World} {s D : Nat} {x y : Int} {b : Bool} (h : Tri X s x y b) (o : Obj) (hD : s + 1 + 1 < D) : Tri (X.putObj D o) s x y b :=
  ⟨(World.putObj_heap_other (by omega)).trans h.1, (World.putObj_heap_other (by omega)).trans h.2.1, (World.putObj_heap_other (by omega)).trans h.2.2⟩

/-- What the variables hold when the pairs 'pre' have come and none was it. -/
def BI (w : World) (n t : Nat) (pre : List (Nat × Nat)) (W : World) : Prop :=
  ((W.heap[w.heap.size]? = some (.cells #[.int .i64 (n : Int)] 3 (0, 0)) ∧ W.heap[w.heap.size + 1]? = some (.cells #[.int .i64 (t : Int)] 3 (0, 0)) ∧ Tri W (w.heap.size + 1 + 1) 0 0 false ∧ NumBox W (w.heap.size + 1 + 1 + 1 + 1 + 1) n) ∧ ∀ p ∈ pre, biV n p ≠ t) ∧ Below w.heap.size w W
theorem BI_own {w : World} {n t B : Nat} (hB : w.heap.size ≤ B) : OwnFrom B (BI w n t) := by
  rintro s X Y row ⟨⟨⟨h1, h2, h3, h4⟩, h5⟩, h7⟩ hg hr
  exact ⟨⟨⟨blk_own h1 hg hr, blk_own h2 hg hr, h3.own hg hr, blk_own h4 hg hr⟩, h5⟩, h7.grown hg h7.size (fun k e => Nat.le_trans hB (hr k e).1)⟩
/-- What they hold when a pair was it. -/
def BX (w : World) (n t : Nat) (c : Code) (pre : List (Nat × Nat)) (W : World) : Prop :=
  (c = .ret ∧ ∃ pre' q, pre = pre' ++ [q] ∧ biV n q = t ∧ Tri W (w.heap.size + 1 + 1) (q.1 : Nat) (q.2 : Nat) true) ∧ Below w.heap.size w W
theorem BX_own {w : World} {n t B : Nat} (hB : w.heap.size ≤ B) (c : Code) : OwnFrom B (BX w n t c) := by
  rintro s X Y row ⟨⟨h1, pre', q, h2, h3, h4⟩, h7⟩ hg hr
  exact ⟨⟨h1, pre', q, h2, h3, h4.own hg hr⟩, h7.grown hg h7.size (fun k e => Nat.le_trans hB (hr k e).1)⟩

theorem BI_size (w : World) (n t : Nat) : ((((((w.alloc (.cells #[.int .i64 (n : Int)] 3)).alloc (.cells #[.int .i64 (t : Int)] 3)).alloc (.cells #[.int .i64 0] 3)).alloc (.cells #[.int .i64 0] 3)).alloc (.cells #[.bool false] 4)).alloc (.cells #[.int .i64 (n : Int)] 3)).heap.size = w.heap.size + 6 := by simp
theorem BI_start (w : World) (n t : Nat) : BI w n t [] ((((((w.alloc (.cells #[.int .i64 (n : Int)] 3)).alloc (.cells #[.int .i64 (t : Int)] 3)).alloc (.cells #[.int .i64 0] 3)).alloc (.cells #[.int .i64 0] 3)).alloc (.cells #[.bool false] 4)).alloc (.cells #[.int .i64 (n : Int)] 3)) := by
  have hb : ∀ (W : World) (o : Obj), w.heap.size ≤ W.heap.size → Below w.heap.size w W → Below w.heap.size w (W.alloc o) := fun W o h k => k.alloc h o
  have hk : ∀ {W : World} {b : Nat} {x : Obj} (o : Obj), W.heap[b]? = some x → (W.alloc o).heap[b]? = some x := fun o h => (Below.heap_alloc _ _ _ (blk_lt h)).trans h
  have hn : ∀ (W : World) (o : Obj) (b : Nat), b = W.heap.size → (W.alloc o).heap[b]? = some o := fun W o b h => by rw [h]; exact heap_alloc_new W o
  refine ⟨⟨⟨?_, ?_, ⟨?_, ?_, ?_⟩, ?_⟩, fun p hp => absurd hp (by simp)⟩, ?_⟩
  · exact hk _ (hk _ (hk _ (hk _ (hk _ (hn _ _ _ rfl)))))
  · exact hk _ (hk _ (hk _ (hk _ (hn _ _ _ (by simp)))))
  · exact hk _ (hk _ (hk _ (hn _ _ _ (by simp))))
  · exact hk _ (hk _ (hn _ _ _ (by simp)))
  · exact hk _ (hn _ _ _ (by simp))
  · exact hn _ _ _ (by simp)
  · exact hb _ _ (by simp; omega) (hb _ _ (by simp; omega) (hb _ _ (by simp; omega) (hb _ _ (by simp; omega) (hb _ _ (by simp) (hb _ _ (Nat.le_refl _) (Below.refl _ _))))))

set_option maxRecDepth 100000 in
set_option maxHeartbeats 4000000 in
theorem iBasePair_any (n t : Nat) (q : Nat × Nat) (w : World) (hn1 : 2 ≤ n) (hn2 : n ≤ 7) (hq : (rows n n)[t]? = some q) :
    Calls Try.prog 16 #[.int .i64 (n : Int), .int .i64 (t : Int)] w fun e w' => e = .returned (.tuple #[.int .i64 (q.1 : Nat), .int .i64 (q.2 : Nat), .bool true]) ∧ Below w.heap.size w w' := by
  obtain ⟨ht, rfl'⟩ := List.getElem?_eq_some_iff.1 hq
  have H1 : Hid (q ∈ rows n n ∧ biV n q = t) := ⟨List.mem_of_getElem? hq, by rw [← rfl']; exact biV_at hn1 hn2 ht⟩
  have H2 : Hid (∀ p ∈ rows n n, biV n p = t → p = q) := fun p hp h => by rw [← rfl']; exact biV_found hn1 hn2 ht hp h
  have htl : t ≤ 49 := by have := rows_len hn2 n; omega
  clear ht hq rfl'
  have hmx : Try.prog.follows .mixedOrders = true := by kernel_rfl
  refine (callsIn_wide (n := 3)).1 ?_
  refine callsIn_of_wp_marks Try.func16 rfl trivial ?_ rfl
  simp only [Try.ntmps16, List.size_toArray, List.length_cons, List.length_nil, Nat.reduceAdd, Nat.reduceSub, Array.replicate_succ, Array.replicate_zero, List.push_toArray, List.append_toArray, List.nil_append, List.cons_append]
  gi_wp2
  refine ⟨trivial, ?_⟩
  refine (callsIn_wide.2 (bases_any n _)).mono ?_
  rintro e w1 ⟨rfl, rfl⟩
  have h0I := BI_start w n t
  have hsz := BI_size w n t
  gi_wp2
  generalize (((((w.alloc (.cells #[.int .i64 (n : Int)] 3)).alloc (.cells #[.int .i64 (t : Int)] 3)).alloc (.cells #[.int .i64 0] 3)).alloc (.cells #[.int .i64 0] 3)).alloc (.cells #[.bool false] 4)).alloc (.cells #[.int .i64 (n : Int)] 3) = W3 at h0I hsz ⊢
  have HSZ := Lib.hid hsz
  clear hsz
  refine wpIn_rangeFunc_ownG rfl (by omega) (gf := 57) (lb := #[.pointer (some ⟨w.heap.size + 1 + 1 + 1 + 1 + 1, 0, none⟩)]) rfl trivial (enters_of Try.func57 (by kernel_rfl) rfl)
    (bases_stops _ (by omega) (w.heap.size + 1 + 1 + 1 + 1 + 1) n hn1 hn2 W3 (by rw [HSZ.out]; omega) h0I.1.1.2.2.2) (fun h k => k.trans h)
    (fun W l o o' hl _ _ _ => World.putObj_heap_other (by rw [HSZ.out] at hl; omega)) (Below.refl _ _) (fun _ => rfl)
    (BI w n t) (BX w n t) (BI_own (by rw [HSZ.out]; omega)) (fun c => BX_own (by rw [HSZ.out]; omega) c) h0I ?a1 ?assign ?body ?done ?stop
  case assign =>
    intro l p W K hK
    dsimp only [enc2]
    gi_wp2
    exact hK
  case body =>
    rintro l pre p W ⟨⟨⟨h1, h2, h3, h4⟩, h5⟩, h7⟩ hlen
    have q1 := blk1_cell h1
    have q2 := blk1_cell h2
    have q3 := blk1_cell h3.1
    have q4 := blk1_cell h3.2.1
    have q5 := blk1_cell h3.2.2
    have f3 := blk1_fz h3.1
    have f4 := blk1_fz h3.2.1
    have f5 := blk1_fz h3.2.2
    have H5 := Lib.hid h5
    have HT := Lib.hid h3
    clear h3 h5
    have HI : Hid (∀ W : World, Calls Try.prog 44 #[.int .i64 (n : Int), .int .i64 (p.1 : Int), .int .i64 (p.2 : Int)] W fun e w' => e = .returned (.int .i64 (biV n p)) ∧ W = w') := fun W => iBaseIndex_any n p W hn1 hn2
    generalize hv : biV n p = v at HI
    have HV := Lib.hid hv
    clear hv
    by_cases hvt : v = (t : Int)
    · subst hvt
      have HR : Hid (KeepsFrom W3.heap.size W (((W.setCell ⟨w.heap.size + 1 + 1, 0, none⟩ (.int .i64 (p.1 : Nat))).setCell ⟨w.heap.size + 1 + 1 + 1, 0, none⟩ (.int .i64 (p.2 : Nat))).setCell ⟨w.heap.size + 1 + 1 + 1 + 1, 0, none⟩ (.bool true)).drew ∧ BX w n t .ret (pre ++ [p]) (((W.setCell ⟨w.heap.size + 1 + 1, 0, none⟩ (.int .i64 (p.1 : Nat))).setCell ⟨w.heap.size + 1 + 1 + 1, 0, none⟩ (.int .i64 (p.2 : Nat))).setCell ⟨w.heap.size + 1 + 1 + 1 + 1, 0, none⟩ (.bool true)).drew) :=
        ⟨((((KeepsOthers.setCell _ _ _).trans (KeepsOthers.setCell _ _ _)).trans (KeepsOthers.setCell _ _ _)).trans (KeepsOthers.drew _)).from _, ⟨rfl, pre, p, rfl, HV.out, HT.out.put _ _ _⟩,
          below_drewN (((h7.setCell (by simp; omega) _).setCell (by simp; omega) _).setCell (by simp; omega) _) 1⟩
      gi_wp2
      gi_region_with_o (refine ⟨trivial, ?_⟩; gi_at_call 44; refine (CallsIn.inRound l (callsIn_wide.2 (HI.out _))).mono ?_; rintro e w' ⟨rfl, rfl⟩)
      all_goals gi_wp2
      all_goals exact HR.out
    · have hq1 : (v == (t : Int)) = false := by simp; exact hvt
      have HR : Hid (KeepsFrom W3.heap.size W W.drew ∧ W.drew.heap[w.heap.size + 1 + 1 + 1 + 1 + 1]? = W.heap[w.heap.size + 1 + 1 + 1 + 1 + 1]? ∧ BI w n t (pre ++ [p]) W.drew) :=
        ⟨(KeepsOthers.drew _).from _, rfl, ⟨⟨h1, h2, HT.out, h4⟩, fun r hr => by
          rcases List.mem_append.1 hr with hr | hr
          · exact H5.out r hr
          · obtain rfl : r = p := by simpa using hr
            rw [HV.out]; exact hvt⟩, below_drewN h7 1⟩
      gi_wp2
      gi_region_with_o (refine ⟨trivial, ?_⟩; gi_at_call 44; refine (CallsIn.inRound l (callsIn_wide.2 (HI.out _))).mono ?_; rintro e w' ⟨rfl, rfl⟩)
      all_goals gi_wp2
      all_goals exact HR.out
  case done =>
    rintro D ys W hD rfl ⟨⟨h1, h5⟩, h7⟩ hK
    exact absurd H1.out.2 (h5 q H1.out.1)
  case stop =>
    rintro D c pre W hD hpre ⟨⟨rfl, pre', p, rfl, h3, h4⟩, h7⟩ hK
    obtain rfl : p = q := H2.out p (hpre.subset (by simp)) h3
    have hDw : w.heap.size + 1 + 1 + 1 + 1 + 1 < D := by rw [HSZ.out] at hD; omega
    have h4' := h4.putObj (.deferred none) (D := D) (by omega)
    have r1 := blk1_cell h4'.1
    have r2 := blk1_cell h4'.2.1
    have r3 := blk1_cell h4'.2.2
    gi_wp2
    refine ⟨by simp, .inl ⟨_, _, rfl, run_takeDeferred hK, ?_⟩⟩
    exact ⟨.tuple #[.int .i64 (p.1 : Nat), .int .i64 (p.2 : Nat), .bool true], by simp [results, Try.results16, go_sem, r1, r2, r3], rfl, h7.trans (belowK_b (w := w) (Nat.le_refl _) W D _ _ (by omega) hK rfl rfl)⟩

end Go.Proofs.Ytkmnjekpogbkkaa
