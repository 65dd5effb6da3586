/-
  Contract: impl.VisPoint returns the visibilities of a point source.
-/
import Derived.Test.YtkmnjekpogbkkaaBases
import Derived.Test.YtkmnjekpogbkkaaDelayP
import Derived.Test.YtkmnjekpogbkkaaVisA
import Derived.Test.YtkmnjekpogbkkaaBoxT
import Derived.Maps.AppendAt
namespace Go.Proofs.Ytkmnjekpogbkkaa
open Go.RowKit Go.Shelf
set_option linter.unusedVariables false

attribute [local go_sem] Oper.semAt_some

/-- VisPoint. -/
def vpL (ps : List (Int × Int)) (x y amp : Int) (pre : List (Nat × Nat)) : List (Int × Int) := pre.map fun p => (amp, dpV ps (p.1 : Int) (p.2 : Int) x y)
theorem vpL_len (ps : List (Int × Int)) (x y amp : Int) (pre : List (Nat × Nat)) : (vpL ps x y amp pre).length = pre.length := by simp [vpL]
theorem vpL_snoc (ps : List (Int × Int)) (x y amp : Int) (pre : List (Nat × Nat)) (p : Nat × Nat) : vpL ps x y amp (pre ++ [p]) = vpL ps x y amp pre ++ [(amp, dpV ps (p.1 : Int) (p.2 : Int) x y)] := by simp [vpL]
def vpOk (ps : List (Int × Int)) (x y amp : Int) : Bool := avB ps && (plc x y && betB amp 1 1000000)
def vpV (ps : List (Int × Int)) (x y amp : Int) : List (Int × Int) := if vpOk ps x y amp then vpL ps x y amp (rows ps.length ps.length) else []
theorem vp_no {ps : List (Int × Int)} {x y amp : Int} (h : vpOk ps x y amp = false) : vpV ps x y amp = [] := by simp [vpV, h]
theorem vp_yes {ps : List (Int × Int)} {x y amp : Int} (h : vpOk ps x y amp = true) : vpV ps x y amp = vpL ps x y amp (rows ps.length ps.length) := by simp [vpV, h]
theorem vp_true {ps : List (Int × Int)} {x y amp : Int} : vpOk ps x y amp = true ↔ avB ps = true ∧ plc x y = true ∧ 1 ≤ amp ∧ amp ≤ 1000000 := by simp only [vpOk, Bool.and_eq_true, betB_true]
theorem vpV_len (ps : List (Int × Int)) (x y amp : Int) : (vpV ps x y amp).length ≤ 49 := by
  cases e : vpOk ps x y amp
  · rw [vp_no e]; simp
  · have hl := av_len (vp_true.1 e).1
    rw [vp_yes e, vpL_len]
    have := rows_len hl.2 ps.length
    omega

/-- A block of cells lies as it lay where one that is no cells was turned. -/
theorem blk_lt {W : World} {b : Nat} {o : Obj} (h : W.heap[b]? = some o) : b < W.heap.size := (Array.getElem?_eq_some_iff.1 h).1
theorem blk1_cell {W : World} {b : Nat} {v : Value} {t : TypeId} (h : W.heap[b]? = some (.cells #[v] t (0, 0))) : W.cell? ⟨b, 0, none⟩ = some v := by rw [cell_of_row _ _ 0 _ _ _ h]; rfl
theorem blk_own {W W' : World} {b B : Nat} {cs : Array Value} {t : TypeId} {fr : Nat × Nat} {row : Option Nat} (h : W.heap[b]? = some (.cells cs t fr)) (hg : W.grownBy W' row)
    (hr : ∀ r, row = some r → B ≤ r ∧ ∃ o : Obj, W.heap[r]? = some o ∧ o.isCells = false) : W'.heap[b]? = some (.cells cs t fr) :=
  (hg.block b (blk_lt h) (fun e => by obtain ⟨_, o, ho, hc⟩ := hr b e.symm; rw [h] at ho; cases ho; cases hc)).trans h
theorem blk_not_row {W : World} {b base size k : Nat} {cs : Array Value} {t e : TypeId} {fr : Nat × Nat} {v : Value} {xs : List Value} (h : W.heap[b]? = some (.cells cs t fr)) (hte : t ≠ e) (hr : W.ownsRow base e size v k xs) : some b ≠ v.ownBlock := by
  rcases hr.2 with ⟨rfl, _⟩ | ⟨g, cap, cur, rfl, _, hgb, _⟩
  · simp [Value.ownBlock]
  · intro e'
    obtain rfl : b = g := by simpa [Value.ownBlock] using e'
    have := h.symm.trans hgb
    simp at this
    exact hte this.2.1
theorem below_others {W W' : World} (h : Below W.heap.size W W') : KeepsOthers W W' := ⟨h.size, fun k o hk _ => (h.block k (blk_lt hk)).trans hk⟩

theorem app_kept {W wx : World} {b Bo base size k : Nat} {cs : Array Value} {t e : TypeId} {fr : Nat × Nat} {v : Value} {xs : List Value} {tmp : Obj} (h : W.heap[b]? = some (.cells cs t fr)) (hte : t ≠ e) (hrow : W.ownsRow base e size v k xs)
    (hgrow : (W.alloc tmp).grownBy wx v.ownBlock) (hne : b ≠ Bo) (v' : Value) : (wx.setCell ⟨Bo, 0, none⟩ v').heap[b]? = some (.cells cs t fr) := by
  have h1 : (W.alloc tmp).heap[b]? = some (.cells cs t fr) := (Below.heap_alloc W tmp b (blk_lt h)).trans h
  have h2 := (hgrow.block b (blk_lt h1) (blk_not_row h hte hrow)).trans h1
  exact (Below.heap_setCell wx ⟨Bo, 0, none⟩ v' b hne).trans h2
theorem row_below {W W' : World} {base size k : Nat} {e : TypeId} {v : Value} {xs : List Value} (h : W.ownsRow base e size v k xs) (hb : Below W.heap.size W W') : W'.ownsRow base e size v k xs :=
  h.kept (row := none) ⟨hb.os, hb.tape, hb.output, hb.size, fun k hk _ => hb.block k hk⟩ (by cases e : v.ownBlock with | none => exact .inl rfl | some k => exact .inr (by simp))
theorem row_form {W : World} {base size k : Nat} {e : TypeId} {v : Value} {xs : List Value} (h : W.ownsRow base e size v k xs) : ∃ A c, v = .slice A k c := by
  rcases h.2 with ⟨rfl, h0⟩ | ⟨g, cap, cur, rfl, _⟩
  · exact ⟨none, 0, by rw [h0]⟩
  · exact ⟨_, _, rfl⟩

/-- What the loop's variables hold when the pairs 'pre' have come. -/
def VI (w : World) (Bo Bn : Nat) (A : Option Addr) (n c : Nat) (ps : List (Int × Int)) (x y amp : Int) (pre : List (Nat × Nat)) (W : World) : Prop :=
  (W.heap[w.heap.size]? = some (.cells #[.slice A n c] 23 (0, 0)) ∧ W.heap[w.heap.size + 1]? = some (.cells #[.int .i64 x, .int .i64 y] 25 (0, 0)) ∧ W.heap[w.heap.size + 1 + 1]? = some (.cells #[.int .i64 amp] 3 (0, 0)) ∧ NumBox W Bn n ∧
    ∃ v, Boxed W Bo 28 v ∧ W.ownsRow w.heap.size 35 2 v pre.length (flat (vpL ps x y amp pre))) ∧ Below w.heap.size w W
theorem VI_own {w : World} {Bo Bn : Nat} {A : Option Addr} {n c : Nat} {ps : List (Int × Int)} {x y amp : Int} {B : Nat} (hB : w.heap.size ≤ B) : OwnFrom B (VI w Bo Bn A n c ps x y amp) := by
  rintro s X Y row ⟨⟨h1, h2, h3, h4, v, h5, h6⟩, h7⟩ hg hr
  refine ⟨⟨blk_own h1 hg hr, blk_own h2 hg hr, blk_own h3 hg hr, blk_own h4 hg hr, v, blk_own h5 hg hr, h6.kept hg ?_⟩, h7.grown hg h7.size (fun k e => Nat.le_trans hB (hr k e).1)⟩
  rcases h6.2 with ⟨rfl, _⟩ | ⟨g, cap, cur, rfl, _, hgb, _⟩
  · exact .inl rfl
  · refine .inr fun e' => ?_
    obtain ⟨_, o, ho, hc⟩ := hr g (by simpa [Value.ownBlock] using e'.symm)
    rw [hgb] at ho; cases ho; cases hc

set_option maxRecDepth 100000 in
set_option maxHeartbeats 4000000 in
theorem iVisPoint_any (A : Option Addr) (n c : Nat) (ps : List (Int × Int)) (x y amp : Int) (w : World) (hz : Prs w A n ps) (hn : n ≤ 1048577) (hc : n ≤ c) :
    Calls Try.prog 11 #[.slice A n c, .agg #[.int .i64 x, .int .i64 y], .int .i64 amp] w (RetPB 35 w (vpV ps x y amp) (vpOk ps x y amp)) := by
  have HL := Lib.hid hz.len
  have hba : Below w.heap.size w (((w.alloc (.cells #[.slice A n c] 23)).alloc (.cells #[.int .i64 x, .int .i64 y] 25)).alloc (.cells #[.int .i64 amp] 3)) := (((Below.refl _ _).alloc (Nat.le_refl _) _).alloc (by simp) _).alloc (by simp; omega) _
  have hz0 := hz.below hba
  have hD : BoxT 25 (((w.alloc (.cells #[.slice A n c] 23)).alloc (.cells #[.int .i64 x, .int .i64 y] 25)).alloc (.cells #[.int .i64 amp] 3)) (w.heap.size + 1) x y := by
    have h := BoxT.new 25 (w.alloc (.cells #[.slice A n c] 23)) x y
    rw [World.size_alloc] at h
    exact h.below (below_alloc _ _)
  have hM : (((w.alloc (.cells #[.slice A n c] 23)).alloc (.cells #[.int .i64 x, .int .i64 y] 25)).alloc (.cells #[.int .i64 amp] 3)).heap[w.heap.size + 1 + 1]? = some (.cells #[.int .i64 amp] 3 (0, 0)) := by
    have h := heap_alloc_new ((w.alloc (.cells #[.slice A n c] 23)).alloc (.cells #[.int .i64 x, .int .i64 y] 25)) (.cells #[.int .i64 amp] 3)
    rw [World.size_alloc, World.size_alloc] at h
    exact h
  have hLs : (((w.alloc (.cells #[.slice A n c] 23)).alloc (.cells #[.int .i64 x, .int .i64 y] 25)).alloc (.cells #[.int .i64 amp] 3)).heap[w.heap.size]? = some (.cells #[.slice A n c] 23 (0, 0)) :=
    (Below.heap_alloc _ _ _ (by simp; omega)).trans ((Below.heap_alloc _ _ _ (by simp)).trans (heap_alloc_new w _))
  cases hv : avB ps
  · have HA := Lib.hid hv
    have H0 : Hid (vpOk ps x y amp = false) := by unfold vpOk; rw [hv]; rfl
    clear hv
    go_enter Try.func11, Try.ntmps11
    go_wp2_with fail
    refine (iArrayV_any _ _ _ ps _ hz0 hn hc).mono ?_
    rintro e w1 ⟨he, hb1⟩
    rw [HA.out] at he
    subst he
    have hB := below_step hba hb1
    go_wp2
    go_ret2
    exact ⟨_, _, _, by rw [H0.out]; rfl, by rw [vp_no H0.out]; exact OwnP.nil _ _ _, hB⟩
  have HA := Lib.hid hv
  cases hp : plc x y
  · have HP := Lib.hid hp
    have H0 : Hid (vpOk ps x y amp = false) := by unfold vpOk; rw [hv, hp]; rfl
    clear hv hp
    go_enter Try.func11, Try.ntmps11
    go_wp2_with fail
    refine (iArrayV_any _ _ _ ps _ hz0 hn hc).mono ?_
    rintro e w1 ⟨he, hb1⟩
    rw [HA.out] at he
    subst he
    have hB := below_step hba hb1
    have c1 := (hD.below hb1).c0
    have c2 := (hD.below hb1).c1
    go_wp2_with fail
    refine (isPlace_any _ _ _).mono ?_
    rintro e w2 ⟨he, hb2⟩
    rw [HP.out] at he
    subst he
    have hB2 := below_step hB hb2
    go_wp2
    go_ret2
    exact ⟨_, _, _, by rw [H0.out]; rfl, by rw [vp_no H0.out]; exact OwnP.nil _ _ _, hB2⟩
  have HP := Lib.hid hp
  cases ha : betB amp 1 1000000
  · by_cases a1 : amp < 1
    · have a1' := a1
      have H0 : Hid (vpOk ps x y amp = false) := by unfold vpOk; rw [hv, hp, ha]; rfl
      clear hv hp ha
      go_enter Try.func11, Try.ntmps11
      go_wp2_with fail
      refine (iArrayV_any _ _ _ ps _ hz0 hn hc).mono ?_
      rintro e w1 ⟨he, hb1⟩
      rw [HA.out] at he
      subst he
      have hB := below_step hba hb1
      have c1 := (hD.below hb1).c0
      have c2 := (hD.below hb1).c1
      go_wp2_with fail
      refine (isPlace_any _ _ _).mono ?_
      rintro e w2 ⟨he, hb2⟩
      rw [HP.out] at he
      subst he
      have hB2 := below_step hB hb2
      have c3 := blk1_cell (((hb1.block _ (blk_lt hM)).trans hM))
      have c4 := blk1_cell ((hb2.block _ (blk_lt ((hb1.block _ (blk_lt hM)).trans hM))).trans ((hb1.block _ (blk_lt hM)).trans hM))
      go_wp2
      go_ret2
      exact ⟨_, _, _, by rw [H0.out]; rfl, by rw [vp_no H0.out]; exact OwnP.nil _ _ _, hB2⟩
    · have a2 : 1000000 < amp := by have := betB_false.1 ha; omega
      have a1' : 1 ≤ amp := by omega
      clear a1
      have H0 : Hid (vpOk ps x y amp = false) := by unfold vpOk; rw [hv, hp, ha]; rfl
      clear hv hp ha
      go_enter Try.func11, Try.ntmps11
      go_wp2_with fail
      refine (iArrayV_any _ _ _ ps _ hz0 hn hc).mono ?_
      rintro e w1 ⟨he, hb1⟩
      rw [HA.out] at he
      subst he
      have hB := below_step hba hb1
      have c1 := (hD.below hb1).c0
      have c2 := (hD.below hb1).c1
      go_wp2_with fail
      refine (isPlace_any _ _ _).mono ?_
      rintro e w2 ⟨he, hb2⟩
      rw [HP.out] at he
      subst he
      have hB2 := below_step hB hb2
      have c3 := blk1_cell (((hb1.block _ (blk_lt hM)).trans hM))
      have c4 := blk1_cell ((hb2.block _ (blk_lt ((hb1.block _ (blk_lt hM)).trans hM))).trans ((hb1.block _ (blk_lt hM)).trans hM))
      go_wp2
      go_ret2
      exact ⟨_, _, _, by rw [H0.out]; rfl, by rw [vp_no H0.out]; exact OwnP.nil _ _ _, hB2⟩
  have H0 : Hid (vpOk ps x y amp = true) := by unfold vpOk; rw [hv, hp, ha]; rfl
  obtain ⟨ha1, ha2⟩ := betB_true.1 ha
  have hlen := av_len hv
  rw [HL.out] at hlen
  obtain ⟨hn1, hn2⟩ := hlen
  clear hv hp ha
  obtain ⟨i0, hi, hzz0, hzz1, hzz2⟩ := info_parts infoVisA
  refine (callsIn_wide (n := 3)).1 ?_
  refine callsIn_of_wp_marks Try.func11 rfl trivial ?_ rfl
  simp only [Try.ntmps11, List.size_toArray, List.length_cons, List.length_nil, Nat.reduceAdd, Nat.reduceSub, Array.replicate_succ, Array.replicate_zero, List.push_toArray, List.append_toArray, List.nil_append, List.cons_append]
  gi_wp2
  refine ⟨trivial, ?_⟩
  refine (callsIn_wide.2 (iArrayV_any A n c ps _ hz0 hn hc)).mono ?_
  rintro e w1 ⟨he, hb1⟩
  rw [HA.out] at he
  subst he
  have D1 := hD.below hb1
  have c1 := D1.c0
  have c2 := D1.c1
  have L1 := (hb1.block _ (blk_lt hLs)).trans hLs
  have M1 := (hb1.block _ (blk_lt hM)).trans hM
  have B1 := below_step hba hb1
  clear hD hM hLs hba
  gi_wp2
  refine ⟨trivial, ?_⟩
  refine (callsIn_wide.2 (isPlace_any x y _)).mono ?_
  rintro e w2 ⟨he, hb2⟩
  rw [HP.out] at he
  subst he
  have D2 : w2.heap[w.heap.size + 1]? = some (.cells #[.int .i64 x, .int .i64 y] 25 (0, 0)) := D1.below hb2
  have L2 := (hb2.block _ (blk_lt L1)).trans L1
  have M2 := (hb2.block _ (blk_lt M1)).trans M1
  have B2 := below_step B1 hb2
  have cM := blk1_cell M2
  have cL : (w2.alloc (.cells #[.slice none 0 0] 28)).cell? ⟨w.heap.size, 0, none⟩ = some (.slice A n c) := ((below_alloc w2 (.cells #[.slice none 0 0] 28)).cell (p := ⟨w.heap.size, 0, none⟩) (blk_lt L2)).trans (blk1_cell L2)
  clear D1 L1 M1 c1 c2 hb1 hb2 B1
  gi_wp2
  refine ⟨trivial, ?_⟩
  refine (callsIn_wide.2 (bases_any n _)).mono ?_
  rintro e w3 ⟨rfl, rfl⟩
  have hs2 := B2.size
  have nb : NumBox ((w2.alloc (.cells #[.slice none 0 0] 28)).alloc (.cells #[.int .i64 (n : Int)] 3)) (w2.heap.size + 1) n := by
    have h := heap_alloc_new (w2.alloc (.cells #[.slice none 0 0] 28)) (.cells #[.int .i64 (n : Int)] 3)
    rw [World.size_alloc] at h
    exact h
  have ob : Boxed ((w2.alloc (.cells #[.slice none 0 0] 28)).alloc (.cells #[.int .i64 (n : Int)] 3)) w2.heap.size 28 (.slice none 0 0) := (Boxed.new w2 _ _).alloc _
  have B3 : Below w.heap.size w ((w2.alloc (.cells #[.slice none 0 0] 28)).alloc (.cells #[.int .i64 (n : Int)] 3)) := (B2.alloc hs2 _).alloc (by simp; omega) _
  have K3 : ∀ b, b < w2.heap.size → ((w2.alloc (.cells #[.slice none 0 0] 28)).alloc (.cells #[.int .i64 (n : Int)] 3)).heap[b]? = w2.heap[b]? := fun b hb => (Below.heap_alloc _ _ _ (by simp; omega)).trans (Below.heap_alloc _ _ _ hb)
  have hsz : ((w2.alloc (.cells #[.slice none 0 0] 28)).alloc (.cells #[.int .i64 (n : Int)] 3)).heap.size = w2.heap.size + 1 + 1 := by simp
  have h0I : VI w w2.heap.size (w2.heap.size + 1) A n c ps x y amp [] ((w2.alloc (.cells #[.slice none 0 0] 28)).alloc (.cells #[.int .i64 (n : Int)] 3)) :=
    ⟨⟨(K3 _ (blk_lt L2)).trans L2, (K3 _ (blk_lt D2)).trans D2, (K3 _ (blk_lt M2)).trans M2, nb, _, ob, World.ownsRow_nil _ _ _ _⟩, B3⟩
  have HSZ := Lib.hid hsz
  have hlt2 : w.heap.size + 1 + 1 < w2.heap.size := blk_lt M2
  clear K3 hsz cM cL L2 M2 D2 ob B3
  gi_wp2
  generalize (w2.alloc (.cells #[.slice none 0 0] 28)).alloc (.cells #[.int .i64 (n : Int)] 3) = W3 at nb h0I HSZ ⊢
  refine wpIn_rangeFunc_ownG rfl (by omega) (gf := 57) (lb := #[.pointer (some ⟨w2.heap.size + 1, 0, none⟩)]) rfl trivial (enters_of Try.func57 (by kernel_rfl) rfl)
    (bases_stops _ (by omega) (w2.heap.size + 1) n hn1 hn2 W3 (by rw [HSZ.out]; omega) nb) (fun h k => k.trans h)
    (fun W l o o' hl _ _ _ => World.putObj_heap_other (by rw [HSZ.out] at hl; omega)) (Below.refl _ _) (fun _ => rfl)
    (VI w w2.heap.size (w2.heap.size + 1) A n c ps x y amp) (fun _ _ _ => False) (VI_own (by rw [HSZ.out]; omega)) (fun _ _ _ _ _ hs _ _ => hs) h0I ?a1 ?assign ?body ?done ?stop
  case assign =>
    intro l p W K hK
    dsimp only [enc2]
    gi_wp2
    exact hK
  case body =>
    rintro l pre p W ⟨⟨h1, h2, h3, h4, v, h5, h6⟩, h7⟩ hlen
    have q1 := blk1_cell h1
    have q2 := BoxT.c0 (show BoxT 25 W (w.heap.size + 1) x y from h2)
    have q3 := BoxT.c1 (show BoxT 25 W (w.heap.size + 1) x y from h2)
    have hzW := hz.below h7
    gi_wp2
    refine ⟨trivial, ?_⟩
    refine (CallsIn.inRound l (callsIn_wide.2 (iDelayPhase_any _ _ _ ps _ _ _ _ _ hzW hn hc))).mono ?_
    rintro e w1 ⟨rfl, hb1⟩
    clear q1 q2 q3
    have g1 := (hb1.block _ (blk_lt h1)).trans h1
    have g2 := (hb1.block _ (blk_lt h2)).trans h2
    have g3 := (hb1.block _ (blk_lt h3)).trans h3
    have g4 := (hb1.block _ (blk_lt h4)).trans h4
    have g5 : Boxed w1 w2.heap.size 28 v := (hb1.block _ (blk_lt h5)).trans h5
    have g6 := row_below h6 hb1
    have B1' := below_step h7 hb1
    have hs1 := B1'.size
    have q4 := blk1_cell g3
    have q5 := g5.cell
    generalize hph : dpV ps (p.1 : Int) (p.2 : Int) x y = ph
    have HPH := Lib.hid hph
    clear hph
    gi_wp2_with (gi_at_builtin; refine wpListIn_append_own _ rfl _ _ 28 rfl w.heap.size 35 i0 (.agg #[.int .i64 0, .int .i64 0]) 2 16 Try.underlying28 hi hzz0 hzz1 hzz2 rfl (by decide) _ _ _ rfl (g6.alloc _) ⟨w1.heap.size, 0, none⟩ 1 1 (flat [(amp, ph)]) rfl rfl (OwnP.lit1 35 w1 amp ph).prs.cells flat_one_cell (by simp only [maxLen]; omega) (by omega) (by simp; omega) ?_; intro v' wx hown' hgrow _; obtain ⟨g', cap', rfl⟩ := ownsRow_succ hown'; obtain ⟨hv1, hv2, hr2, hk2, hb2⟩ := g5.appended (by decide) g6 hs1 hs2 hown' hgrow; have hc1 := hv1.cell; have hf1 := hv1.frozen)
    have f4 := app_kept (Bo := w2.heap.size) g4 (by decide) g6 hgrow (by omega) (.slice (some ⟨g', 0, none⟩) (pre.length + 1) cap')
    refine ⟨((below_others hb1).trans hk2).from _, f4.trans h4.symm, ⟨app_kept g1 (by decide) g6 hgrow (by omega) _, app_kept g2 (by decide) g6 hgrow (by omega) _, app_kept g3 (by decide) g6 hgrow (by omega) _, f4, _, hv2, ?_⟩, B1'.trans hb2⟩
    rw [List.length_append, vpL_snoc, flat_append, HPH.out]
    exact hr2
  case done =>
    rintro D ys W hD rfl ⟨⟨h1, h2, h3, h4, v, h5, h6⟩, h7⟩ hK
    obtain ⟨A', c', rfl⟩ := row_form h6
    have q5 := h5.cell
    have HV : Hid (vpV ps x y amp = vpL ps x y amp (rows n n)) := by have := vp_yes H0.out; rw [HL.out] at this; exact this
    have hDw : w.heap.size ≤ D := by rw [HSZ.out] at hD; omega
    gi_wp2
    refine ⟨by simp, .inl ⟨_, _, rfl, run_takeDeferred hK, ?_⟩⟩
    exact ⟨_, results_tmp2 rfl _ _ _, _, _, _, by rw [H0.out]; rfl, by rw [HV.out]; exact ownsRow_putObj h6 _ hK rfl, h7.trans (belowK_b (w := w) (Nat.le_refl _) W D _ _ hDw hK rfl rfl)⟩
  case stop =>
    rintro D c pre W _ _ h _
    exact h.elim

end Go.Proofs.Ytkmnjekpogbkkaa
