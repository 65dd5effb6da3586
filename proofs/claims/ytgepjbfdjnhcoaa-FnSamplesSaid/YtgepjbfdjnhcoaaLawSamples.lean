/-
  The walks of laws.FnSamples and FnLevels.
-/
import Derived.Test.YtgepjbfdjnhcoaaLevels
import Derived.Test.YtgepjbfdjnhcoaaShiftF
import Derived.Test.YtgepjbfdjnhcoaaDrawOne
import Derived.Test.YtgepjbfdjnhcoaaDrawVal
import Derived.Test.YtgepjbfdjnhcoaaReader
namespace Go.Proofs.Ytgepjbfdjnhcoaa
open Go.RowKit
set_option linter.unusedVariables false

theorem wpList_wanted {P : Program} {ops : Array Oper} {Q : Exit → Act → World → Prop} {a : Act} {w : World} {rest : List Oper} {o : Oper} (hw : Region.wanted o (yielded ops a.tmps) = true)
    (h : ∀ K : Act → World → Prop, (∀ a w, wpList P ops Q rest a w → K a w) → o.wp P a w K Q) : wpList P ops Q (o :: rest) a w :=
  wpList_step fun K hK => by rw [if_pos hw]; exact h K hK

/-- append([]int{}, src...) where src is a row of one's own, under a guard that says yes. -/
theorem wpList_appendG {ops : Array Oper} {rest : List Oper} {o : Oper} {a : Act} {Q : Exit → Act → World → Prop} (hw : Region.wanted o (yielded ops a.tmps) = true) (s x : Operand)
    (ho : o.op = .call { callee := .builtin .append, args := #[s, x], argTypes := #[24, 24] })
    (W : World) (base : Nat) (A : Option Addr) (n c : Nat) (zs : List Int) (base' : Nat) (b : Nat) (m d : Nat) (ys : List Int) (hs : a.eval s = .slice A n c) (hx : a.eval x = .slice (some ⟨b, 0, none⟩) m d)
    (hO : OwnI W base A n c zs) (hS : OwnI W base' (some ⟨b, 0, none⟩) m d ys) (hn : n + m ≤ 1048577) (hb : base ≤ W.heap.size)
    (h : ∀ A' c' w', OwnI w' base A' (n + m) c' (zs ++ ys) → W.grownBy w' (Value.slice A n c).ownBlock → wpList Try.prog ops Q rest (a.put o.dst (.slice A' (n + m) c')) w') :
    wpList Try.prog ops Q (o :: rest) a W := by
  obtain ⟨i0, hi, hz0, hz1, hz2⟩ := info_parts infoI
  refine wpList_wanted hw fun K hK => wp_append_own W s x 24 ho base 3 i0 (.int .i64 0) 1 8 Try.underlying24 hi hz0 hz1 hz2 rfl (by decide) (.slice A n c) n _ hs hO ⟨b, 0, none⟩ m d (ys.map (Value.int .i64)) hx (by simpa using hS.1)
      (World.ownsRow.cells hS rfl) (by intro u hu; obtain ⟨y, _, rfl⟩ := List.mem_map.1 hu; rfl) (by simp only [maxLen]; omega) (by omega) hb ?_
  intro v' w' hown hg _
  refine hK _ _ ?_
  rcases hown.2 with ⟨hv, hnm⟩ | ⟨g', cap', cur', hv, r⟩
  · subst hv
    have hnm' : n + m = 0 := hnm
    have e1 : (Value.slice none 0 0) = .slice none (n + m) 0 := by rw [hnm']
    rw [e1] at hown ⊢
    exact h _ _ _ (by unfold OwnI; rw [List.map_append]; exact hown) hg
  · subst hv
    exact h _ _ _ (by unfold OwnI; rw [List.map_append]; exact hown) hg

theorem quiet_same {P : Program} {f : FuncId} {args : Array Value} {w : World} {n : Nat} {v : Value}
    (h : Calls P f args (w.drewN n) fun e w' => e = .returned v ∧ w.drewN n = w') : Calls P f args (w.drewN n) fun e w'' => e = .returned v ∧ ∃ m, w'' = w.drewN m :=
  h.mono fun _ _ ⟨he, hm⟩ => ⟨he, n, hm.symm⟩

theorem lv_ok {zs : List Int} {t : Int} (h : lvOk zs t = true) : svB zs = true ∧ 1 ≤ t ∧ t ≤ 1000 := by
  simp only [lvOk, Bool.and_eq_true] at h
  exact ⟨h.1, betB_true.1 h.2⟩
theorem lev_small' (x t : Int) : -3 ≤ lev x t ∧ lev x t ≤ 3 := by
  rcases lev_ways x t with ⟨_, H⟩ | ⟨_, _, H⟩ | ⟨_, _, _, H⟩ | ⟨_, _, _, _, H⟩ | ⟨_, _, _, _, H⟩ | ⟨_, _, _, _, H⟩ <;> rw [H.out] <;> omega
theorem sv_lvl' {zs : List Int} (t : Int) (h : svB zs = true) : svB (lvl zs t) = true := by
  have hl := sv_len h
  refine sv_mk (by rw [lvl_len]; omega) (by rw [lvl_len]; omega) fun j hj => ?_
  rw [lvl_len] at hj
  rw [lvl_at hj]
  have := lev_small' (el zs j) t
  omega

set_option maxHeartbeats 2000000 in
theorem walkFnLevels (w : World) (A : Option Addr) (n c : Nat) (bs : List Int) (hz : IntsK .u8 w A n bs) (hl : n ≤ maxLen ∧ n ≤ c) (hf : ∀ j, (Lit.int .u8 (el bs j)).wf = true) :
    Calls Try.prog 12 #[.slice A n c] w fun e w' => e = .returned (.bool true) ∧ Below w.heap.size w w' := by
  obtain ⟨hl, hcap⟩ := hl
  unfold maxLen at hl
  by_cases hb : n ≤ 1048576
  · have HF := Lib.hid (bytes_in hf)
    clear hf
    go_enter Try.func12, Try.ntmps12
    go_wp2_with fail
    refine (DrawSamplesLevel_any _ _ _ bs _ hz hb hcap HF.out).mono ?_
    rintro e w1 ⟨A1, n1, c1, zs, t, rfl, ho1, hn1, ht0, ht1, hb1⟩
    have HL := Lib.hid ho1.len
    have HV : Hid ((lvV zs t).length ≤ 1048576) := lvV_len zs t (by rw [HL.out]; omega)
    go_wp2_with fail
    refine (iLevels_any _ _ _ zs _ _ ho1.ints (by omega)).mono ?_
    rintro e w2 ⟨A2, n2, c2, rfl, ho2, hb2⟩
    have hn2 : n2 ≤ 1048577 := by have := ho2.len; have := HV.out; omega
    have hB2 := below_step hb1 hb2
    have ho12 := ho1.below hb2
    go_wp2_with fail
    refine (sLevels_any _ _ _ zs _ _ ho12.ints (by omega)).mono ?_
    rintro e w3 ⟨A3, n3, c3, rfl, ho3, hb3⟩
    have hB3 := below_step hB2 hb3
    have hEq := eqL_self (lvV zs t)
    cases hok : lvOk zs t
    · go_wp2_with fail
      refine (sameInts_any _ _ _ _ _ _ _ _ _ (ho2.below hb3).ints ho3.ints hn2).mono ?_
      rintro e w4 ⟨rfl, hb4⟩
      have hB4 := below_step hB3 hb4
      go_wp2_with fail
      refine (sameInts_any _ _ _ _ _ _ _ _ _ ((ho2.below hb3).below hb4).ints (ho3.below hb4).ints hn2).mono ?_
      rintro e w5 ⟨rfl, hb5⟩
      go_wp2
      go_ret
      exact ⟨rfl, below_step hB4 hb5⟩
    · obtain ⟨hsv, ht1', ht2'⟩ := lv_ok hok
      have hlen : 1 ≤ n1 ∧ n1 ≤ 32 := by have := sv_len hsv; rw [HL.out] at this; exact this
      obtain ⟨hlen1, hlen2⟩ := hlen
      have HSL : Hid (svB (lvV zs t) = true) := by rw [lvV_yes hok]; exact sv_lvl' t hsv
      have HAt : Hid (∀ j, j < n1 → el (lvV zs t) j = lev (el zs j) t) := fun j hj => by rw [lvV_yes hok, lvl_at (by rw [HL.out]; exact hj)]
      obtain rfl : n2 = n1 := by have := ho2.len; rw [lvV_yes hok, lvl_len, HL.out] at this; omega
      clear hsv
      go_wp2_with fail
      refine (sameInts_any _ _ _ _ _ _ _ _ _ (ho2.below hb3).ints ho3.ints hn2).mono ?_
      rintro e w4 ⟨rfl, hb4⟩
      have hB4 := below_step hB3 hb4
      have ho24 := (ho2.below hb3).below hb4
      have ho14 := (ho12.below hb3).below hb4
      go_wp2
      clear hok
      go_loopw [9] (fun i wr => ∃ k : Nat, k ≤ n2 ∧ i = .int .i64 k ∧ Below w4.heap.size w4 wr) (fun i _ => n2 - (intOf i).toNat)
      case atStart => exact ⟨0, Nat.zero_le _, rfl, Below.refl _ _⟩
      case round =>
        obtain ⟨k, hk, rfl, hbr⟩ := hrel
        by_cases hlt : k < n2
        · have hi2 := ho24.ints.below hbr
          have hi1 := ho14.ints.below hbr
          obtain ⟨b2, off2, rfl, hbb2, hc2⟩ := hi2.at_ (by omega)
          obtain ⟨b1, off1, rfl, hbb1, hc1⟩ := hi1.at_ (by omega)
          have hck2 := hc2 k hlt
          have hck1 := hc1 k hlt
          rw [HAt.out k hlt] at hck2
          clear hc1 hc2
          go_wp2
          go_quiet ((go_at_call 15; exact quiet_same (iLevel_any _ _ _)))
          go_wp2
          go_roundw
          case rel => exact ⟨k + 1, by omega, by go_num, below_drewN hbr _⟩
          case measure => simp [intOf]; omega
        · have hs := HSL.out
          go_wp2_with fail
          refine (iValid_any _ _ _ (lvV zs t) _ (ho24.ints.below hbr) hn2).mono ?_
          rintro e w' ⟨rfl, rfl⟩
          go_wp2
          go_ret
          exact ⟨rfl, below_step hB4 hbr⟩
  · have hb' : 1048576 < n := by omega
    clear hb
    go_enter Try.func12, Try.ntmps12
    go_wp2
    go_ret
    exact ⟨rfl, Below.refl _ _⟩

def neg (zs : List Int) : List Int := zs.map fun x => -x
theorem neg_len (zs : List Int) : (neg zs).length = zs.length := by simp [neg]
theorem neg_at {zs : List Int} {k : Nat} (h : k < zs.length) : el (neg zs) k = -(el zs k) := by
  rw [el_lt (by rw [neg_len]; exact h), el_lt h]; simp [neg]
theorem sv_neg {zs : List Int} (h : svB zs = true) : svB (neg zs) = true := by
  have hl := sv_len h
  refine sv_mk (by rw [neg_len]; omega) (by rw [neg_len]; omega) fun j hj => ?_
  rw [neg_len] at hj
  rw [neg_at hj]
  have := sv_at h hj
  omega
theorem sv_cut {zs : List Int} {k : Nat} (h : svB zs = true) (h1 : 1 ≤ k) (h2 : k ≤ zs.length) : svB (zs.take k) = true := by
  have hl := sv_len h
  refine sv_mk (by rw [List.length_take]; omega) (by rw [List.length_take]; omega) fun j hj => ?_
  rw [List.length_take] at hj
  have : el (zs.take k) j = el zs j := by simp [el, show j < k by omega]
  rw [this]
  exact sv_at h (by omega)
theorem lit1 (w : World) (z : Int) : OwnI (w.alloc (.cells #[.int .i64 z] 3)) w.heap.size (some ⟨w.heap.size, 0, none⟩) 1 1 [z] :=
  World.ownsRow_lit w #[.int .i64 z] 1 (Nat.le_refl _) (by simp [maxLen]) rfl
theorem sv_more (zs : List Int) : svB (zs ++ [1001]) = false := by
  apply svB_of_not
  refine allIn_false (j := zs.length) (by simp) (betB_false.2 ?_)
  have : el (zs ++ [1001]) zs.length = 1001 := by simp [el]
  rw [this]; omega

set_option maxHeartbeats 2000000 in
theorem walkFnSamples (w : World) (A : Option Addr) (n c : Nat) (bs : List Int) (hz : IntsK .u8 w A n bs) (hl : n ≤ maxLen ∧ n ≤ c) (hf : ∀ j, (Lit.int .u8 (el bs j)).wf = true)
    (B : Option Addr) (m d : Nat) (ms : List Int) (hy : IntsK .u8 w B m ms) (hl' : m ≤ maxLen ∧ m ≤ d) (_ : ∀ j, (Lit.int .u8 (el ms j)).wf = true) :
    Calls Try.prog 8 #[.slice A n c, .slice B m d] w fun e w' => e = .returned (.bool true) ∧ Below w.heap.size w w' := by
  obtain ⟨hl, hcap⟩ := hl
  obtain ⟨hl', hcap'⟩ := hl'
  unfold maxLen at hl hl'
  by_cases hb : n ≤ 1048576
  · by_cases hbm : m ≤ 1048576
    · have HF := Lib.hid (bytes_in hf)
      clear hf
      go_enter Try.func8, Try.ntmps8
      go_wp2_with fail
      refine (DrawSamplesValid_any _ _ _ bs _ hz hb hcap HF.out).mono ?_
      rintro e w1 ⟨A1, n1, c1, zs, rfl, ho1, hn1, hb1⟩
      have HL := Lib.hid ho1.len
      go_wp2_with fail
      refine (iValid_any _ _ _ zs _ ho1.ints (by omega)).mono ?_
      rintro e w' ⟨rfl, rfl⟩
      go_wp2_with fail
      refine (sValid_any _ _ _ zs _ ho1.ints (by omega)).mono ?_
      rintro e w' ⟨rfl, rfl⟩
      cases hv : svB zs
      · go_wp2
        go_ret
        exact ⟨rfl, hb1⟩
      · have hs : svB zs = true := hv
        have HS := Lib.hid hs
        have hlen : 1 ≤ n1 ∧ n1 ≤ 32 := by have := sv_len hs; rw [HL.out] at this; exact this
        obtain ⟨hlen1, hlen2⟩ := hlen
        have HR : Hid (∀ j, j < n1 → -1000 ≤ el zs j ∧ el zs j ≤ 1000) := fun j hj => sv_at HS.out (by rw [HL.out]; exact hj)
        have HN : Hid (svB (neg zs) = true) := sv_neg hs
        have HM : Hid (svB (zs ++ [1001]) = false) := sv_more zs
        have hne : ((n1 : Int) == 0) = false := by simp; omega
        obtain ⟨g1, cap1, hv1, _, hlt1⟩ := World.ownsRow.form ho1 (by omega)
        have hA1 : A1 = some ⟨g1, 0, none⟩ := by injection hv1
        have hcc : n1 ≤ c1 := by
          rcases ho1.2 with ⟨h, _⟩ | ⟨g', cap', cur, h, _, _, h5, _⟩
          · injection h with _ h2 h3; omega
          · injection h with _ h2 h3; omega
        subst hA1
        have HI : Hid (∀ j, j < n1 → w1.cell? ⟨g1, 0 + j, none⟩ = some (.int .i64 (el zs j))) := by
          obtain ⟨b', off', e', hc'⟩ := ho1.ints.2 (by omega)
          injection e' with e'
          injection e' with e1 e2
          subst e1 e2
          exact hc'
        clear hv hs hv1
        obtain ⟨q, hq, hqn⟩ : ∃ q : Nat, (m : Int) % (n1 : Int) = (q : Int) ∧ q < n1 := ⟨m % n1, by omega, Nat.mod_lt m (by omega)⟩
        go_wp2
        clear hq
        have hb0 : Below w1.heap.size w1 (w1.alloc (.cells #[] 3)) := (Below.refl _ _).alloc (Nat.le_refl _) _
        have hO0 := OwnI.lit0 w1 (Nat.le_refl _)
        go_loopw [9, 10] (fun v i wr => ∃ (k : Nat) (A' : Option Addr) (c' : Nat), k ≤ n1 ∧ i = .int .i64 k ∧ v = .slice A' k c' ∧ OwnI wr w1.heap.size A' k c' ((neg zs).take k) ∧ Below w1.heap.size w1 wr) (fun _ i _ => n1 - (intOf i).toNat)
        case atStart => exact ⟨0, _, _, Nat.zero_le _, rfl, rfl, hO0, hb0⟩
        case round =>
          obtain ⟨k, A', c', hk, rfl, rfl, hO, hbl⟩ := hrel
          clear hO0 hb0
          by_cases hlt : k < n1
          · have hck : wr.cell? ⟨g1, 0 + k, none⟩ = some (.int .i64 (el zs k)) := (hbl.cell (p := ⟨g1, 0 + k, none⟩) hlt1).trans (HI.out k hlt)
            have hr1 := (HR.out k hlt).1
            have hr2 := (HR.out k hlt).2
            rw [Nat.zero_add] at hck
            have HT : Hid ((neg zs).take (k + 1) = (neg zs).take k ++ [-(el zs k)]) := by
              rw [take_snoc (by rw [neg_len, HL.out]; exact hlt), neg_at (by rw [HL.out]; exact hlt)]; exact rfl
            have hsz := hbl.size
            go_wp2_with (at_builtin; refine wpList_appendI rfl (.tmp 48) (.tmp 54) rfl wr w1.heap.size A' k c' _ (-(el zs k)) rfl rfl hO (by omega) hsz ?_; intro A2 c2 w2 hO2 hG2)
            have hb2 := hbl.grown hG2 hsz (fun k e => (hO.lt k e).1)
            go_roundw
            case rel => exact ⟨k + 1, A2, c2, by omega, by go_num, rfl, by rw [HT.out]; exact hO2, hb2⟩
            case measure => simp [intOf]; omega
          · obtain rfl : k = n1 := by omega
            have hcut : Ints wr (some ⟨g1, 0, none⟩) (1 + q) (zs.take (1 + q)) := (ho1.ints.below hbl).cut (by omega)
            have hsc : svB (zs.take (1 + q)) = true := sv_cut HS.out (by omega) (by rw [HL.out]; omega)
            have HSc := Lib.hid hsc
            have hq1 : ((1 : Int) + (q : Int)).toNat = 1 + q := by omega
            have hall : (neg zs).take k = neg zs := List.take_of_length_le (by rw [neg_len, HL.out]; exact Nat.le_refl _)
            rw [hall] at hO
            have hon := ho1.below hbl
            have hsz := hbl.size
            clear hsc hall
            go_wp2_with fail
            refine (iValid_any _ _ _ (zs.take (1 + q)) _ hcut (by omega)).mono ?_
            rintro e w' ⟨he, rfl⟩
            rw [HSc.out] at he
            subst he
            go_wp2_with fail
            refine (iValid_any _ _ _ (neg zs) _ hO.ints (by omega)).mono ?_
            rintro e w' ⟨he, rfl⟩
            rw [HN.out] at he
            subst he
            have hO0 := OwnI.lit0 wr (Nat.le_refl _)
            have hon0 := hon.below ((Below.refl _ wr).alloc (Nat.le_refl _) (.cells #[] 3))
            have hsz0 : wr.heap.size ≤ (wr.alloc (.cells #[] 3)).heap.size := by simp
            go_wp2_with (first | (at_builtin; refine wpList_appendG rfl (.tmp 65) (.tmp 66) rfl (wr.alloc (.cells #[] 3)) wr.heap.size _ 0 0 [] w.heap.size g1 k c1 zs rfl rfl hO0 hon0 (by omega) hsz0 ?_; intro A3 c3 w3 hO3 hG3; simp only [Nat.zero_add, List.nil_append] at hO3; have hO3' := hO3.below ((Below.refl _ w3).alloc (Nat.le_refl _) (.cells #[.int .i64 1001] 3)); have hL3 := lit1 w3 1001; have hsz3 : wr.heap.size ≤ (w3.alloc (.cells #[.int .i64 1001] 3)).heap.size := Nat.le_trans hsz0 (Nat.le_trans hG3.size (by simp))) | (at_builtin; refine wpList_appendG rfl (.tmp 67) (.tmp 68) rfl (w3.alloc (.cells #[.int .i64 1001] 3)) wr.heap.size A3 k c3 zs w3.heap.size w3.heap.size 1 1 [1001] rfl rfl hO3' hL3 (by omega) hsz3 ?_; intro A4 c4 w4 hO4 hG4) | (go_at_call 18; refine (iValid_any _ _ _ (zs ++ [1001]) _ hO4.ints (by omega)).mono ?_; rintro e w' ⟨he, rfl⟩; rw [HM.out] at he; subst he))
            go_ret
            have hBa : Below w.heap.size w wr := below_step hb1 hbl
            have hBb := (hBa.alloc hBa.size (.cells #[] 3)).grown hG3 (by have := hBa.size; simp; omega) (fun j e => by cases e; exact hBa.size)
            have hBc := (hBb.alloc hBb.size (.cells #[.int .i64 1001] 3)).grown hG4 (by have := hBb.size; simp; omega) (fun j e => by have := (hO3.lt j e).1; have := hBa.size; omega)
            exact ⟨rfl, hBc⟩
    · have hb' : 1048576 < m := by omega
      clear hbm
      go_enter Try.func8, Try.ntmps8
      go_wp2
      go_ret
      exact ⟨rfl, Below.refl _ _⟩
  · have hb' : 1048576 < n := by omega
    clear hb
    go_enter Try.func8, Try.ntmps8
    go_wp2
    go_ret
    exact ⟨rfl, Below.refl _ _⟩

end Go.Proofs.Ytgepjbfdjnhcoaa
