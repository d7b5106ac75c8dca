/- Machine side of the law FnGreedy: Go functions as Lean functions, and proofs that calls come to what these tell. Conditions: those in each theorem. -/
import Derived.Test.YtimkekeaeojpkaaGreatMFnGreedywRepsOne
import Derived.Test.YtimkekeaeojpkaaGreatMFnGreedy0
import Derived.Test.YtimkekeaeojpkaaGreatMFnGreedy1
set_option maxHeartbeats 8000000
set_option maxRecDepth 100000
namespace Go.Proofs.YtimkekeaeojpkaaGreat.A
open Go.RowKit Go.Proofs.YtimkekeaeojpkaaGreatW.PrintWords Go.Proofs.YtimkekeaeojpkaaGreatW.PrintLast Go.Proofs.YtimkekeaeojpkaaGreatW.PrintMore
attribute [local go_sem] cC cE cW cX co cp cD cG
set_option linter.unusedVariables false
set_option linter.unusedSimpArgs false
mutual
def bf.j0 : Nat → Int → Int → Bool → Option (Int × List Int)
 | 0, _, _, _ => none
 | k + 1, x0, x1, x15 => if x15 = true then (some (0, ([] : List Int))) else (bf.l0 k x0 x1 0 x1 ([] : List Int))
def bf.l0 : Nat → Int → Int → Int → Int → List Int → Option (Int × List Int)
 | 0, _, _, _, _, _ => none
 | k + 1, x0, x1, x6, x225005000, x225005001 => (bF.f x1).bind fun tq0 => (if x6 ≤ tq0 then ((aY.f k x6).bind fun tq1 => (if tq1 = x0 then (if x225005001.length < 17592186044416 then (bf.l0 k x0 x1 (wrap64 (x6 + 1)) x225005000 (x225005001 ++ [x6])) else (none)) else (bf.l0 k x0 x1 (wrap64 (x6 + 1)) x225005000 x225005001))) else (some (x225005000, x225005001)))
end
def bf.f (k : Nat) (a0 : Int) (a1 : Int) : Option (Int × List Int) := (a5.f a1 0 8).bind fun tq2 => (if tq2 = true then ((a5.f a0 0 a1).bind fun tq3 => (bf.j0 k a0 a1 (!tq3))) else (bf.j0 k a0 a1 true))
theorem bf.calls (k : Nat) (a0 : Int) (a1 : Int) (r1 : Int) (r2 : List Int) (w : World) (h : bf.f k a0 a1 = some (r1, r2)) :
  Calls Tryz.prog 224 #[.int .i64 a0, .int .i64 a1] w fun e w' => ∃ v1_ : Value, e = .returned (.agg #[.int .i64 r1, v1_]) ∧ Kd.R (Kd.int .i64) 3 w' w.heap.size (fun _ => True) v1_ r2 ∧ Below w.heap.size w w' := by
 have hu26 := Tryz.underlying26
 have HB := aQ (Below.refl w.heap.size w)
 have H := h
 clear h
 unfold bf.f at H
 (try dsimp only at H)
 have HC3 := aQ H
 clear H
 go_enter Tryz.func224, Tryz.ntmps224
 go_upto_region 1 with (first | ((with_reducible refine af (N := 4) rfl ?_); refine bx 4 #[.int .i64 0, .slice none 0 0] 26 ?_; intro gbq4 hg w4 hbox hb; have BKq4 := aQ (hbox); have GWq4 := gB HB hg; have GEq4 := gB HB hg; replace HB := bs HB hb; clear hb hbox hg))
 (try simp only [Act.put, List.setIfInBounds_toArray, List.set_cons_zero, List.set_cons_succ])
 go_cut [15] (fun v15 wc => ∃ (kq : Nat) (x15_2 : Bool), v15 = .bool x15_2 ∧ Aside0 (bf.j0 kq a0 a1 x15_2 = some (r1, r2)) ∧ Aside0 (kq ≤ k) ∧ Aside0 (wc.heap[gbq4]? = some (.cells #[.int .i64 0, (.slice none 0 0)] 26 (0, 0))) ∧ Aside0 (Below w.heap.size w wc))
 case first =>
  have H := HC3.out
  clear HC3
  replace H := bo H; obtain ⟨tq2, A5, H⟩ := H
  (try dsimp only at H)
  by_cases c6 : tq2 = true
  ·subst c6
   rw [if_pos rfl] at H
   replace H := bo H; obtain ⟨tq3, A7, H⟩ := H
   (try dsimp only at H)
   have H' := aQ H
   clear H
   go_wp2_with (first | (refine gq 116 (some 8) Tryz.func116 #[.int .i64 a1, .int .i64 0, .int .i64 8] ?_; (with_reducible refine (a5.calls a1 0 8 true _ A5.out).mono ?_); rintro e w' ⟨rfl, ⟨nd, rfl⟩⟩; refine ⟨_, rfl, ?_⟩) | (go_at_call 116; (with_reducible refine (a5.calls a0 0 a1 tq3 _ A7.out).mono ?_); rintro e w' ⟨rfl, ⟨nd, rfl⟩⟩))
   go_meet
   case rel => exact ⟨_, (!tq3), rs_, H', ⟨by first | omega | exact Nat.le_refl _⟩, ⟨pk BKq4.out⟩, ⟨pB1 HB.out GEq4.out⟩⟩
  ·replace c6 := Bool.eq_false_iff.mpr c6
   subst c6
   have H1 : (bf.j0 k a0 a1 true) = some (r1, r2) := by rw [if_neg (show ¬ (false = true) by decide)] at H; exact H
   clear H
   have H := H1
   clear H1
   have H' := aQ H
   clear H
   go_wp2_with (first | (refine gq 116 (some 8) Tryz.func116 #[.int .i64 a1, .int .i64 0, .int .i64 8] ?_; (with_reducible refine (a5.calls a1 0 8 false _ A5.out).mono ?_); rintro e w' ⟨rfl, ⟨nd, rfl⟩⟩; refine ⟨_, rfl, ?_⟩))
   go_meet
   case rel => exact ⟨_, (true), rs_, H', ⟨by first | omega | exact Nat.le_refl _⟩, ⟨pk BKq4.out⟩, ⟨pB1 HB.out GEq4.out⟩⟩
 case rest =>
  clear HC3
  obtain ⟨kq, x15_2, rfl, HA, HJ2, BKq4, HB⟩ := hcut
  cases kq with
  | zero => exact absurd HA.out (by simp [bf.j0])
  | succ kj2 =>
   have H := HA.out
   clear HA
   simp only [bf.j0] at H
   by_cases c8 : x15_2 = true
   ·subst c8
    rw [if_pos rfl] at H
    simp only [Option.some.injEq, Prod.mk.injEq] at H
    obtain ⟨rfl, rfl⟩ := H
    obtain ⟨hcz9_0, hcz9_1, hfz9_0, hfz9_1⟩ := c2 BKq4
    go_wp2
    refine bodyPost_ret (results_cell_row rfl _ _ gbq4 26 #[.int .i64 0, .slice none 0 0] (0, 0) _ rfl (by refine pkx ?_; refine al (cs := #[.int .i64 0, .slice none 0 0]) ?_ 1 _ rfl; refine pkx ?_; refine al (cs := #[.int .i64 0, .slice none 0 0]) ?_ 0 _ rfl; refine pkx ?_; exact BKq4.out) Tryz.underlying26 rfl (by kernel_rfl)) rfl ?_
    exact ⟨_, by first | rfl | (simp [errW_none, aj] <;> rfl) | (simp [*, errW_none, aj] <;> rfl), by first | exact Kd.R_nil _ _ _ _ _ | exact Kd.N_nil _ _ _ _ _ | exact Kd.V_nil _ _ _ _ _ | exact Kd.Q_nil _ _ _ _ _ | exact Kd.S_nil _ _ _ _ _, pB1 HB.out GEq4.out⟩
   ·replace c8 := Bool.eq_false_iff.mpr c8
    subst c8
    have H1 : (bf.l0 kj2 a0 a1 0 a1 ([] : List Int)) = some (r1, r2) := by rw [if_neg (show ¬ (false = true) by decide)] at H; exact H
    clear H
    have H := H1
    clear H1
    have H' := aQ H
    clear H
    go_wp2_with (first | ((with_reducible refine af (N := 5) rfl ?_); refine bx 5 #[.int .i64 0, .slice none 0 0] 26 ?_; intro gbq5 hg w10 hbox hb; have BKq5 := aQ (hbox); have GWq5 := gB HB hg; have GEq5 := gB HB hg; replace HB := bs HB hb; have NBq4_q5 := nl BKq4 hg; have NBq5_q4 := ng BKq4 hg; replace BKq4 := bb BKq4 hb; clear hb hbox hg; have hnb11 := NBq5_q4.out; have hnc11 := NBq4_q5.out; obtain ⟨hcz12_0, hcz12_1, hfz12_0, hfz12_1⟩ := c2 BKq5))
    go_loopg [6] kj2 (fun kq v6 w' => ∃ (x6_2 : Int) (x225005001_2 : List Int) (u225005001 : Value), v6 = .int .i64 x6_2 ∧ Aside0 (bf.l0 kq a0 a1 x6_2 a1 x225005001_2 = some (r1, r2)) ∧ Aside0 (kq ≤ kj2) ∧ Aside0 (Kd.R (Kd.int .i64) 3 w' w.heap.size (fun _ => True) u225005001 x225005001_2) ∧ Aside0 (w'.heap[gbq4]? = some (.cells #[.int .i64 0, (.slice none 0 0)] 26 (0, 0))) ∧ Aside0 (w'.heap[gbq5]? = some (.cells #[.int .i64 a1, u225005001] 26 (0, 0))) ∧ Aside0 (Below w.heap.size w w'))
    case atStart => exact ⟨(0), (([] : List Int)), (.slice none 0 0), rs_, H', ⟨Nat.le_refl _⟩, ⟨by first | exact Kd.R_nil _ _ _ _ _ | exact Kd.N_nil _ _ _ _ _ | exact Kd.V_nil _ _ _ _ _ | exact Kd.Q_nil _ _ _ _ _ | exact Kd.S_nil _ _ _ _ _⟩, ⟨by refine pkx ?_; refine aU ?_ NBq4_q5.out _; refine pkx ?_; refine aU ?_ NBq4_q5.out _; refine pkx ?_; exact BKq4.out⟩, ⟨by refine pkx ?_; refine al (cs := #[.int .i64 a1, .slice none 0 0]) ?_ 1 _ rfl; refine pkx ?_; refine al (cs := #[.int .i64 0, .slice none 0 0]) ?_ 0 _ rfl; refine pkx ?_; exact BKq5.out⟩, ⟨pB2 HB.out GEq4.out GEq5.out⟩⟩
    clear H'
    try clear c2
    try clear c8
    try clear hcz12_0
    try clear hcz12_1
    try clear hfz12_0
    try clear hfz12_1
    obtain ⟨x6_2, x225005001_2, u225005001, rfl, HA, HK2, HO_225005001, BKq4, BKq5, HB⟩ := hrel
    rcases gk with _ | k2
    ·exact absurd HA.out (by simp [bf.l0])
    have H := HA.out
    clear HA
    simp only [bf.l0] at H
    replace H := bo H; obtain ⟨tq0, A13, H⟩ := H
    (try dsimp only at H)
    by_cases c14 : x6_2 ≤ tq0
    ·rw [if_pos c14] at H
     have c14b0 := decide_eq_true c14
     clear c14
     replace H := bo H; obtain ⟨tq1, A15, H⟩ := H
     (try dsimp only at H)
     by_cases c16 : tq1 = a0
     ·rw [if_pos c16] at H
      have c16b0 : (tq1 == a0) = true := beq_iff_eq.mpr c16
      have c16b1 : (tq1 != a0) = false := bne_eq_false_iff_eq.mpr c16
      clear c16
      replace H := gd H; obtain ⟨c17, H⟩ := H
      have LMc17 := aQ c17
      clear c17
      obtain ⟨yq6, hyq6⟩ : ∃ y_ : List Int, y_ = (x225005001_2 ++ [x6_2]) := ⟨_, rfl⟩
      replace H : (bf.l0 k2 a0 a1 (wrap64 (x6_2 + 1)) a1 yq6) = some (r1, r2) := by first | (rw [hyq6]; with_reducible exact H) | (rw [hyq6]; exact H)
      have Nyq6 := aQ hyq6
      clear hyq6
      have H' := aQ H
      clear H
      go_wp2_with (first | (refine gq 104 (some 21) Tryz.func104 #[.int .i64 a1] ?_; (with_reducible refine (bF.calls a1 tq0 _ A13.out).mono ?_); rintro e w' ⟨rfl, ⟨nd, rfl⟩⟩; refine ⟨_, rfl, ?_⟩; (try (rw [cT wr]; generalize hq_ : World.drewN wr _ = wr; have n0_ : Aside0 (Kd.R (Kd.int .i64) 3 wr w.heap.size (fun _ => True) u225005001 x225005001_2) := ⟨by rw [← hq_]; exact (pR HO_225005001.out)⟩; have n1_ : Aside0 (wr.heap[gbq4]? = some (.cells #[.int .i64 0, .slice none 0 0] 26 (0, 0))) := ⟨by rw [← hq_]; exact (pk BKq4.out)⟩; have n2_ : Aside0 (wr.heap[gbq5]? = some (.cells #[.int .i64 a1, u225005001] 26 (0, 0))) := ⟨by rw [← hq_]; exact (pk BKq5.out)⟩; have n3_ : Aside0 (Below w.heap.size w wr) := ⟨by rw [← hq_]; exact (pB2 HB.out GEq4.out GEq5.out)⟩; clear HO_225005001 BKq4 BKq5 HB hq_; have HO_225005001 := n0_; have BKq4 := n1_; have BKq5 := n2_; have HB := n3_; clear n0_ n1_ n2_ n3_))) | (refine gq 22 (some 26) Tryz.func22 #[.int .i64 x6_2] ?_; (with_reducible refine (aY.calls k2 x6_2 tq1 _ A15.out).mono ?_); rintro e w' ⟨rfl, ⟨nd, rfl⟩⟩; refine ⟨_, rfl, ?_⟩; (try (rw [cT wr]; generalize hq_ : World.drewN wr _ = wr; have n0_ : Aside0 (Kd.R (Kd.int .i64) 3 wr w.heap.size (fun _ => True) u225005001 x225005001_2) := ⟨by rw [← hq_]; exact (pR HO_225005001.out)⟩; have n1_ : Aside0 (wr.heap[gbq4]? = some (.cells #[.int .i64 0, .slice none 0 0] 26 (0, 0))) := ⟨by rw [← hq_]; exact (pk BKq4.out)⟩; have n2_ : Aside0 (wr.heap[gbq5]? = some (.cells #[.int .i64 a1, u225005001] 26 (0, 0))) := ⟨by rw [← hq_]; exact (pk BKq5.out)⟩; have n3_ : Aside0 (Below w.heap.size w wr) := ⟨by rw [← hq_]; exact (pB2 HB.out GEq4.out GEq5.out)⟩; clear HO_225005001 BKq4 BKq5 HB hq_; have HO_225005001 := n0_; have BKq4 := n1_; have BKq5 := n2_; have HB := n3_; clear n0_ n1_ n2_ n3_)); have hnb18 := NBq5_q4.out; have hnc18 := NBq4_q5.out; obtain ⟨hcz19_0, hcz19_1, hfz19_0, hfz19_1⟩ := c2 BKq5) | ((with_reducible refine aW (b := .append) (xs := #[.tmp 30, .tmp 32]) rfl ?_); at_builtin; refine Kd.R_append (Kd.int .i64) (w0 := w) w.heap.size rfl (.tmp 30) (.tmp 32) 24 3 (.int .i64 0) 8 rfl Tryz.underlying24 bR rfl (by decide) (by omega) u225005001 x225005001_2 x6_2 [.int .i64 x6_2] (fun _ => True) (fun _ => False) rfl rfl ?aP (fun _ hk => hk.elim) ?aF ?aO ?aB ?aS ?aL ?_; (case aP => exact rfl); (case aB => exact (pB2 HB.out GEq4.out GEq5.out)); (case aF => exact (fun _ _ => trivial)); (case aO => exact (pR HO_225005001.out)); (case aS => exact (aa (pB2 HB.out GEq4.out GEq5.out))); (case aL => have := LMc17.out; omega); intro vq7 w20 ho hb hg hat; rw [← Nyq6.out] at ho; replace BKq4 := aQ (cQ (g := gbq4) (o := .cells #[.int .i64 0, .slice none 0 0] 26 (0, 0)) (pk BKq4.out) hg (Kd.R_ne HO_225005001.out BKq4.out (by decide))); replace BKq5 := aQ (cQ (g := gbq5) (o := .cells #[.int .i64 a1, u225005001] 26 (0, 0)) (pk BKq5.out) hg (Kd.R_ne HO_225005001.out BKq5.out (by decide))); replace HB := aQ (hb); have HOq8 := aQ (ho); clear HO_225005001; clear ho hb hg hat; obtain ⟨Ao21, co21, eo21⟩ := Kd.R_slice HOq8.out; subst eo21; obtain ⟨hcz22_0, hcz22_1, hfz22_0, hfz22_1⟩ := c2 BKq5))
      go_roundg k2
      case measure => have := HJ2.out; have := HK2.out; omega
      case rel => exact ⟨(wrap64 (x6_2 + 1)), (yq6), (.slice Ao21 yq6.length co21), rs_, H', ⟨by have := HJ2.out; have := HK2.out; omega⟩, ⟨by refine pRx ?_; exact rf1 HOq8 BKq5⟩, ⟨by refine pkx ?_; refine aU ?_ NBq4_q5.out _; refine pkx ?_; exact BKq4.out⟩, ⟨by refine pkx ?_; refine al (cs := #[.int .i64 a1, u225005001]) ?_ 1 _ rfl; refine pkx ?_; exact BKq5.out⟩, ⟨pB2 HB.out GEq4.out GEq5.out⟩⟩
     ·rw [if_neg c16] at H
      have c16b0 : (tq1 == a0) = false := beq_eq_false_iff_ne.mpr c16
      have c16b1 : (tq1 != a0) = true := bne_iff_ne.mpr c16
      have H' := aQ H
      clear H
      go_wp2_with (first | (refine gq 104 (some 21) Tryz.func104 #[.int .i64 a1] ?_; (with_reducible refine (bF.calls a1 tq0 _ A13.out).mono ?_); rintro e w' ⟨rfl, ⟨nd, rfl⟩⟩; refine ⟨_, rfl, ?_⟩) | (refine gq 22 (some 26) Tryz.func22 #[.int .i64 x6_2] ?_; (with_reducible refine (aY.calls k2 x6_2 tq1 _ A15.out).mono ?_); rintro e w' ⟨rfl, ⟨nd, rfl⟩⟩; refine ⟨_, rfl, ?_⟩))
      go_roundg k2
      case measure => have := HJ2.out; have := HK2.out; omega
      case rel => exact ⟨(wrap64 (x6_2 + 1)), (x225005001_2), (u225005001), rs_, H', ⟨by have := HJ2.out; have := HK2.out; omega⟩, ⟨pR HO_225005001.out⟩, ⟨pk BKq4.out⟩, ⟨pk BKq5.out⟩, ⟨pB2 HB.out GEq4.out GEq5.out⟩⟩
    ·rw [if_neg c14] at H
     have c14b0 := decide_eq_false c14
     clear c14
     simp only [Option.some.injEq, Prod.mk.injEq] at H
     obtain ⟨rfl, rfl⟩ := H
     go_wp2_with (first | (refine gq 104 (some 21) Tryz.func104 #[.int .i64 a1] ?_; (with_reducible refine (bF.calls a1 tq0 _ A13.out).mono ?_); rintro e w' ⟨rfl, ⟨nd, rfl⟩⟩; refine ⟨_, rfl, ?_⟩; (try (rw [cT wr]; generalize hq_ : World.drewN wr _ = wr; have n0_ : Aside0 (Kd.R (Kd.int .i64) 3 wr w.heap.size (fun _ => True) u225005001 x225005001_2) := ⟨by rw [← hq_]; exact (pR HO_225005001.out)⟩; have n1_ : Aside0 (wr.heap[gbq4]? = some (.cells #[.int .i64 0, .slice none 0 0] 26 (0, 0))) := ⟨by rw [← hq_]; exact (pk BKq4.out)⟩; have n2_ : Aside0 (wr.heap[gbq5]? = some (.cells #[.int .i64 a1, u225005001] 26 (0, 0))) := ⟨by rw [← hq_]; exact (pk BKq5.out)⟩; have n3_ : Aside0 (Below w.heap.size w wr) := ⟨by rw [← hq_]; exact (pB2 HB.out GEq4.out GEq5.out)⟩; clear HO_225005001 BKq4 BKq5 HB hq_; have HO_225005001 := n0_; have BKq4 := n1_; have BKq5 := n2_; have HB := n3_; clear n0_ n1_ n2_ n3_)); have hnb23 := NBq5_q4.out; have hnc23 := NBq4_q5.out; obtain ⟨hcz24_0, hcz24_1, hfz24_0, hfz24_1⟩ := c2 BKq5; obtain ⟨hcz25_0, hcz25_1, hfz25_0, hfz25_1⟩ := c2 BKq4; obtain ⟨Ao26, co26, eo26⟩ := Kd.R_slice HO_225005001.out; subst eo26))
     refine bodyPost_ret (results_cell_row rfl _ _ gbq4 26 #[.int .i64 a1, .slice Ao26 x225005001_2.length co26] (0, 0) _ rfl (by refine pkx ?_; refine al (cs := #[.int .i64 a1, .slice none 0 0]) ?_ 1 _ rfl; refine pkx ?_; refine al (cs := #[.int .i64 0, .slice none 0 0]) ?_ 0 _ rfl; refine pkx ?_; exact BKq4.out) Tryz.underlying26 rfl (by kernel_rfl)) rfl ?_
     exact ⟨_, by first | rfl | (simp [errW_none, aj] <;> rfl) | (simp [*, errW_none, aj] <;> rfl), by refine pRx ?_; exact rf HO_225005001 BKq4, pB2 HB.out GEq4.out GEq5.out⟩
def ay.l0 : Nat → ByteArray → Int → List ByteArray → Int → Int → Option (List ByteArray)
 | 0, _, _, _, _, _ => none
 | k + 1, x0, x1, x5, x6, x7 => if x7 ≤ (x0.size : Int) then (if x7 = (x0.size : Int) then (if 0 ≤ x6 then (if x6 ≤ x7 then (if x5.length < 8796093022208 then (ay.l0 k x0 x1 (x5 ++ [x0.extract (x6 : Int).toNat (x7 : Int).toNat]) (wrap64 (x7 + 1)) (wrap64 (x7 + 1))) else (none)) else (none)) else (none)) else (if 0 ≤ x7 then (if x7 < (x0.size : Int) then (if (bt x0 x7) = x1 then (if 0 ≤ x6 then (if x6 ≤ x7 then (if x5.length < 8796093022208 then (ay.l0 k x0 x1 (x5 ++ [x0.extract (x6 : Int).toNat (x7 : Int).toNat]) (wrap64 (x7 + 1)) (wrap64 (x7 + 1))) else (none)) else (none)) else (none)) else (ay.l0 k x0 x1 x5 x6 (wrap64 (x7 + 1)))) else (none)) else (none))) else (some x5)
def ay.f (k : Nat) (a0 : ByteArray) (a1 : Int) : Option (List ByteArray) := ay.l0 k a0 a1 (([] : List ByteArray)) 0 0
theorem ay.mono_l : ∀ k, (∀ y0 y1 y2 y3 y4, LeO (ay.l0 k y0 y1 y2 y3 y4) (ay.l0 (k + 1) y0 y1 y2 y3 y4))
 | 0 => fun _ _ _ _ _ r h => by simp [ay.l0] at h
 | k + 1 => by
  have ih0 := ay.mono_l k
  ·intro y0 y1 y2 y3 y4
   unfold ay.l0
   repeat' first | (with_reducible first | exact ih0 _ _ _ _ _ | exact LeO.refl _ | exact LeO.none _ | refine LeO.ite ?_ ?_ | refine LeO.bind ?_ (fun _ => ?_)) | exact ih0 _ _ _ _ _ | exact LeO.none _ | refine LeO.ite ?_ ?_ | refine LeO.bind ?_ (fun _ => ?_)
theorem ay.mono : ∀ a0 a1 k, LeO (ay.f k a0 a1) (ay.f (k + 1) a0 a1) := by
 intro a0 a1 k
 have ih0 := ay.mono_l k
 unfold ay.f
 repeat' first | (with_reducible first | exact ih0 _ _ _ _ _ | exact LeO.refl _ | exact LeO.none _ | refine LeO.ite ?_ ?_ | refine LeO.bind ?_ (fun _ => ?_)) | exact ih0 _ _ _ _ _ | exact LeO.none _ | refine LeO.ite ?_ ?_ | refine LeO.bind ?_ (fun _ => ?_)
theorem ay.calls (k : Nat) (a0 : ByteArray) (a1 : Int) (r : List ByteArray) (w : World) (h : ay.f k a0 a1 = some r) :
  Calls Tryz.prog 283 #[.string a0, .int .u8 a1] w fun e w' => ∃ v0_ : Value, e = .returned (v0_) ∧ Kd.R Kd.string 9 w' w.heap.size (fun _ => True) v0_ r ∧ Below w.heap.size w w' := by
 have HB := aQ (Below.refl w.heap.size w)
 have H : (ay.l0 k a0 a1 (([] : List ByteArray)) 0 0) = some r := h
 clear h
 obtain ⟨yq0, hyq0⟩ : ∃ y_ : List ByteArray, y_ = (([] : List ByteArray)) := ⟨_, rfl⟩
 replace H : (ay.l0 k a0 a1 yq0 0 0) = some r := by first | (rw [hyq0]; with_reducible exact H) | (rw [hyq0]; exact H)
 have Nyq0 := aQ hyq0
 clear hyq0
 have H' := aQ H
 clear H
 go_enter Tryz.func283, Tryz.ntmps283
 go_wp2_with (first | ((with_reducible refine af (N := 8) rfl ?_); refine Kd.R_lit Kd.string _ 9 ?hg (N := 8) ?hd (xs := ([] : List ByteArray)) (inner := []) (ok := fun _ => True) (okp := fun _ => True) ?hr ?hp (fun _ hk => hk) trivial (Below.refl _ _) (Nat.le_refl _) (by simp) ?_; (case hd => rfl); (case hg => rfl); (case hr => first | (go_simp; done) | (go_simp; rfl)); (case hp => exact (Reps.none _ _)); intro vq1 w3 ho4 hb hg_ hnew_; clear hg_ hnew_; (first | rw [← Nyq0.out] at ho4 | (simp only [Int.reduceToNat] at ho4; rw [← Nyq0.out] at ho4)); have HOq2 := aQ (Kd.R_lower ho4 (aa (pB HB.out))); replace HB := bs HB hb; clear hb ho4))
 go_loopg [5, 6, 7] k (fun kq v5 v6 v7 w' => ∃ (x5_1 : List ByteArray) (x6_1 : Int) (x7_1 : Int), v6 = .int .i64 x6_1 ∧ v7 = .int .i64 x7_1 ∧ Aside0 (ay.l0 kq a0 a1 x5_1 x6_1 x7_1 = some r) ∧ Aside0 (kq ≤ k) ∧ Aside0 (Kd.R Kd.string 9 w' w.heap.size (fun _ => True) v5 x5_1) ∧ Aside0 (Below w.heap.size w w'))
 case atStart => exact ⟨(yq0), (0), (0), rs_, rs_, H', ⟨Nat.le_refl _⟩, ⟨pR HOq2.out⟩, ⟨pB HB.out⟩⟩
 clear H'
 obtain ⟨x5_1, x6_1, x7_1, rfl, rfl, HA, HK1, HO_5, HB⟩ := hrel
 rcases gk with _ | k1
 ·exact absurd HA.out (by simp [ay.l0])
 have H := HA.out
 clear HA
 simp only [ay.l0] at H
 by_cases c5 : x7_1 ≤ (a0.size : Int)
 ·rw [if_pos c5] at H
  have c5b0 := decide_eq_true c5
  clear c5
  by_cases c6 : x7_1 = (a0.size : Int)
  ·rw [if_pos c6] at H
   have c6b0 : (x7_1 == (a0.size : Int)) = true := beq_iff_eq.mpr c6
   have c6b1 : (x7_1 != (a0.size : Int)) = false := bne_eq_false_iff_eq.mpr c6
   clear c6
   replace H := gd H; obtain ⟨c7, H⟩ := H
   have c7b0 := eq_true c7
   have c7b1 := decide_eq_true c7
   clear c7
   replace H := gd H; obtain ⟨c8, H⟩ := H
   have c8b0 := eq_true c8
   have c8b1 := decide_eq_true c8
   clear c8
   have c9b0 := eq_true (of_decide_eq_true as_ : x7_1 ≤ (a0.size : Int))
   replace H := gd H; obtain ⟨c10, H⟩ := H
   have LMc10 := aQ c10
   clear c10
   obtain ⟨yq3, hyq3⟩ : ∃ y_ : List ByteArray, y_ = (x5_1 ++ [a0.extract (x6_1 : Int).toNat (x7_1 : Int).toNat]) := ⟨_, rfl⟩
   replace H : (ay.l0 k1 a0 a1 yq3 (wrap64 (x7_1 + 1)) (wrap64 (x7_1 + 1))) = some r := by first | (rw [hyq3]; with_reducible exact H) | (rw [hyq3]; exact H)
   have Nyq3 := aQ hyq3
   clear hyq3
   have H' := aQ H
   clear H
   go_wp2_with (first | ((with_reducible refine aW (b := .append) (xs := #[.tmp 26, .tmp 31]) rfl ?_); at_builtin; refine Kd.R_append Kd.string (w0 := w) w.heap.size rfl (.tmp 26) (.tmp 31) 153 9 (.string ⟨#[]⟩) 16 rfl Tryz.underlying153 lV rfl (by decide) (by omega) u5 x5_1 (a0.extract (x6_1 : Int).toNat (x7_1 : Int).toNat) [.string (a0.extract (x6_1 : Int).toNat (x7_1 : Int).toNat)] (fun _ => True) (fun _ => False) rfl rfl ?aP (fun _ hk => hk.elim) ?aF ?aO ?aB ?aS ?aL ?_; (case aP => exact rfl); (case aB => exact (pB HB.out)); (case aF => exact (fun _ _ => trivial)); (case aO => exact (pR HO_5.out)); (case aS => exact (aa (pB HB.out))); (case aL => have := LMc10.out; omega); intro vq4 w11 ho hb hg hat; rw [← Nyq3.out] at ho; replace HB := aQ (hb); have HOq5 := aQ (ho); clear HO_5; clear ho hb hg hat))
   go_roundg k1
   case measure => have := HK1.out; omega
   case rel => exact ⟨(yq3), (wrap64 (x7_1 + 1)), (wrap64 (x7_1 + 1)), rs_, rs_, H', ⟨by have := HK1.out; omega⟩, ⟨pR HOq5.out⟩, ⟨pB HB.out⟩⟩
  ·rw [if_neg c6] at H
   have c6b0 : (x7_1 == (a0.size : Int)) = false := beq_eq_false_iff_ne.mpr c6
   have c6b1 : (x7_1 != (a0.size : Int)) = true := bne_iff_ne.mpr c6
   replace H := gd H; obtain ⟨c12, H⟩ := H
   have c12b0 := decide_eq_true c12
   clear c12
   replace H := gd H; obtain ⟨c13, H⟩ := H
   have c13b0 := decide_eq_true c13
   clear c13
   by_cases c15 : (bt a0 x7_1) = a1
   ·rw [if_pos c15] at H
    have c15b0 : ((bt a0 x7_1) == a1) = true := beq_iff_eq.mpr c15
    have c15b1 : ((bt a0 x7_1) != a1) = false := bne_eq_false_iff_eq.mpr c15
    clear c15
    replace H := gd H; obtain ⟨c16, H⟩ := H
    have c16b0 := eq_true c16
    have c16b1 := decide_eq_true c16
    clear c16
    replace H := gd H; obtain ⟨c17, H⟩ := H
    have c17b0 := eq_true c17
    have c17b1 := decide_eq_true c17
    clear c17
    have c18b0 := eq_true (of_decide_eq_true as_ : x7_1 ≤ (a0.size : Int))
    replace H := gd H; obtain ⟨c19, H⟩ := H
    have LMc19 := aQ c19
    clear c19
    obtain ⟨yq6, hyq6⟩ : ∃ y_ : List ByteArray, y_ = (x5_1 ++ [a0.extract (x6_1 : Int).toNat (x7_1 : Int).toNat]) := ⟨_, rfl⟩
    replace H : (ay.l0 k1 a0 a1 yq6 (wrap64 (x7_1 + 1)) (wrap64 (x7_1 + 1))) = some r := by first | (rw [hyq6]; with_reducible exact H) | (rw [hyq6]; exact H)
    have Nyq6 := aQ hyq6
    clear hyq6
    have H' := aQ H
    clear H
    have p14 : 0 ≤ (x7_1 : Int) := of_decide_eq_true as_
    have q14 : x7_1 < (a0.size : Int) := of_decide_eq_true as_
    have hx14 := el a0 x7_1
    replace p14 := eq_true p14
    replace q14 := eq_true q14
    go_wp2_with (first | ((with_reducible refine aW (b := .append) (xs := #[.tmp 26, .tmp 31]) rfl ?_); at_builtin; refine Kd.R_append Kd.string (w0 := w) w.heap.size rfl (.tmp 26) (.tmp 31) 153 9 (.string ⟨#[]⟩) 16 rfl Tryz.underlying153 lV rfl (by decide) (by omega) u5 x5_1 (a0.extract (x6_1 : Int).toNat (x7_1 : Int).toNat) [.string (a0.extract (x6_1 : Int).toNat (x7_1 : Int).toNat)] (fun _ => True) (fun _ => False) rfl rfl ?aP (fun _ hk => hk.elim) ?aF ?aO ?aB ?aS ?aL ?_; (case aP => exact rfl); (case aB => exact (pB HB.out)); (case aF => exact (fun _ _ => trivial)); (case aO => exact (pR HO_5.out)); (case aS => exact (aa (pB HB.out))); (case aL => have := LMc19.out; omega); intro vq7 w20 ho hb hg hat; rw [← Nyq6.out] at ho; replace HB := aQ (hb); have HOq8 := aQ (ho); clear HO_5; clear ho hb hg hat))
    go_roundg k1
    case measure => have := HK1.out; omega
    case rel => exact ⟨(yq6), (wrap64 (x7_1 + 1)), (wrap64 (x7_1 + 1)), rs_, rs_, H', ⟨by have := HK1.out; omega⟩, ⟨pR HOq8.out⟩, ⟨pB HB.out⟩⟩
   ·rw [if_neg c15] at H
    have c15b0 : ((bt a0 x7_1) == a1) = false := beq_eq_false_iff_ne.mpr c15
    have c15b1 : ((bt a0 x7_1) != a1) = true := bne_iff_ne.mpr c15
    have H' := aQ H
    clear H
    have p14 : 0 ≤ (x7_1 : Int) := of_decide_eq_true as_
    have q14 : x7_1 < (a0.size : Int) := of_decide_eq_true as_
    have hx14 := el a0 x7_1
    replace p14 := eq_true p14
    replace q14 := eq_true q14
    go_wp2
    go_roundg k1
    case measure => have := HK1.out; omega
    case rel => exact ⟨(x5_1), (x6_1), (wrap64 (x7_1 + 1)), rs_, rs_, H', ⟨by have := HK1.out; omega⟩, ⟨pR HO_5.out⟩, ⟨pB HB.out⟩⟩
 ·rw [if_neg c5] at H
  have c5b0 := decide_eq_false c5
  clear c5
  obtain rfl := Option.some.inj H
  go_wp2
  go_ret
  exact ⟨_, by first | rfl | (simp [errW_none, aj] <;> rfl) | (simp [*, errW_none, aj] <;> rfl), by refine pRx ?_; exact HO_5.out, pB HB.out⟩
def az.l0 : Nat → Int → Bool → ByteArray → Option (ByteArray)
 | 0, _, _, _ => none
 | k + 1, x0, x3, x4 => if x0 = 0 then (if x3 = true then (if 1 + x4.size ≤ 9223372036854775807 then (some ((⟨#[45]⟩ : ByteArray) ++ x4)) else (none)) else (some x4)) else (if (Int.tmod x0 10) < 0 then ((some (([(wrap64 (48 + (wrap64 (-(Int.tmod x0 10))))) % 256] : List Int) : List Int)).bind fun yq0 => (if (strOfNums yq0).size + x4.size ≤ 9223372036854775807 then (az.l0 k (wrap64 (Int.tdiv x0 10)) x3 ((strOfNums yq0) ++ x4)) else (none))) else ((some (([(wrap64 (48 + (Int.tmod x0 10))) % 256] : List Int) : List Int)).bind fun yq1 => (if (strOfNums yq1).size + x4.size ≤ 9223372036854775807 then (az.l0 k (wrap64 (Int.tdiv x0 10)) x3 ((strOfNums yq1) ++ x4)) else (none))))
def az.f (k : Nat) (a0 : Int) : Option (ByteArray) := if a0 = 0 then (some (⟨#[48]⟩ : ByteArray)) else (az.l0 k a0 (decide (a0 < 0)) (⟨#[]⟩ : ByteArray))
theorem az.mono_l : ∀ k, (∀ y0 y1 y2, LeO (az.l0 k y0 y1 y2) (az.l0 (k + 1) y0 y1 y2))
 | 0 => fun _ _ _ r h => by simp [az.l0] at h
 | k + 1 => by
  have ih0 := az.mono_l k
  ·intro y0 y1 y2
   unfold az.l0
   repeat' first | (with_reducible first | exact ih0 _ _ _ | exact LeO.refl _ | exact LeO.none _ | refine LeO.ite ?_ ?_ | refine LeO.bind ?_ (fun _ => ?_)) | exact ih0 _ _ _ | exact LeO.none _ | refine LeO.ite ?_ ?_ | refine LeO.bind ?_ (fun _ => ?_)
theorem az.mono : ∀ a0 k, LeO (az.f k a0) (az.f (k + 1) a0) := by
 intro a0 k
 have ih0 := az.mono_l k
 unfold az.f
 repeat' first | (with_reducible first | exact ih0 _ _ _ | exact LeO.refl _ | exact LeO.none _ | refine LeO.ite ?_ ?_ | refine LeO.bind ?_ (fun _ => ?_)) | exact ih0 _ _ _ | exact LeO.none _ | refine LeO.ite ?_ ?_ | refine LeO.bind ?_ (fun _ => ?_)
theorem az.calls (k : Nat) (a0 : Int) (r : ByteArray) (w : World) (h : az.f k a0 = some r) :
  Calls Tryz.prog 295 #[.int .i64 a0] w fun e w' => e = .returned (.string r) ∧ Below w.heap.size w w' := by
 have HB := aQ (Below.refl w.heap.size w)
 have H := h
 clear h
 unfold az.f at H
 (try dsimp only at H)
 by_cases c2 : a0 = 0
 ·rw [if_pos c2] at H
  have c2b0 : (a0 == 0) = true := beq_iff_eq.mpr c2
  have c2b1 : (a0 != 0) = false := bne_eq_false_iff_eq.mpr c2
  clear c2
  obtain rfl := Option.some.inj H
  go_enter Tryz.func295, Tryz.ntmps295
  go_wp2
  go_ret
  exact ⟨re_, pB HB.out⟩
 ·rw [if_neg c2] at H
  have c2b0 : (a0 == 0) = false := beq_eq_false_iff_ne.mpr c2
  have c2b1 : (a0 != 0) = true := bne_iff_ne.mpr c2
  have H' := aQ H
  clear H
  go_enter Tryz.func295, Tryz.ntmps295
  go_wp2
  go_loopg [0, 4] k (fun kq v0 v4 w' => ∃ (x0_1 : Int) (x4_1 : ByteArray), v0 = .int .i64 x0_1 ∧ v4 = .string x4_1 ∧ Aside0 (az.l0 kq x0_1 (decide (a0 < 0)) x4_1 = some r) ∧ Aside0 (kq ≤ k) ∧ Aside0 (Below w.heap.size w w'))
  case atStart => exact ⟨(a0), ((⟨#[]⟩ : ByteArray)), rs_, rs_, H', ⟨Nat.le_refl _⟩, ⟨pB HB.out⟩⟩
  clear H'
  try clear c2
  try clear c2b0
  try clear c2b1
  obtain ⟨x0_1, x4_1, rfl, rfl, HA, HK1, HB⟩ := hrel
  rcases gk with _ | k1
  ·exact absurd HA.out (by simp [az.l0])
  have H := HA.out
  clear HA
  simp only [az.l0] at H
  by_cases c3 : x0_1 = 0
  ·rw [if_pos c3] at H
   have c3b0 : (x0_1 == 0) = true := beq_iff_eq.mpr c3
   have c3b1 : (x0_1 != 0) = false := bne_eq_false_iff_eq.mpr c3
   clear c3
   by_cases c4 : (decide (a0 < 0)) = true
   ·rw [if_pos c4] at H
    have c4b0 : (decide (a0 < 0)) = true := c4
    (first | rw [c4b0] | skip)
    clear c4
    replace H := gd H; obtain ⟨c5, H⟩ := H
    have c5b0 := eq_true c5
    have c5b1 := decide_eq_true c5
    try have c5b2 : (9223372036854775807 < 1 + x4_1.size) = False := eq_false (Nat.not_lt.2 c5)
    obtain rfl := Option.some.inj H
    go_wp2
    go_ret
    exact ⟨re_, pB HB.out⟩
   ·rw [if_neg c4] at H
    have c4b0 : (decide (a0 < 0)) = false := by simpa using c4
    (first | rw [c4b0] | skip)
    clear c4
    obtain rfl := Option.some.inj H
    go_wp2
    go_ret
    exact ⟨re_, pB HB.out⟩
  ·rw [if_neg c3] at H
   have c3b0 : (x0_1 == 0) = false := beq_eq_false_iff_ne.mpr c3
   have c3b1 : (x0_1 != 0) = true := bne_iff_ne.mpr c3
   by_cases c6 : (Int.tmod x0_1 10) < 0
   ·rw [if_pos c6] at H
    have c6b0 := decide_eq_true c6
    clear c6
    obtain ⟨yq0, hyq0⟩ : ∃ y_ : List Int, y_ = (([(wrap64 (48 + (wrap64 (-(Int.tmod x0_1 10))))) % 256] : List Int)) := ⟨_, rfl⟩
    replace H : (if (strOfNums yq0).size + x4_1.size ≤ 9223372036854775807 then (az.l0 k1 (wrap64 (Int.tdiv x0_1 10)) (decide (a0 < 0)) ((strOfNums yq0) ++ x4_1)) else (none)) = some r := by first | (rw [hyq0]; with_reducible exact H) | (rw [hyq0]; exact H)
    have Nyq0 := aQ hyq0
    clear hyq0
    replace H := gd H; obtain ⟨c7, H⟩ := H
    have c7b0 := eq_true c7
    have c7b1 := decide_eq_true c7
    try have c7b2 : (9223372036854775807 < (strOfNums yq0).size + x4_1.size) = False := eq_false (Nat.not_lt.2 c7)
    have H' := aQ H
    clear H
    go_wp2_with (first | ((with_reducible refine af (N := 21) rfl ?_); refine Kd.R_lit (Kd.int .u8) _ 5 ?hg (N := 21) ?hd (xs := ([(wrap64 (48 + (wrap64 (-(Int.tmod x0_1 10))))) % 256] : List Int)) (inner := [.int .u8 ((wrap64 (48 + (wrap64 (-(Int.tmod x0_1 10))))) % 256)]) (ok := fun _ => True) (okp := fun _ => True) ?hr ?hp (fun _ hk => hk) trivial (Below.refl _ _) (Nat.le_refl _) (by simp) ?_; (case hd => rfl); (case hg => rfl); (case hr => first | (go_simp; done) | (go_simp; rfl)); (case hp => exact (Reps.one (show Kd.M (Kd.int .u8) _ _ _ ((wrap64 (48 + (wrap64 (-(Int.tmod x0_1 10))))) % 256) [.int .u8 ((wrap64 (48 + (wrap64 (-(Int.tmod x0_1 10))))) % 256)] from rfl) (Reps.none _ _))); intro vq2 w8 ho9 hb hg_ hnew_; clear hg_ hnew_; (first | rw [← Nyq0.out] at ho9 | (simp only [Int.reduceToNat] at ho9; rw [← Nyq0.out] at ho9)); have HOq3 := aQ (Kd.R_lower ho9 (aa (pB HB.out))); replace HB := bs HB hb; clear hb ho9; have hcv10 := fp (P := Tryz.prog) Tryz.underlying22 Tryz.underlying5 Tryz.underlying9 (Kd.own_of_R HOq3.out)))
    go_roundg k1
    case measure => have := HK1.out; omega
    case rel => exact ⟨(wrap64 (Int.tdiv x0_1 10)), ((strOfNums yq0) ++ x4_1), rs_, rs_, H', ⟨by have := HK1.out; omega⟩, ⟨pB HB.out⟩⟩
   ·rw [if_neg c6] at H
    have c6b0 := decide_eq_false c6
    clear c6
    obtain ⟨yq1, hyq1⟩ : ∃ y_ : List Int, y_ = (([(wrap64 (48 + (Int.tmod x0_1 10))) % 256] : List Int)) := ⟨_, rfl⟩
    replace H : (if (strOfNums yq1).size + x4_1.size ≤ 9223372036854775807 then (az.l0 k1 (wrap64 (Int.tdiv x0_1 10)) (decide (a0 < 0)) ((strOfNums yq1) ++ x4_1)) else (none)) = some r := by first | (rw [hyq1]; with_reducible exact H) | (rw [hyq1]; exact H)
    have Nyq1 := aQ hyq1
    clear hyq1
    replace H := gd H; obtain ⟨c11, H⟩ := H
    have c11b0 := eq_true c11
    have c11b1 := decide_eq_true c11
    try have c11b2 : (9223372036854775807 < (strOfNums yq1).size + x4_1.size) = False := eq_false (Nat.not_lt.2 c11)
    have H' := aQ H
    clear H
    go_wp2_with (first | ((with_reducible refine af (N := 21) rfl ?_); refine Kd.R_lit (Kd.int .u8) _ 5 ?hg (N := 21) ?hd (xs := ([(wrap64 (48 + (Int.tmod x0_1 10))) % 256] : List Int)) (inner := [.int .u8 ((wrap64 (48 + (Int.tmod x0_1 10))) % 256)]) (ok := fun _ => True) (okp := fun _ => True) ?hr ?hp (fun _ hk => hk) trivial (Below.refl _ _) (Nat.le_refl _) (by simp) ?_; (case hd => rfl); (case hg => rfl); (case hr => first | (go_simp; done) | (go_simp; rfl)); (case hp => exact (Reps.one (show Kd.M (Kd.int .u8) _ _ _ ((wrap64 (48 + (Int.tmod x0_1 10))) % 256) [.int .u8 ((wrap64 (48 + (Int.tmod x0_1 10))) % 256)] from rfl) (Reps.none _ _))); intro vq4 w12 ho13 hb hg_ hnew_; clear hg_ hnew_; (first | rw [← Nyq1.out] at ho13 | (simp only [Int.reduceToNat] at ho13; rw [← Nyq1.out] at ho13)); have HOq5 := aQ (Kd.R_lower ho13 (aa (pB HB.out))); replace HB := bs HB hb; clear hb ho13; have hcv14 := fp (P := Tryz.prog) Tryz.underlying22 Tryz.underlying5 Tryz.underlying9 (Kd.own_of_R HOq5.out)))
    go_roundg k1
    case measure => have := HK1.out; omega
    case rel => exact ⟨(wrap64 (Int.tdiv x0_1 10)), ((strOfNums yq1) ++ x4_1), rs_, rs_, H', ⟨by have := HK1.out; omega⟩, ⟨pB HB.out⟩⟩
mutual
def ax.j0 : Nat → ByteArray → Int → Bool → Option (Int × Bool)
 | 0, _, _, _ => none
 | k + 1, x0, x1, x6 => if x6 = true then (if 1 ≤ (x0.size : Int) then (ax.j1 k x0 x1 x6 (x0.extract 1 x0.size)) else (none)) else (ax.j1 k x0 x1 x6 x0)
def ax.j1 : Nat → ByteArray → Int → Bool → ByteArray → Option (Int × Bool)
 | 0, _, _, _, _ => none
 | k + 1, x0, x1, x6, x7 => if (x7.size : Int) < 1 then (ax.j2 k x0 x6 x7 true) else (ax.j2 k x0 x6 x7 (decide ((x7.size : Int) > x1)))
def ax.j2 : Nat → ByteArray → Bool → ByteArray → Bool → Option (Int × Bool)
 | 0, _, _, _, _ => none
 | k + 1, x0, x6, x7, x30 => if x30 = true then (some (0, false)) else (ax.l0 k x0 x6 x7 0 0)
def ax.l0 : Nat → ByteArray → Bool → ByteArray → Int → Int → Option (Int × Bool)
 | 0, _, _, _, _, _ => none
 | k + 1, x0, x6, x7, x8, x9 => if x9 < (x7.size : Int) then (if 0 ≤ x9 then (if (bt x7 x9) < 48 then (some (0, false)) else (if (bt x7 x9) > 57 then (some (0, false)) else (ax.l0 k x0 x6 x7 (wrap64 ((wrap64 (10 * x8)) + (((bt x7 x9) - 48) % 256))) (wrap64 (x9 + 1))))) else (none)) else (if x6 = true then ((az.f k (wrap64 (-x8))).bind fun tq0 => (if tq0.toList = x0.toList then (some (wrap64 (-x8), true)) else (some (0, false)))) else ((az.f k x8).bind fun tq1 => (if tq1.toList = x0.toList then (some (x8, true)) else (some (0, false)))))
end
def ax.f (k : Nat) (a0 : ByteArray) (a1 : Int) : Option (Int × Bool) := if (a0.size : Int) > 0 then (if 0 < (a0.size : Int) then (ax.j0 k a0 a1 ((bt a0 0) == 45)) else (none)) else (ax.j0 k a0 a1 false)
theorem ax.mono_l : ∀ k, (∀ y0 y1 y2, LeO (ax.j0 k y0 y1 y2) (ax.j0 (k + 1) y0 y1 y2)) ∧ (∀ y0 y1 y2 y3, LeO (ax.j1 k y0 y1 y2 y3) (ax.j1 (k + 1) y0 y1 y2 y3)) ∧ (∀ y0 y1 y2 y3, LeO (ax.j2 k y0 y1 y2 y3) (ax.j2 (k + 1) y0 y1 y2 y3)) ∧ (∀ y0 y1 y2 y3 y4, LeO (ax.l0 k y0 y1 y2 y3 y4) (ax.l0 (k + 1) y0 y1 y2 y3 y4))
 | 0 => ⟨fun _ _ _ r h => by simp [ax.j0] at h, fun _ _ _ _ r h => by simp [ax.j1] at h, fun _ _ _ _ r h => by simp [ax.j2] at h, fun _ _ _ _ _ r h => by simp [ax.l0] at h⟩
 | k + 1 => by
  obtain ⟨ih0, ih1, ih2, ih3⟩ := ax.mono_l k
  refine ⟨?_, ?_, ?_, ?_⟩
  ·intro y0 y1 y2
   unfold ax.j0
   repeat' first | (with_reducible first | exact ih0 _ _ _ | exact ih1 _ _ _ _ | exact ih2 _ _ _ _ | exact ih3 _ _ _ _ _ | exact az.mono _ _ | exact LeO.refl _ | exact LeO.none _ | refine LeO.ite ?_ ?_ | refine LeO.bind ?_ (fun _ => ?_)) | exact ih0 _ _ _ | exact ih1 _ _ _ _ | exact ih2 _ _ _ _ | exact ih3 _ _ _ _ _ | exact LeO.none _ | refine LeO.ite ?_ ?_ | refine LeO.bind ?_ (fun _ => ?_)
  ·intro y0 y1 y2 y3
   unfold ax.j1
   repeat' first | (with_reducible first | exact ih0 _ _ _ | exact ih1 _ _ _ _ | exact ih2 _ _ _ _ | exact ih3 _ _ _ _ _ | exact az.mono _ _ | exact LeO.refl _ | exact LeO.none _ | refine LeO.ite ?_ ?_ | refine LeO.bind ?_ (fun _ => ?_)) | exact ih0 _ _ _ | exact ih1 _ _ _ _ | exact ih2 _ _ _ _ | exact ih3 _ _ _ _ _ | exact LeO.none _ | refine LeO.ite ?_ ?_ | refine LeO.bind ?_ (fun _ => ?_)
  ·intro y0 y1 y2 y3
   unfold ax.j2
   repeat' first | (with_reducible first | exact ih0 _ _ _ | exact ih1 _ _ _ _ | exact ih2 _ _ _ _ | exact ih3 _ _ _ _ _ | exact az.mono _ _ | exact LeO.refl _ | exact LeO.none _ | refine LeO.ite ?_ ?_ | refine LeO.bind ?_ (fun _ => ?_)) | exact ih0 _ _ _ | exact ih1 _ _ _ _ | exact ih2 _ _ _ _ | exact ih3 _ _ _ _ _ | exact LeO.none _ | refine LeO.ite ?_ ?_ | refine LeO.bind ?_ (fun _ => ?_)
  ·intro y0 y1 y2 y3 y4
   unfold ax.l0
   repeat' first | (with_reducible first | exact ih0 _ _ _ | exact ih1 _ _ _ _ | exact ih2 _ _ _ _ | exact ih3 _ _ _ _ _ | exact az.mono _ _ | exact LeO.refl _ | exact LeO.none _ | refine LeO.ite ?_ ?_ | refine LeO.bind ?_ (fun _ => ?_)) | exact ih0 _ _ _ | exact ih1 _ _ _ _ | exact ih2 _ _ _ _ | exact ih3 _ _ _ _ _ | exact LeO.none _ | refine LeO.ite ?_ ?_ | refine LeO.bind ?_ (fun _ => ?_)
theorem ax.mono : ∀ a0 a1 k, LeO (ax.f k a0 a1) (ax.f (k + 1) a0 a1) := by
 intro a0 a1 k
 obtain ⟨ih0, ih1, ih2, ih3⟩ := ax.mono_l k
 unfold ax.f
 repeat' first | (with_reducible first | exact ih0 _ _ _ | exact ih1 _ _ _ _ | exact ih2 _ _ _ _ | exact ih3 _ _ _ _ _ | exact az.mono _ _ | exact LeO.refl _ | exact LeO.none _ | refine LeO.ite ?_ ?_ | refine LeO.bind ?_ (fun _ => ?_)) | exact ih0 _ _ _ | exact ih1 _ _ _ _ | exact ih2 _ _ _ _ | exact ih3 _ _ _ _ _ | exact LeO.none _ | refine LeO.ite ?_ ?_ | refine LeO.bind ?_ (fun _ => ?_)
theorem ax.calls (k : Nat) (a0 : ByteArray) (a1 : Int) (r1 : Int) (r2 : Bool) (w : World) (h : ax.f k a0 a1 = some (r1, r2)) :
  Calls Tryz.prog 292 #[.string a0, .int .i64 a1] w fun e w' => e = .returned (.tuple #[.int .i64 r1, .bool r2]) ∧ Below w.heap.size w w' := by
 have HB := aQ (Below.refl w.heap.size w)
 have H := h
 clear h
 unfold ax.f at H
 (try dsimp only at H)
 have HC3 := aQ H
 clear H
 go_enter Tryz.func292, Tryz.ntmps292
 go_upto_region 1 with (fail)
 go_cut [6] (fun v6 wc => ∃ (kq : Nat) (x6_2 : Bool), v6 = .bool x6_2 ∧ Aside0 (ax.j0 kq a0 a1 x6_2 = some (r1, r2)) ∧ Aside0 (kq ≤ k) ∧ Aside0 (Below w.heap.size w wc))
 case first =>
  have H := HC3.out
  clear HC3
  by_cases c4 : (a0.size : Int) > 0
  ·rw [if_pos c4] at H
   have c4b0 := decide_eq_true c4
   have c4b1 : decide (0 < a0.size) = true := decide_eq_true (by omega)
   clear c4
   (first | rw [c4b0] | (simp only [i64_w, cI]; rw [c4b0]) | skip)
   replace H := gd H; obtain ⟨c5, H⟩ := H
   have c5b0 := decide_eq_true c5
   have c5b1 : decide (0 < a0.size) = true := decide_eq_true (by omega)
   clear c5
   have H' := aQ H
   clear H
   have p6 : 0 ≤ (0 : Int) := (by omega)
   have q6 : 0 < a0.size := (by have : (0 : Int) < (a0.size : Int) := of_decide_eq_true as_; omega)
   have hx6 : ∀ h : 0 < a0.size, ((a0[0]'h).toNat : Int) = bt a0 0 := el a0 0
   clear p6
   have qi6 : (0 < (a0.size : Int)) = True := eq_true (of_decide_eq_true as_)
   replace q6 := eq_true q6
   go_wp2
   go_meet
   case rel => exact ⟨_, (((bt a0 0) == 45)), rs_, H', ⟨by first | omega | exact Nat.le_refl _⟩, ⟨pB HB.out⟩⟩
  ·rw [if_neg c4] at H
   have c4b0 := decide_eq_false c4
   have c4b1 : decide (0 < a0.size) = false := decide_eq_false (by omega)
   clear c4
   (first | rw [c4b0] | (simp only [i64_w, cI]; rw [c4b0]) | skip)
   have H' := aQ H
   clear H
   go_wp2
   go_meet
   case rel => exact ⟨_, (false), rs_, H', ⟨by first | omega | exact Nat.le_refl _⟩, ⟨pB HB.out⟩⟩
 case rest =>
  clear HC3
  obtain ⟨kq, x6_2, rfl, HA, HJ2, HB⟩ := hcut
  cases kq with
  | zero => exact absurd HA.out (by simp [ax.j0])
  | succ kj2 =>
   have H := HA.out
   clear HA
   simp only [ax.j0] at H
   have HC7 := aQ H
   clear H
   go_upto_if 19 with (fail)
   go_cut [7] (fun v7 wc => ∃ (kq : Nat) (x7_6 : ByteArray), v7 = .string x7_6 ∧ Aside0 (ax.j1 kq a0 a1 x6_2 x7_6 = some (r1, r2)) ∧ Aside0 (kq ≤ kj2) ∧ Aside0 (Below w.heap.size w wc))
   case first =>
    have H := HC7.out
    clear HC7
    by_cases c8 : x6_2 = true
    ·subst c8
     rw [if_pos rfl] at H
     replace H := gd H; obtain ⟨c9, H⟩ := H
     have c9b0 := eq_true c9
     have c9b1 := decide_eq_true c9
     clear c9
     have H' := aQ H
     clear H
     go_wp2
     go_meet
     case rel => exact ⟨_, (a0.extract 1 a0.size), rs_, H', ⟨by have := HJ2.out; first | omega | exact Nat.le_refl _⟩, ⟨pB HB.out⟩⟩
    ·replace c8 := Bool.eq_false_iff.mpr c8
     subst c8
     have H1 : (ax.j1 kj2 a0 a1 false a0) = some (r1, r2) := by rw [if_neg (show ¬ (false = true) by decide)] at H; exact H
     clear H
     have H := H1
     clear H1
     have H' := aQ H
     clear H
     go_wp2
     go_meet
     case rel => exact ⟨_, (a0), rs_, H', ⟨by have := HJ2.out; first | omega | exact Nat.le_refl _⟩, ⟨pB HB.out⟩⟩
   case rest =>
    clear HC7
    obtain ⟨kq, x7_6, rfl, HA, HJ6, HB⟩ := hcut
    cases kq with
    | zero => exact absurd HA.out (by simp [ax.j1])
    | succ kj6 =>
     have H := HA.out
     clear HA
     simp only [ax.j1] at H
     have HC10 := aQ H
     clear H
     go_upto_region 5 with (fail)
     go_cut [30] (fun v30 wc => ∃ (kq : Nat) (x30_9 : Bool), v30 = .bool x30_9 ∧ Aside0 (ax.j2 kq a0 x6_2 x7_6 x30_9 = some (r1, r2)) ∧ Aside0 (kq ≤ kj6) ∧ Aside0 (Below w.heap.size w wc))
     case first =>
      have H := HC10.out
      clear HC10
      by_cases c11 : (x7_6.size : Int) < 1
      ·rw [if_pos c11] at H
       have c11b0 := decide_eq_true c11
       have c11b1 : decide (x7_6.size < 1) = true := decide_eq_true (by omega)
       clear c11
       (first | rw [c11b0] | (simp only [i64_w, cI]; rw [c11b0]) | skip)
       have H' := aQ H
       clear H
       go_wp2
       go_meet
       case rel => exact ⟨_, (true), rs_, H', ⟨by have := HJ2.out; have := HJ6.out; first | omega | exact Nat.le_refl _⟩, ⟨pB HB.out⟩⟩
      ·rw [if_neg c11] at H
       have c11b0 := decide_eq_false c11
       have c11b1 : decide (x7_6.size < 1) = false := decide_eq_false (by omega)
       clear c11
       (first | rw [c11b0] | (simp only [i64_w, cI]; rw [c11b0]) | skip)
       have H' := aQ H
       clear H
       go_wp2
       go_meet
       case rel => exact ⟨_, (decide ((x7_6.size : Int) > a1)), rs_, H', ⟨by have := HJ2.out; have := HJ6.out; first | omega | exact Nat.le_refl _⟩, ⟨pB HB.out⟩⟩
     case rest =>
      clear HC10
      obtain ⟨kq, x30_9, rfl, HA, HJ9, HB⟩ := hcut
      cases kq with
      | zero => exact absurd HA.out (by simp [ax.j2])
      | succ kj9 =>
       have H := HA.out
       clear HA
       simp only [ax.j2] at H
       by_cases c12 : x30_9 = true
       ·subst c12
        rw [if_pos rfl] at H
        simp only [Option.some.injEq, Prod.mk.injEq] at H
        obtain ⟨rfl, rfl⟩ := H
        go_wp2
        go_ret2
        exact ⟨re_, pB HB.out⟩
       ·replace c12 := Bool.eq_false_iff.mpr c12
        subst c12
        have H1 : (ax.l0 kj9 a0 x6_2 x7_6 0 0) = some (r1, r2) := by rw [if_neg (show ¬ (false = true) by decide)] at H; exact H
        clear H
        have H := H1
        clear H1
        have H' := aQ H
        clear H
        go_wp2
        go_loopg [8, 9] kj9 (fun kq v8 v9 w' => ∃ (x8_4 : Int) (x9_4 : Int), v8 = .int .i64 x8_4 ∧ v9 = .int .i64 x9_4 ∧ Aside0 (ax.l0 kq a0 x6_2 x7_6 x8_4 x9_4 = some (r1, r2)) ∧ Aside0 (kq ≤ kj9) ∧ Aside0 (Below w.heap.size w w'))
        case atStart => exact ⟨(0), (0), rs_, rs_, H', ⟨Nat.le_refl _⟩, ⟨pB HB.out⟩⟩
        clear H'
        try clear c12
        obtain ⟨x8_4, x9_4, rfl, rfl, HA, HK4, HB⟩ := hrel
        rcases gk with _ | k4
        ·exact absurd HA.out (by simp [ax.l0])
        have H := HA.out
        clear HA
        simp only [ax.l0] at H
        by_cases c13 : x9_4 < (x7_6.size : Int)
        ·rw [if_pos c13] at H
         have c13b0 := decide_eq_true c13
         clear c13
         replace H := gd H; obtain ⟨c14, H⟩ := H
         have c14b0 := decide_eq_true c14
         clear c14
         by_cases c16 : (bt x7_6 x9_4) < 48
         ·rw [if_pos c16] at H
          have c16b0 := decide_eq_true c16
          clear c16
          simp only [Option.some.injEq, Prod.mk.injEq] at H
          obtain ⟨rfl, rfl⟩ := H
          have p15 : 0 ≤ (x9_4 : Int) := of_decide_eq_true as_
          have q15 : x9_4 < (x7_6.size : Int) := of_decide_eq_true as_
          have hx15 := el x7_6 x9_4
          replace p15 := eq_true p15
          replace q15 := eq_true q15
          go_wp2
          go_ret2
          exact ⟨re_, pB HB.out⟩
         ·rw [if_neg c16] at H
          have c16b0 := decide_eq_false c16
          clear c16
          by_cases c18 : (bt x7_6 x9_4) > 57
          ·rw [if_pos c18] at H
           have c18b0 := decide_eq_true c18
           clear c18
           simp only [Option.some.injEq, Prod.mk.injEq] at H
           obtain ⟨rfl, rfl⟩ := H
           have p15 : 0 ≤ (x9_4 : Int) := of_decide_eq_true as_
           have q15 : x9_4 < (x7_6.size : Int) := of_decide_eq_true as_
           have hx15 := el x7_6 x9_4
           replace p15 := eq_true p15
           replace q15 := eq_true q15
           have p17 : 0 ≤ (x9_4 : Int) := of_decide_eq_true as_
           have q17 : x9_4 < (x7_6.size : Int) := of_decide_eq_true as_
           have hx17 := el x7_6 x9_4
           replace p17 := eq_true p17
           replace q17 := eq_true q17
           go_wp2
           go_ret2
           exact ⟨re_, pB HB.out⟩
          ·rw [if_neg c18] at H
           have c18b0 := decide_eq_false c18
           clear c18
           have H' := aQ H
           clear H
           have p15 : 0 ≤ (x9_4 : Int) := of_decide_eq_true as_
           have q15 : x9_4 < (x7_6.size : Int) := of_decide_eq_true as_
           have hx15 := el x7_6 x9_4
           replace p15 := eq_true p15
           replace q15 := eq_true q15
           have p17 : 0 ≤ (x9_4 : Int) := of_decide_eq_true as_
           have q17 : x9_4 < (x7_6.size : Int) := of_decide_eq_true as_
           have hx17 := el x7_6 x9_4
           replace p17 := eq_true p17
           replace q17 := eq_true q17
           have p19 : 0 ≤ (x9_4 : Int) := of_decide_eq_true as_
           have q19 : x9_4 < (x7_6.size : Int) := of_decide_eq_true as_
           have hx19 := el x7_6 x9_4
           replace p19 := eq_true p19
           replace q19 := eq_true q19
           go_wp2
           go_roundg k4
           case measure => have := HJ2.out; have := HJ6.out; have := HJ9.out; have := HK4.out; omega
           case rel => exact ⟨(wrap64 ((wrap64 (10 * x8_4)) + (((bt x7_6 x9_4) - 48) % 256))), (wrap64 (x9_4 + 1)), rs_, rs_, H', ⟨by have := HJ2.out; have := HJ6.out; have := HJ9.out; have := HK4.out; omega⟩, ⟨pB HB.out⟩⟩
        ·rw [if_neg c13] at H
         have c13b0 := decide_eq_false c13
         clear c13
         by_cases c20 : x6_2 = true
         ·subst c20
          rw [if_pos rfl] at H
          replace H := bo H; obtain ⟨tq0, A21, H⟩ := H
          (try dsimp only at H)
          by_cases c22 : tq0.toList = a0.toList
          ·rw [if_pos c22] at H
           have c22b0 : (tq0.toList == a0.toList) = true := beq_iff_eq.mpr c22
           have c22b1 : (tq0.toList != a0.toList) = false := bne_eq_false_iff_eq.mpr c22
           clear c22
           simp only [Option.some.injEq, Prod.mk.injEq] at H
           obtain ⟨rfl, rfl⟩ := H
           go_wp2_with (first | (refine gq 295 (some 59) Tryz.func295 #[.int .i64 (wrap64 (-x8_4))] ?_; (with_reducible refine (az.calls k4 (wrap64 (-x8_4)) tq0 _ A21.out).mono ?_); rintro e w23 ⟨rfl, hb⟩; refine ⟨_, rfl, ?_⟩; replace HB := bs HB hb; (try clear hb)))
           go_ret2
           exact ⟨re_, pB HB.out⟩
          ·rw [if_neg c22] at H
           have c22b0 : (tq0.toList == a0.toList) = false := beq_eq_false_iff_ne.mpr c22
           have c22b1 : (tq0.toList != a0.toList) = true := bne_iff_ne.mpr c22
           simp only [Option.some.injEq, Prod.mk.injEq] at H
           obtain ⟨rfl, rfl⟩ := H
           go_wp2_with (first | (refine gq 295 (some 59) Tryz.func295 #[.int .i64 (wrap64 (-x8_4))] ?_; (with_reducible refine (az.calls k4 (wrap64 (-x8_4)) tq0 _ A21.out).mono ?_); rintro e w24 ⟨rfl, hb⟩; refine ⟨_, rfl, ?_⟩; replace HB := bs HB hb; (try clear hb)))
           go_ret2
           exact ⟨re_, pB HB.out⟩
         ·replace c20 := Bool.eq_false_iff.mpr c20
          subst c20
          have H1 : ((az.f k4 x8_4).bind fun tq1 => (if tq1.toList = a0.toList then (some (x8_4, true)) else (some (0, false)))) = some (r1, r2) := by rw [if_neg (show ¬ (false = true) by decide)] at H; exact H
          clear H
          have H := H1
          clear H1
          replace H := bo H; obtain ⟨tq1, A25, H⟩ := H
          (try dsimp only at H)
          by_cases c26 : tq1.toList = a0.toList
          ·rw [if_pos c26] at H
           have c26b0 : (tq1.toList == a0.toList) = true := beq_iff_eq.mpr c26
           have c26b1 : (tq1.toList != a0.toList) = false := bne_eq_false_iff_eq.mpr c26
           clear c26
           simp only [Option.some.injEq, Prod.mk.injEq] at H
           obtain ⟨rfl, rfl⟩ := H
           go_wp2_with (first | (refine gq 295 (some 59) Tryz.func295 #[.int .i64 x8_4] ?_; (with_reducible refine (az.calls k4 x8_4 tq1 _ A25.out).mono ?_); rintro e w27 ⟨rfl, hb⟩; refine ⟨_, rfl, ?_⟩; replace HB := bs HB hb; (try clear hb)))
           go_ret2
           exact ⟨re_, pB HB.out⟩
          ·rw [if_neg c26] at H
           have c26b0 : (tq1.toList == a0.toList) = false := beq_eq_false_iff_ne.mpr c26
           have c26b1 : (tq1.toList != a0.toList) = true := bne_iff_ne.mpr c26
           simp only [Option.some.injEq, Prod.mk.injEq] at H
           obtain ⟨rfl, rfl⟩ := H
           go_wp2_with (first | (refine gq 295 (some 59) Tryz.func295 #[.int .i64 x8_4] ?_; (with_reducible refine (az.calls k4 x8_4 tq1 _ A25.out).mono ?_); rintro e w28 ⟨rfl, hb⟩; refine ⟨_, rfl, ?_⟩; replace HB := bs HB hb; (try clear hb)))
           go_ret2
           exact ⟨re_, pB HB.out⟩
def b9.f (k : Nat) (a0 : ByteArray) : Option (Int × Bool) := (ax.f k a0 12).bind fun btq0 => (some (btq0.1, btq0.2))
theorem b9.mono : ∀ a0 k, LeO (b9.f k a0) (b9.f (k + 1) a0) := by
 intro a0 k
 unfold b9.f
 repeat' first | (with_reducible first | exact ax.mono _ _ _ | exact LeO.refl _ | exact LeO.none _ | refine LeO.ite ?_ ?_ | refine LeO.bind ?_ (fun _ => ?_)) | exact LeO.none _ | refine LeO.ite ?_ ?_ | refine LeO.bind ?_ (fun _ => ?_)
theorem b9.calls (k : Nat) (a0 : ByteArray) (r1 : Int) (r2 : Bool) (w : World) (h : b9.f k a0 = some (r1, r2)) :
  Calls Tryz.prog 284 #[.string a0] w fun e w' => e = .returned (.tuple #[.int .i64 r1, .bool r2]) ∧ Below w.heap.size w w' := by
 have HB := aQ (Below.refl w.heap.size w)
 have H := h
 clear h
 unfold b9.f at H
 (try dsimp only at H)
 replace H := bo H; obtain ⟨⟨tq0, tq1⟩, A2, H⟩ := H
 (try dsimp only at H)
 simp only [Option.some.injEq, Prod.mk.injEq] at H
 obtain ⟨rfl, rfl⟩ := H
 go_enter Tryz.func284, Tryz.ntmps284
 go_wp2_with (first | (refine gq 292 (some 5) Tryz.func292 #[.string a0, .int .i64 12] ?_; (with_reducible refine (ax.calls k a0 12 tq0 tq1 _ A2.out).mono ?_); rintro e w3 ⟨rfl, hb⟩; refine ⟨_, rfl, ?_⟩; replace HB := bs HB hb; (try clear hb)))
 go_ret2
 exact ⟨re_, pB HB.out⟩
def av.l0 : Nat → Int → List Int → Int → Option (Bool)
 | 0, _, _, _ => none
 | k + 1, x0, x1, x5 => if x5 < (x1.length : Int) then (if 0 ≤ x5 then ((aZ.f x0 (rd x1 x5)).bind fun tq0 => (if tq0 = true then (if x5 > 0 then (if 0 ≤ (wrap64 (x5 - 1)) then (if (wrap64 (x5 - 1)) < (x1.length : Int) then (if (rd x1 (wrap64 (x5 - 1))) ≥ (rd x1 x5) then (some false) else (av.l0 k x0 x1 (wrap64 (x5 + 1)))) else (none)) else (none)) else (av.l0 k x0 x1 (wrap64 (x5 + 1)))) else (some false))) else (none)) else ((a5.f x0 0 8).bind fun tq1 => (some tq1))
def av.f (k : Nat) (a0 : Int) (l1 : List Int) : Option (Bool) := av.l0 k a0 l1 0
theorem av.mono_l : ∀ k, (∀ y0 y1 y2, LeO (av.l0 k y0 y1 y2) (av.l0 (k + 1) y0 y1 y2))
 | 0 => fun _ _ _ r h => by simp [av.l0] at h
 | k + 1 => by
  have ih0 := av.mono_l k
  ·intro y0 y1 y2
   unfold av.l0
   repeat' first | (with_reducible first | exact ih0 _ _ _ | exact LeO.refl _ | exact LeO.none _ | refine LeO.ite ?_ ?_ | refine LeO.bind ?_ (fun _ => ?_)) | exact ih0 _ _ _ | exact LeO.none _ | refine LeO.ite ?_ ?_ | refine LeO.bind ?_ (fun _ => ?_)
theorem av.mono : ∀ a0 a1 k, LeO (av.f k a0 a1) (av.f (k + 1) a0 a1) := by
 intro a0 a1 k
 have ih0 := av.mono_l k
 unfold av.f
 repeat' first | (with_reducible first | exact ih0 _ _ _ | exact LeO.refl _ | exact LeO.none _ | refine LeO.ite ?_ ?_ | refine LeO.bind ?_ (fun _ => ?_)) | exact ih0 _ _ _ | exact LeO.none _ | refine LeO.ite ?_ ?_ | refine LeO.bind ?_ (fun _ => ?_)
theorem av.calls (k : Nat) (a0 : Int) (A1 : Option Addr) (c1 : Nat) (l1 : List Int) (r : Bool) (w : World) (hr1 : Kd.C (Kd.int .i64) w A1 l1.length l1) (hc1 : l1.length ≤ c1) (h : av.f k a0 l1 = some r) :
  Calls Tryz.prog 155 #[.int .i64 a0, .slice A1 l1.length c1] w fun e w' => e = .returned (.bool r) ∧ Drawn0 w w' := by
 have HR1 := aQ hr1
 have HC1 := aQ hc1
 clear hr1 hc1
 have H : (av.l0 k a0 l1 0) = some r := h
 clear h
 have H' := aQ H
 clear H
 go_enter Tryz.func155, Tryz.ntmps155
 go_wp2
 repeat (go_quiet (fail); try go_wp2)
 go_loopg [5] k (fun kq v5 w' => ∃ (x5_1 : Int), v5 = .int .i64 x5_1 ∧ Aside0 (av.l0 kq a0 l1 x5_1 = some r) ∧ Aside0 (kq ≤ k) ∧ Drawn0 w w')
 case atStart => exact ⟨(0), rs_, H', ⟨Nat.le_refl _⟩, rd_⟩
 clear H'
 try clear c1
 obtain ⟨x5_1, rfl, HA, HK1, ⟨m1, rfl⟩⟩ := hrel
 rcases gk with _ | k1
 ·exact absurd HA.out (by simp [av.l0])
 have H := HA.out
 clear HA
 simp only [av.l0] at H
 by_cases c3 : x5_1 < (l1.length : Int)
 ·rw [if_pos c3] at H
  have c3b0 := decide_eq_true c3
  clear c3
  replace H := gd H; obtain ⟨c4, H⟩ := H
  have c4b0 := decide_eq_true c4
  clear c4
  replace H := bo H; obtain ⟨tq0, A5, H⟩ := H
  (try dsimp only at H)
  by_cases c6 : tq0 = true
  ·subst c6
   rw [if_pos rfl] at H
   by_cases c7 : x5_1 > 0
   ·rw [if_pos c7] at H
    have c7b0 := decide_eq_true c7
    clear c7
    obtain ⟨ji8, hji8⟩ : ∃ j_ : Int, (wrap64 (x5_1 - 1)) = j_ := ⟨_, rfl⟩
    replace H : (if 0 ≤ (ji8) then (if (ji8) < (l1.length : Int) then (if (rd l1 (ji8)) ≥ (rd l1 x5_1) then (some false) else (av.l0 k1 a0 l1 (wrap64 (x5_1 + 1)))) else (none)) else (none)) = some r := by first | (rw [hji8] at H; exact H) | (simp only [hji8] at H ⊢; exact H)
    (try rw [hji8] at A5)
    have hji8w : (IntKind.i64.wrap (x5_1 - 1)) = ji8 := (i64_w _).trans hji8
    replace H := gd H; obtain ⟨c9, H⟩ := H
    have c9b0 := decide_eq_true c9
    clear c9
    replace H := gd H; obtain ⟨c10, H⟩ := H
    have c10b0 := decide_eq_true c10
    clear c10
    by_cases c11 : (rd l1 (ji8)) ≥ (rd l1 x5_1)
    ·rw [if_pos c11] at H
     have c11b0 := decide_eq_true c11
     clear c11
     obtain rfl := Option.some.inj H
     have pq2 : 0 ≤ (x5_1 : Int) := of_decide_eq_true as_
     have qq2 : x5_1 < (l1.length : Int) := of_decide_eq_true as_
     obtain ⟨adq2, eq2, hxq2_0⟩ := Kd.at_int HR1.out x5_1 pq2 qq2
     cases eq2
     replace pq2 := eq_true pq2
     replace qq2 := eq_true qq2
     go_wp2_with (first | (go_at_call 112; (with_reducible refine (aZ.calls a0 (rd l1 x5_1) true _ A5.out).mono ?_); rintro e w' ⟨rfl, ⟨nd, rfl⟩⟩; (try exact dq_); have pq3 : 0 ≤ ((ji8) : Int) := of_decide_eq_true as_; have qq3 : (ji8) < (l1.length : Int) := of_decide_eq_true as_; obtain ⟨adq3, eq3, hxq3_0⟩ := Kd.at_int HR1.out (ji8) pq3 qq3; obtain rfl : adq2 = adq3 := (by injection eq3); replace pq3 := eq_true pq3; replace qq3 := eq_true qq3; have pq4 : 0 ≤ (x5_1 : Int) := of_decide_eq_true as_; have qq4 : x5_1 < (l1.length : Int) := of_decide_eq_true as_; obtain ⟨adq4, eq4, hxq4_0⟩ := Kd.at_int HR1.out x5_1 pq4 qq4; obtain rfl : adq2 = adq4 := (by injection eq4); replace pq4 := eq_true pq4; replace qq4 := eq_true qq4))
     repeat (go_quiet (first | (go_at_call 112; (with_reducible refine (aZ.calls a0 (rd l1 x5_1) true _ A5.out).mono ?_); rintro e w' ⟨rfl, ⟨nd, rfl⟩⟩; (try exact dq_); have pq3 : 0 ≤ ((ji8) : Int) := of_decide_eq_true as_; have qq3 : (ji8) < (l1.length : Int) := of_decide_eq_true as_; obtain ⟨adq3, eq3, hxq3_0⟩ := Kd.at_int HR1.out (ji8) pq3 qq3; obtain rfl : adq2 = adq3 := (by injection eq3); replace pq3 := eq_true pq3; replace qq3 := eq_true qq3; have pq4 : 0 ≤ (x5_1 : Int) := of_decide_eq_true as_; have qq4 : x5_1 < (l1.length : Int) := of_decide_eq_true as_; obtain ⟨adq4, eq4, hxq4_0⟩ := Kd.at_int HR1.out x5_1 pq4 qq4; obtain rfl : adq2 = adq4 := (by injection eq4); replace pq4 := eq_true pq4; replace qq4 := eq_true qq4)); try go_wp2_with (first | (go_at_call 112; (with_reducible refine (aZ.calls a0 (rd l1 x5_1) true _ A5.out).mono ?_); rintro e w' ⟨rfl, ⟨nd, rfl⟩⟩; (try exact dq_); have pq3 : 0 ≤ ((ji8) : Int) := of_decide_eq_true as_; have qq3 : (ji8) < (l1.length : Int) := of_decide_eq_true as_; obtain ⟨adq3, eq3, hxq3_0⟩ := Kd.at_int HR1.out (ji8) pq3 qq3; obtain rfl : adq2 = adq3 := (by injection eq3); replace pq3 := eq_true pq3; replace qq3 := eq_true qq3; have pq4 : 0 ≤ (x5_1 : Int) := of_decide_eq_true as_; have qq4 : x5_1 < (l1.length : Int) := of_decide_eq_true as_; obtain ⟨adq4, eq4, hxq4_0⟩ := Kd.at_int HR1.out x5_1 pq4 qq4; obtain rfl : adq2 = adq4 := (by injection eq4); replace pq4 := eq_true pq4; replace qq4 := eq_true qq4)))
     go_ret
     exact ⟨by first | rfl | (simp; done) | (simp only [← hji8] <;> (first | rfl | simp)) | (simp [*]; done), rd_⟩
    ·rw [if_neg c11] at H
     have c11b0 := decide_eq_false c11
     clear c11
     have H' := aQ H
     clear H
     have pq2 : 0 ≤ (x5_1 : Int) := of_decide_eq_true as_
     have qq2 : x5_1 < (l1.length : Int) := of_decide_eq_true as_
     obtain ⟨adq2, eq2, hxq2_0⟩ := Kd.at_int HR1.out x5_1 pq2 qq2
     cases eq2
     replace pq2 := eq_true pq2
     replace qq2 := eq_true qq2
     go_wp2_with (first | (go_at_call 112; (with_reducible refine (aZ.calls a0 (rd l1 x5_1) true _ A5.out).mono ?_); rintro e w' ⟨rfl, ⟨nd, rfl⟩⟩; (try exact dq_); have pq3 : 0 ≤ ((ji8) : Int) := of_decide_eq_true as_; have qq3 : (ji8) < (l1.length : Int) := of_decide_eq_true as_; obtain ⟨adq3, eq3, hxq3_0⟩ := Kd.at_int HR1.out (ji8) pq3 qq3; obtain rfl : adq2 = adq3 := (by injection eq3); replace pq3 := eq_true pq3; replace qq3 := eq_true qq3; have pq4 : 0 ≤ (x5_1 : Int) := of_decide_eq_true as_; have qq4 : x5_1 < (l1.length : Int) := of_decide_eq_true as_; obtain ⟨adq4, eq4, hxq4_0⟩ := Kd.at_int HR1.out x5_1 pq4 qq4; obtain rfl : adq2 = adq4 := (by injection eq4); replace pq4 := eq_true pq4; replace qq4 := eq_true qq4))
     repeat (go_quiet (first | (go_at_call 112; (with_reducible refine (aZ.calls a0 (rd l1 x5_1) true _ A5.out).mono ?_); rintro e w' ⟨rfl, ⟨nd, rfl⟩⟩; (try exact dq_); have pq3 : 0 ≤ ((ji8) : Int) := of_decide_eq_true as_; have qq3 : (ji8) < (l1.length : Int) := of_decide_eq_true as_; obtain ⟨adq3, eq3, hxq3_0⟩ := Kd.at_int HR1.out (ji8) pq3 qq3; obtain rfl : adq2 = adq3 := (by injection eq3); replace pq3 := eq_true pq3; replace qq3 := eq_true qq3; have pq4 : 0 ≤ (x5_1 : Int) := of_decide_eq_true as_; have qq4 : x5_1 < (l1.length : Int) := of_decide_eq_true as_; obtain ⟨adq4, eq4, hxq4_0⟩ := Kd.at_int HR1.out x5_1 pq4 qq4; obtain rfl : adq2 = adq4 := (by injection eq4); replace pq4 := eq_true pq4; replace qq4 := eq_true qq4)); try go_wp2_with (first | (go_at_call 112; (with_reducible refine (aZ.calls a0 (rd l1 x5_1) true _ A5.out).mono ?_); rintro e w' ⟨rfl, ⟨nd, rfl⟩⟩; (try exact dq_); have pq3 : 0 ≤ ((ji8) : Int) := of_decide_eq_true as_; have qq3 : (ji8) < (l1.length : Int) := of_decide_eq_true as_; obtain ⟨adq3, eq3, hxq3_0⟩ := Kd.at_int HR1.out (ji8) pq3 qq3; obtain rfl : adq2 = adq3 := (by injection eq3); replace pq3 := eq_true pq3; replace qq3 := eq_true qq3; have pq4 : 0 ≤ (x5_1 : Int) := of_decide_eq_true as_; have qq4 : x5_1 < (l1.length : Int) := of_decide_eq_true as_; obtain ⟨adq4, eq4, hxq4_0⟩ := Kd.at_int HR1.out x5_1 pq4 qq4; obtain rfl : adq2 = adq4 := (by injection eq4); replace pq4 := eq_true pq4; replace qq4 := eq_true qq4)))
     go_roundg k1
     case measure => have := HK1.out; omega
     case rel => exact ⟨(wrap64 (x5_1 + 1)), rs_, H', ⟨by have := HK1.out; omega⟩, rd_⟩
   ·rw [if_neg c7] at H
    have c7b0 := decide_eq_false c7
    clear c7
    have H' := aQ H
    clear H
    have pq2 : 0 ≤ (x5_1 : Int) := of_decide_eq_true as_
    have qq2 : x5_1 < (l1.length : Int) := of_decide_eq_true as_
    obtain ⟨adq2, eq2, hxq2_0⟩ := Kd.at_int HR1.out x5_1 pq2 qq2
    cases eq2
    replace pq2 := eq_true pq2
    replace qq2 := eq_true qq2
    go_wp2_with (first | (go_at_call 112; (with_reducible refine (aZ.calls a0 (rd l1 x5_1) true _ A5.out).mono ?_); rintro e w' ⟨rfl, ⟨nd, rfl⟩⟩; (try exact dq_)))
    repeat (go_quiet (first | (go_at_call 112; (with_reducible refine (aZ.calls a0 (rd l1 x5_1) true _ A5.out).mono ?_); rintro e w' ⟨rfl, ⟨nd, rfl⟩⟩; (try exact dq_))); try go_wp2_with (first | (go_at_call 112; (with_reducible refine (aZ.calls a0 (rd l1 x5_1) true _ A5.out).mono ?_); rintro e w' ⟨rfl, ⟨nd, rfl⟩⟩; (try exact dq_))))
    go_roundg k1
    case measure => have := HK1.out; omega
    case rel => exact ⟨(wrap64 (x5_1 + 1)), rs_, H', ⟨by have := HK1.out; omega⟩, rd_⟩
  ·replace c6 := Bool.eq_false_iff.mpr c6
   subst c6
   have H1 : (some false) = some r := by rw [if_neg (show ¬ (false = true) by decide)] at H; exact H
   clear H
   have H := H1
   clear H1
   obtain rfl := Option.some.inj H
   have pq2 : 0 ≤ (x5_1 : Int) := of_decide_eq_true as_
   have qq2 : x5_1 < (l1.length : Int) := of_decide_eq_true as_
   obtain ⟨adq2, eq2, hxq2_0⟩ := Kd.at_int HR1.out x5_1 pq2 qq2
   cases eq2
   replace pq2 := eq_true pq2
   replace qq2 := eq_true qq2
   go_wp2_with (first | (go_at_call 112; (with_reducible refine (aZ.calls a0 (rd l1 x5_1) false _ A5.out).mono ?_); rintro e w' ⟨rfl, ⟨nd, rfl⟩⟩; (try exact dq_)))
   repeat (go_quiet (first | (go_at_call 112; (with_reducible refine (aZ.calls a0 (rd l1 x5_1) false _ A5.out).mono ?_); rintro e w' ⟨rfl, ⟨nd, rfl⟩⟩; (try exact dq_))); try go_wp2_with (first | (go_at_call 112; (with_reducible refine (aZ.calls a0 (rd l1 x5_1) false _ A5.out).mono ?_); rintro e w' ⟨rfl, ⟨nd, rfl⟩⟩; (try exact dq_))))
   go_ret
   exact ⟨rs_, rd_⟩
 ·rw [if_neg c3] at H
  have c3b0 := decide_eq_false c3
  clear c3
  replace H := bo H; obtain ⟨tq1, A12, H⟩ := H
  (try dsimp only at H)
  obtain rfl := Option.some.inj H
  go_wp2_with (first | (go_at_call 116; (with_reducible refine (a5.calls a0 0 8 tq1 _ A12.out).mono ?_); rintro e w' ⟨rfl, ⟨nd, rfl⟩⟩; (try exact dq_)))
  repeat (go_quiet (first | (go_at_call 116; (with_reducible refine (a5.calls a0 0 8 tq1 _ A12.out).mono ?_); rintro e w' ⟨rfl, ⟨nd, rfl⟩⟩; (try exact dq_))); try go_wp2_with (first | (go_at_call 116; (with_reducible refine (a5.calls a0 0 8 tq1 _ A12.out).mono ?_); rintro e w' ⟨rfl, ⟨nd, rfl⟩⟩; (try exact dq_))))
  go_ret
  exact ⟨rs_, rd_⟩
def dh.f (a0 : Int) (a1 : Int) : Option (Int) := (aZ.f 8 a0).bind fun tq0 => (if tq0 = true then ((a5.f a1 0 7).bind fun tq1 => (if tq1 = true then (if 0 ≤ (IntKind.u64.wrap (a1)) then (some (Go.bits .or .i64 a0 (shl .i64 1 (IntKind.u64.wrap (a1))))) else (none)) else (some a0))) else (some a0))
theorem dh.calls (a0 : Int) (a1 : Int) (r : Int) (w : World) (h : dh.f a0 a1 = some r) :
  Calls Tryz.prog 61 #[.int .i64 a0, .int .i64 a1] w fun e w' => e = .returned (.int .i64 r) ∧ Drawn0 w w' := by
 have H := h
 clear h
 unfold dh.f at H
 (try dsimp only at H)
 replace H := bo H; obtain ⟨tq0, A3, H⟩ := H
 (try dsimp only at H)
 by_cases c4 : tq0 = true
 ·subst c4
  rw [if_pos rfl] at H
  replace H := bo H; obtain ⟨tq1, A5, H⟩ := H
  (try dsimp only at H)
  by_cases c6 : tq1 = true
  ·subst c6
   rw [if_pos rfl] at H
   obtain ⟨ji7, hji7⟩ : ∃ j_ : Int, (IntKind.u64.wrap (a1)) = j_ := ⟨_, rfl⟩
   replace H : (if 0 ≤ (ji7) then (some (Go.bits .or .i64 a0 (shl .i64 1 (ji7)))) else (none)) = some r := by first | (rw [hji7] at H; exact H) | (simp only [hji7] at H ⊢; exact H)
   (try rw [hji7] at A3)
   (try rw [hji7] at A5)
   replace H := gd H; obtain ⟨c8, H⟩ := H
   have c8b0 := eq_true c8
   have c8b1 := decide_eq_true c8
   clear c8
   obtain ⟨ji9, hji9⟩ : ∃ j_ : Int, (shl .i64 1 (ji7)) = j_ := ⟨_, rfl⟩
   replace H : (some (Go.bits .or .i64 a0 (ji9))) = some r := by first | (rw [hji9] at H; exact H) | (simp only [hji9] at H ⊢; exact H)
   (try rw [hji9] at A3)
   (try rw [hji9] at A5)
   have hji9_ : (IntKind.i64.wrap (1 * 2 ^ min (ji7).toNat 64)) = ji9 := hji9
   have hji9z : (ji7) ≤ 64 → (IntKind.i64.wrap (1 * 2 ^ (ji7).toNat)) = ji9 := cP hji9
   have hji9u : (IntKind.i64.wrap (2 ^ min (ji7).toNat 64)) = ji9 := by have h_ := hji9_; rw [Int.one_mul] at h_; exact h_
   have hji9v : (ji7) ≤ 64 → (IntKind.i64.wrap (2 ^ (ji7).toNat)) = ji9 := fun hle_ => by have h_ := hji9z hle_; rw [Int.one_mul] at h_; exact h_
   have hji9y : (wrap64 (1 * 2 ^ min (ji7).toNat 64)) = ji9 := (i64_w _).symm.trans hji9_
   have hji9x : (ji7) ≤ 64 → (wrap64 (1 * 2 ^ (ji7).toNat)) = ji9 := fun h_ => (i64_w _).symm.trans (hji9z h_)
   obtain rfl := Option.some.inj H
   go_enter Tryz.func61, Tryz.ntmps61
   go_wp2_with (first | (refine gq 112 (some 6) Tryz.func112 #[.int .i64 8, .int .i64 a0] ?_; (with_reducible refine (aZ.calls 8 a0 true _ A3.out).mono ?_); rintro e w' ⟨rfl, ⟨nd, rfl⟩⟩; refine ⟨_, rfl, ?_⟩) | (go_at_call 116; (with_reducible refine (a5.calls a1 0 7 true _ A5.out).mono ?_); rintro e w' ⟨rfl, ⟨nd, rfl⟩⟩))
   go_ret
   exact ⟨by first | rfl | (simp; done) | (simp only [← hji7, ← hji9] <;> (first | rfl | simp)) | (simp [*]; done), rd_⟩
  ·replace c6 := Bool.eq_false_iff.mpr c6
   subst c6
   have H1 : (some a0) = some r := by rw [if_neg (show ¬ (false = true) by decide)] at H; exact H
   clear H
   have H := H1
   clear H1
   obtain rfl := Option.some.inj H
   go_enter Tryz.func61, Tryz.ntmps61
   go_wp2_with (first | (refine gq 112 (some 6) Tryz.func112 #[.int .i64 8, .int .i64 a0] ?_; (with_reducible refine (aZ.calls 8 a0 true _ A3.out).mono ?_); rintro e w' ⟨rfl, ⟨nd, rfl⟩⟩; refine ⟨_, rfl, ?_⟩) | (go_at_call 116; (with_reducible refine (a5.calls a1 0 7 false _ A5.out).mono ?_); rintro e w' ⟨rfl, ⟨nd, rfl⟩⟩))
   go_ret
   exact ⟨rs_, rd_⟩
 ·replace c4 := Bool.eq_false_iff.mpr c4
  subst c4
  have H1 : (some a0) = some r := by rw [if_neg (show ¬ (false = true) by decide)] at H; exact H
  clear H
  have H := H1
  clear H1
  obtain rfl := Option.some.inj H
  go_enter Tryz.func61, Tryz.ntmps61
  go_wp2_with (first | (refine gq 112 (some 6) Tryz.func112 #[.int .i64 8, .int .i64 a0] ?_; (with_reducible refine (aZ.calls 8 a0 false _ A3.out).mono ?_); rintro e w' ⟨rfl, ⟨nd, rfl⟩⟩; refine ⟨_, rfl, ?_⟩))
  go_ret
  exact ⟨rs_, rd_⟩
def aN.l0 : Nat → Int → List Int → Int → Option (List Int)
 | 0, _, _, _ => none
 | k + 1, x0, x3, x4 => if x4 < 8 then ((bJ.f x0 x4).bind fun tq0 => (if tq0 = true then (if x3.length < 17592186044416 then (aN.l0 k x0 (x3 ++ [x4]) (wrap64 (x4 + 1))) else (none)) else (aN.l0 k x0 x3 (wrap64 (x4 + 1))))) else (some x3)
def aN.f (k : Nat) (a0 : Int) : Option (List Int) := aN.l0 k a0 (([] : List Int)) 0
theorem aN.mono_l : ∀ k, (∀ y0 y1 y2, LeO (aN.l0 k y0 y1 y2) (aN.l0 (k + 1) y0 y1 y2))
 | 0 => fun _ _ _ r h => by simp [aN.l0] at h
 | k + 1 => by
  have ih0 := aN.mono_l k
  ·intro y0 y1 y2
   unfold aN.l0
   repeat' first | (with_reducible first | exact ih0 _ _ _ | exact LeO.refl _ | exact LeO.none _ | refine LeO.ite ?_ ?_ | refine LeO.bind ?_ (fun _ => ?_)) | exact ih0 _ _ _ | exact LeO.none _ | refine LeO.ite ?_ ?_ | refine LeO.bind ?_ (fun _ => ?_)
theorem aN.mono : ∀ a0 k, LeO (aN.f k a0) (aN.f (k + 1) a0) := by
 intro a0 k
 have ih0 := aN.mono_l k
 unfold aN.f
 repeat' first | (with_reducible first | exact ih0 _ _ _ | exact LeO.refl _ | exact LeO.none _ | refine LeO.ite ?_ ?_ | refine LeO.bind ?_ (fun _ => ?_)) | exact ih0 _ _ _ | exact LeO.none _ | refine LeO.ite ?_ ?_ | refine LeO.bind ?_ (fun _ => ?_)
theorem aN.calls (k : Nat) (a0 : Int) (r : List Int) (w : World) (h : aN.f k a0 = some r) :
  Calls Tryz.prog 241 #[.int .i64 a0] w fun e w' => ∃ v0_ : Value, e = .returned (v0_) ∧ Kd.R (Kd.int .i64) 3 w' w.heap.size (fun _ => True) v0_ r ∧ Below w.heap.size w w' := by
 have HB := aQ (Below.refl w.heap.size w)
 have H : (aN.l0 k a0 (([] : List Int)) 0) = some r := h
 clear h
 obtain ⟨yq1, hyq1⟩ : ∃ y_ : List Int, y_ = (([] : List Int)) := ⟨_, rfl⟩
 replace H : (aN.l0 k a0 yq1 0) = some r := by first | (rw [hyq1]; with_reducible exact H) | (rw [hyq1]; exact H)
 have Nyq1 := aQ hyq1
 clear hyq1
 have H' := aQ H
 clear H
 go_enter Tryz.func241, Tryz.ntmps241
 go_wp2_with (first | ((with_reducible refine af (N := 5) rfl ?_); refine Kd.R_lit (Kd.int .i64) _ 3 ?hg (N := 5) ?hd (xs := ([] : List Int)) (inner := []) (ok := fun _ => True) (okp := fun _ => True) ?hr ?hp (fun _ hk => hk) trivial (Below.refl _ _) (Nat.le_refl _) (by simp) ?_; (case hd => rfl); (case hg => rfl); (case hr => first | (go_simp; done) | (go_simp; rfl)); (case hp => exact (Reps.none _ _)); intro vq2 w2 ho3 hb hg_ hnew_; clear hg_ hnew_; (first | rw [← Nyq1.out] at ho3 | (simp only [Int.reduceToNat] at ho3; rw [← Nyq1.out] at ho3)); have HOq3 := aQ (Kd.R_lower ho3 (aa (pB HB.out))); replace HB := bs HB hb; clear hb ho3))
 go_loopg [3, 4] k (fun kq v3 v4 w' => ∃ (x3_1 : List Int) (x4_1 : Int), v4 = .int .i64 x4_1 ∧ Aside0 (aN.l0 kq a0 x3_1 x4_1 = some r) ∧ Aside0 (kq ≤ k) ∧ Aside0 (Kd.R (Kd.int .i64) 3 w' w.heap.size (fun _ => True) v3 x3_1) ∧ Aside0 (Below w.heap.size w w'))
 case atStart => exact ⟨(yq1), (0), rs_, H', ⟨Nat.le_refl _⟩, ⟨pR HOq3.out⟩, ⟨pB HB.out⟩⟩
 clear H'
 obtain ⟨x3_1, x4_1, rfl, HA, HK1, HO_3, HB⟩ := hrel
 rcases gk with _ | k1
 ·exact absurd HA.out (by simp [aN.l0])
 have H := HA.out
 clear HA
 simp only [aN.l0] at H
 by_cases c4 : x4_1 < 8
 ·rw [if_pos c4] at H
  have c4b0 := decide_eq_true c4
  clear c4
  replace H := bo H; obtain ⟨tq0, A5, H⟩ := H
  (try dsimp only at H)
  by_cases c6 : tq0 = true
  ·subst c6
   rw [if_pos rfl] at H
   replace H := gd H; obtain ⟨c7, H⟩ := H
   have LMc7 := aQ c7
   clear c7
   obtain ⟨yq4, hyq4⟩ : ∃ y_ : List Int, y_ = (x3_1 ++ [x4_1]) := ⟨_, rfl⟩
   replace H : (aN.l0 k1 a0 yq4 (wrap64 (x4_1 + 1))) = some r := by first | (rw [hyq4]; with_reducible exact H) | (rw [hyq4]; exact H)
   have Nyq4 := aQ hyq4
   clear hyq4
   have H' := aQ H
   clear H
   go_wp2_with (first | (refine gq 41 (some 12) Tryz.func41 #[.int .i64 a0, .int .i64 x4_1] ?_; (with_reducible refine (bJ.calls a0 x4_1 true _ A5.out).mono ?_); rintro e w' ⟨rfl, ⟨nd, rfl⟩⟩; refine ⟨_, rfl, ?_⟩) | ((with_reducible refine aW (b := .append) (xs := #[.tmp 13, .tmp 15]) rfl ?_); at_builtin; refine Kd.R_append (Kd.int .i64) (w0 := w) w.heap.size rfl (.tmp 13) (.tmp 15) 24 3 (.int .i64 0) 8 rfl Tryz.underlying24 bR rfl (by decide) (by omega) u3 x3_1 x4_1 [.int .i64 x4_1] (fun _ => True) (fun _ => False) rfl rfl ?aP (fun _ hk => hk.elim) ?aF ?aO ?aB ?aS ?aL ?_; (case aP => exact rfl); (case aB => exact (pB HB.out)); (case aF => exact (fun _ _ => trivial)); (case aO => exact (pR HO_3.out)); (case aS => exact (aa (pB HB.out))); (case aL => have := LMc7.out; omega); intro vq5 w8 ho hb hg hat; rw [← Nyq4.out] at ho; replace HB := aQ (hb); have HOq6 := aQ (ho); clear HO_3; clear ho hb hg hat))
   go_roundg k1
   case measure => have := HK1.out; omega
   case rel => exact ⟨(yq4), (wrap64 (x4_1 + 1)), rs_, H', ⟨by have := HK1.out; omega⟩, ⟨pR HOq6.out⟩, ⟨pB HB.out⟩⟩
  ·replace c6 := Bool.eq_false_iff.mpr c6
   subst c6
   have H1 : (aN.l0 k1 a0 x3_1 (wrap64 (x4_1 + 1))) = some r := by rw [if_neg (show ¬ (false = true) by decide)] at H; exact H
   clear H
   have H := H1
   clear H1
   have H' := aQ H
   clear H
   go_wp2_with (first | (refine gq 41 (some 12) Tryz.func41 #[.int .i64 a0, .int .i64 x4_1] ?_; (with_reducible refine (bJ.calls a0 x4_1 false _ A5.out).mono ?_); rintro e w' ⟨rfl, ⟨nd, rfl⟩⟩; refine ⟨_, rfl, ?_⟩))
   go_roundg k1
   case measure => have := HK1.out; omega
   case rel => exact ⟨(x3_1), (wrap64 (x4_1 + 1)), rs_, H', ⟨by have := HK1.out; omega⟩, ⟨pR HO_3.out⟩, ⟨pB HB.out⟩⟩
 ·rw [if_neg c4] at H
  have c4b0 := decide_eq_false c4
  clear c4
  obtain rfl := Option.some.inj H
  go_wp2
  go_ret
  exact ⟨_, by first | rfl | (simp [errW_none, aj] <;> rfl) | (simp [*, errW_none, aj] <;> rfl), by refine pRx ?_; exact HO_3.out, pB HB.out⟩
def a8.l0 : Nat → ByteArray → List Int → Int → Option (ByteArray)
 | 0, _, _, _ => none
 | k + 1, x3, x4, x5 => if x5 < (x4.length : Int) then (if 0 ≤ x5 then (if 0 ≤ (rd x4 x5) then (if (rd x4 x5) ≤ (wrap64 ((rd x4 x5) + 1)) then (if (wrap64 ((rd x4 x5) + 1)) ≤ 8 then (if x3.size + ((⟨#[97, 98, 99, 100, 101, 102, 103, 104]⟩ : ByteArray).extract ((rd x4 x5) : Int).toNat ((wrap64 ((rd x4 x5) + 1)) : Int).toNat).size ≤ 9223372036854775807 then (a8.l0 k (x3 ++ ((⟨#[97, 98, 99, 100, 101, 102, 103, 104]⟩ : ByteArray).extract ((rd x4 x5) : Int).toNat ((wrap64 ((rd x4 x5) + 1)) : Int).toNat)) x4 (wrap64 (x5 + 1))) else (none)) else (none)) else (none)) else (none)) else (none)) else (some x3)
def a8.f (k : Nat) (a0 : Int) : Option (ByteArray) := (aZ.f 8 a0).bind fun tq0 => (if tq0 = true then (if a0 = 0 then (some (⟨#[45]⟩ : ByteArray)) else ((aN.f k a0).bind fun tq1 => (a8.l0 k (⟨#[]⟩ : ByteArray) tq1 0))) else (some (⟨#[]⟩ : ByteArray)))
theorem a8.mono_l : ∀ k, (∀ y0 y1 y2, LeO (a8.l0 k y0 y1 y2) (a8.l0 (k + 1) y0 y1 y2))
 | 0 => fun _ _ _ r h => by simp [a8.l0] at h
 | k + 1 => by
  have ih0 := a8.mono_l k
  ·intro y0 y1 y2
   unfold a8.l0
   repeat' first | (with_reducible first | exact ih0 _ _ _ | exact aN.mono _ _ | exact LeO.refl _ | exact LeO.none _ | refine LeO.ite ?_ ?_ | refine LeO.bind ?_ (fun _ => ?_)) | exact ih0 _ _ _ | exact LeO.none _ | refine LeO.ite ?_ ?_ | refine LeO.bind ?_ (fun _ => ?_)
theorem a8.mono : ∀ a0 k, LeO (a8.f k a0) (a8.f (k + 1) a0) := by
 intro a0 k
 have ih0 := a8.mono_l k
 unfold a8.f
 repeat' first | (with_reducible first | exact ih0 _ _ _ | exact aN.mono _ _ | exact LeO.refl _ | exact LeO.none _ | refine LeO.ite ?_ ?_ | refine LeO.bind ?_ (fun _ => ?_)) | exact ih0 _ _ _ | exact LeO.none _ | refine LeO.ite ?_ ?_ | refine LeO.bind ?_ (fun _ => ?_)
theorem a8.calls (k : Nat) (a0 : Int) (r : ByteArray) (w : World) (h : a8.f k a0 = some r) :
  Calls Tryz.prog 298 #[.int .i64 a0] w fun e w' => e = .returned (.string r) ∧ Below w.heap.size w w' := by
 have HB := aQ (Below.refl w.heap.size w)
 have H := h
 clear h
 unfold a8.f at H
 (try dsimp only at H)
 replace H := bo H; obtain ⟨tq0, A2, H⟩ := H
 (try dsimp only at H)
 by_cases c3 : tq0 = true
 ·subst c3
  rw [if_pos rfl] at H
  by_cases c4 : a0 = 0
  ·rw [if_pos c4] at H
   have c4b0 : (a0 == 0) = true := beq_iff_eq.mpr c4
   have c4b1 : (a0 != 0) = false := bne_eq_false_iff_eq.mpr c4
   clear c4
   obtain rfl := Option.some.inj H
   go_enter Tryz.func298, Tryz.ntmps298
   go_wp2_with (first | (go_at_call 112; (with_reducible refine (aZ.calls 8 a0 true _ A2.out).mono ?_); rintro e w' ⟨rfl, ⟨nd, rfl⟩⟩; (try exact dq_)))
   repeat (go_quiet (first | (go_at_call 112; (with_reducible refine (aZ.calls 8 a0 true _ A2.out).mono ?_); rintro e w' ⟨rfl, ⟨nd, rfl⟩⟩; (try exact dq_))); try go_wp2_with (first | (go_at_call 112; (with_reducible refine (aZ.calls 8 a0 true _ A2.out).mono ?_); rintro e w' ⟨rfl, ⟨nd, rfl⟩⟩; (try exact dq_))))
   go_ret
   exact ⟨re_, pB HB.out⟩
  ·rw [if_neg c4] at H
   have c4b0 : (a0 == 0) = false := beq_eq_false_iff_ne.mpr c4
   have c4b1 : (a0 != 0) = true := bne_iff_ne.mpr c4
   replace H := bo H; obtain ⟨tq1, A5, H⟩ := H
   (try dsimp only at H)
   have H' := aQ H
   clear H
   go_enter Tryz.func298, Tryz.ntmps298
   go_wp2_with (first | (go_at_call 112; (with_reducible refine (aZ.calls 8 a0 true _ A2.out).mono ?_); rintro e w' ⟨rfl, ⟨nd, rfl⟩⟩; (try exact dq_)) | (go_at_call 241; (with_reducible refine (aN.calls k a0 tq1 _ A5.out).mono ?_); rintro e w6 ⟨vq2, rfl, ho0, hb⟩; have HOq3 := aQ (Kd.R_lower ho0 (aa (pB HB.out))); replace HB := bs HB hb; (try clear hb); (try clear ho0)))
   repeat (go_quiet (first | (go_at_call 112; (with_reducible refine (aZ.calls 8 a0 true _ A2.out).mono ?_); rintro e w' ⟨rfl, ⟨nd, rfl⟩⟩; (try exact dq_)) | (go_at_call 241; (with_reducible refine (aN.calls k a0 tq1 _ A5.out).mono ?_); rintro e w6 ⟨vq2, rfl, ho0, hb⟩; have HOq3 := aQ (Kd.R_lower ho0 (aa (pB HB.out))); replace HB := bs HB hb; (try clear hb); (try clear ho0))); try go_wp2_with (first | (go_at_call 112; (with_reducible refine (aZ.calls 8 a0 true _ A2.out).mono ?_); rintro e w' ⟨rfl, ⟨nd, rfl⟩⟩; (try exact dq_)) | (go_at_call 241; (with_reducible refine (aN.calls k a0 tq1 _ A5.out).mono ?_); rintro e w6 ⟨vq2, rfl, ho0, hb⟩; have HOq3 := aQ (Kd.R_lower ho0 (aa (pB HB.out))); replace HB := bs HB hb; (try clear hb); (try clear ho0))))
   go_loopg [3, 5] k (fun kq v3 v5 w' => ∃ (x3_1 : ByteArray) (x5_1 : Int), v3 = .string x3_1 ∧ v5 = .int .i64 x5_1 ∧ Aside0 (a8.l0 kq x3_1 tq1 x5_1 = some r) ∧ Aside0 (kq ≤ k) ∧ Aside0 (Kd.R (Kd.int .i64) 3 w' w.heap.size (fun _ => True) vq2 tq1) ∧ Aside0 (Below w.heap.size w w'))
   case atStart => exact ⟨((⟨#[]⟩ : ByteArray)), (0), rs_, rs_, H', ⟨Nat.le_refl _⟩, ⟨pR HOq3.out⟩, ⟨pB HB.out⟩⟩
   clear H'
   try clear c3
   try clear c4
   try clear c4b0
   try clear c4b1
   obtain ⟨x3_1, x5_1, rfl, rfl, HA, HK1, HO_4, HB⟩ := hrel
   rcases gk with _ | k1
   ·exact absurd HA.out (by simp [a8.l0])
   have H := HA.out
   clear HA
   simp only [a8.l0] at H
   by_cases c7 : x5_1 < (tq1.length : Int)
   ·rw [if_pos c7] at H
    have c7b0 := decide_eq_true c7
    clear c7
    replace H := gd H; obtain ⟨c8, H⟩ := H
    have c8b0 := decide_eq_true c8
    clear c8
    replace H := gd H; obtain ⟨c9, H⟩ := H
    have c9b0 := eq_true c9
    have c9b1 := decide_eq_true c9
    clear c9
    replace H := gd H; obtain ⟨c10, H⟩ := H
    have c10b0 := eq_true c10
    have c10b1 := decide_eq_true c10
    replace H := gd H; obtain ⟨c11, H⟩ := H
    have c11b0 := eq_true c11
    have c11b1 := decide_eq_true c11
    replace H := gd H; obtain ⟨c12, H⟩ := H
    have c12b0 := eq_true c12
    have c12b1 := decide_eq_true c12
    try have c12b2 : (9223372036854775807 < x3_1.size + ((⟨#[97, 98, 99, 100, 101, 102, 103, 104]⟩ : ByteArray).extract ((rd tq1 x5_1) : Int).toNat ((wrap64 ((rd tq1 x5_1) + 1)) : Int).toNat).size) = False := eq_false (Nat.not_lt.2 c12)
    have H' := aQ H
    clear H
    obtain ⟨Ao13, co13, eo13⟩ := Kd.R_slice HO_4.out
    subst eo13
    have pq4 : 0 ≤ (x5_1 : Int) := of_decide_eq_true as_
    have qq4 : x5_1 < (tq1.length : Int) := of_decide_eq_true as_
    obtain ⟨adq4, eq4, hxq4_0⟩ := Kd.at_int (Kd.R_reads' HO_4.out).2.2 x5_1 pq4 qq4
    cases eq4
    replace pq4 := eq_true pq4
    replace qq4 := eq_true qq4
    have pq5 : 0 ≤ (x5_1 : Int) := of_decide_eq_true as_
    have qq5 : x5_1 < (tq1.length : Int) := of_decide_eq_true as_
    obtain ⟨adq5, eq5, hxq5_0⟩ := Kd.at_int (Kd.R_reads' HO_4.out).2.2 x5_1 pq5 qq5
    obtain rfl : adq4 = adq5 := (by injection eq5)
    replace pq5 := eq_true pq5
    replace qq5 := eq_true qq5
    go_wp2
    repeat (go_quiet (fail); try go_wp2)
    go_roundg k1
    case measure => have := HK1.out; omega
    case rel => exact ⟨(x3_1 ++ ((⟨#[97, 98, 99, 100, 101, 102, 103, 104]⟩ : ByteArray).extract ((rd tq1 x5_1) : Int).toNat ((wrap64 ((rd tq1 x5_1) + 1)) : Int).toNat)), (wrap64 (x5_1 + 1)), rs_, rs_, H', ⟨by have := HK1.out; omega⟩, ⟨pR HO_4.out⟩, ⟨pB HB.out⟩⟩
   ·rw [if_neg c7] at H
    have c7b0 := decide_eq_false c7
    clear c7
    obtain rfl := Option.some.inj H
    obtain ⟨Ao14, co14, eo14⟩ := Kd.R_slice HO_4.out
    subst eo14
    go_wp2
    repeat (go_quiet (fail); try go_wp2)
    go_ret
    exact ⟨re_, pB HB.out⟩
 ·replace c3 := Bool.eq_false_iff.mpr c3
  subst c3
  have H1 : (some (⟨#[]⟩ : ByteArray)) = some r := by rw [if_neg (show ¬ (false = true) by decide)] at H; exact H
  clear H
  have H := H1
  clear H1
  obtain rfl := Option.some.inj H
  go_enter Tryz.func298, Tryz.ntmps298
  go_wp2_with (first | (go_at_call 112; (with_reducible refine (aZ.calls 8 a0 false _ A2.out).mono ?_); rintro e w' ⟨rfl, ⟨nd, rfl⟩⟩; (try exact dq_)))
  repeat (go_quiet (first | (go_at_call 112; (with_reducible refine (aZ.calls 8 a0 false _ A2.out).mono ?_); rintro e w' ⟨rfl, ⟨nd, rfl⟩⟩; (try exact dq_))); try go_wp2_with (first | (go_at_call 112; (with_reducible refine (aZ.calls 8 a0 false _ A2.out).mono ?_); rintro e w' ⟨rfl, ⟨nd, rfl⟩⟩; (try exact dq_))))
  go_ret
  exact ⟨re_, pB HB.out⟩
mutual
def aM.l0 : Nat → ByteArray → Int → Int → Option (Int × Bool)
 | 0, _, _, _ => none
 | k + 1, x0, x4, x5 => if x5 < (x0.size : Int) then (aM.j1 k x0 x4 x5 (x0.toList != ([45] : List UInt8))) else (aM.j1 k x0 x4 x5 false)
def aM.j1 : Nat → ByteArray → Int → Int → Bool → Option (Int × Bool)
 | 0, _, _, _, _ => none
 | k + 1, x0, x4, x5, x13 => if x13 = true then (if 0 ≤ x5 then (if x5 < (x0.size : Int) then (if (bt x0 x5) < 97 then (some (0, false)) else (if (bt x0 x5) > 104 then (some (0, false)) else ((dh.f x4 (((bt x0 x5) - 97) % 256)).bind fun tq0 => (aM.l0 k x0 tq0 (wrap64 (x5 + 1)))))) else (none)) else (none)) else ((a8.f k x4).bind fun tq1 => (if tq1.toList = x0.toList then (some (x4, true)) else (some (0, false))))
end
def aM.f (k : Nat) (a0 : ByteArray) : Option (Int × Bool) := aM.l0 k a0 0 0
theorem aM.mono_l : ∀ k, (∀ y0 y1 y2, LeO (aM.l0 k y0 y1 y2) (aM.l0 (k + 1) y0 y1 y2)) ∧ (∀ y0 y1 y2 y3, LeO (aM.j1 k y0 y1 y2 y3) (aM.j1 (k + 1) y0 y1 y2 y3))
 | 0 => ⟨fun _ _ _ r h => by simp [aM.l0] at h, fun _ _ _ _ r h => by simp [aM.j1] at h⟩
 | k + 1 => by
  obtain ⟨ih0, ih1⟩ := aM.mono_l k
  refine ⟨?_, ?_⟩
  ·intro y0 y1 y2
   unfold aM.l0
   repeat' first | (with_reducible first | exact ih0 _ _ _ | exact ih1 _ _ _ _ | exact a8.mono _ _ | exact LeO.refl _ | exact LeO.none _ | refine LeO.ite ?_ ?_ | refine LeO.bind ?_ (fun _ => ?_)) | exact ih0 _ _ _ | exact ih1 _ _ _ _ | exact LeO.none _ | refine LeO.ite ?_ ?_ | refine LeO.bind ?_ (fun _ => ?_)
  ·intro y0 y1 y2 y3
   unfold aM.j1
   repeat' first | (with_reducible first | exact ih0 _ _ _ | exact ih1 _ _ _ _ | exact a8.mono _ _ | exact LeO.refl _ | exact LeO.none _ | refine LeO.ite ?_ ?_ | refine LeO.bind ?_ (fun _ => ?_)) | exact ih0 _ _ _ | exact ih1 _ _ _ _ | exact LeO.none _ | refine LeO.ite ?_ ?_ | refine LeO.bind ?_ (fun _ => ?_)
theorem aM.mono : ∀ a0 k, LeO (aM.f k a0) (aM.f (k + 1) a0) := by
 intro a0 k
 obtain ⟨ih0, ih1⟩ := aM.mono_l k
 unfold aM.f
 repeat' first | (with_reducible first | exact ih0 _ _ _ | exact ih1 _ _ _ _ | exact a8.mono _ _ | exact LeO.refl _ | exact LeO.none _ | refine LeO.ite ?_ ?_ | refine LeO.bind ?_ (fun _ => ?_)) | exact ih0 _ _ _ | exact ih1 _ _ _ _ | exact LeO.none _ | refine LeO.ite ?_ ?_ | refine LeO.bind ?_ (fun _ => ?_)
theorem aM.calls (k : Nat) (a0 : ByteArray) (r1 : Int) (r2 : Bool) (w : World) (h : aM.f k a0 = some (r1, r2)) :
  Calls Tryz.prog 293 #[.string a0] w fun e w' => e = .returned (.tuple #[.int .i64 r1, .bool r2]) ∧ Below w.heap.size w w' := by
 have HB := aQ (Below.refl w.heap.size w)
 have H : (aM.l0 k a0 0 0) = some (r1, r2) := h
 clear h
 have H' := aQ H
 clear H
 go_enter Tryz.func293, Tryz.ntmps293
 go_wp2
 go_loopg [4, 5] k (fun kq v4 v5 w' => ∃ (x4_1 : Int) (x5_1 : Int), v4 = .int .i64 x4_1 ∧ v5 = .int .i64 x5_1 ∧ Aside0 (aM.l0 kq a0 x4_1 x5_1 = some (r1, r2)) ∧ Aside0 (kq ≤ k) ∧ Aside0 (Below w.heap.size w w'))
 case atStart => exact ⟨(0), (0), rs_, rs_, H', ⟨Nat.le_refl _⟩, ⟨pB HB.out⟩⟩
 clear H'
 obtain ⟨x4_1, x5_1, rfl, rfl, HA, HK1, HB⟩ := hrel
 rcases gk with _ | k1
 ·exact absurd HA.out (by simp [aM.l0])
 have H := HA.out
 clear HA
 simp only [aM.l0] at H
 have HC2 := aQ H
 clear H
 go_upto_region 3 with (fail)
 go_cut [13] (fun v13 wc => ∃ (kq : Nat) (x13_1 : Bool), v13 = .bool x13_1 ∧ Aside0 (aM.j1 kq a0 x4_1 x5_1 x13_1 = some (r1, r2)) ∧ Aside0 (kq ≤ k1) ∧ Aside0 (Below w.heap.size w wc))
 case first =>
  have H := HC2.out
  clear HC2
  by_cases c3 : x5_1 < (a0.size : Int)
  ·rw [if_pos c3] at H
   have c3b0 := decide_eq_true c3
   clear c3
   (first | rw [c3b0] | (simp only [i64_w, cI]; rw [c3b0]) | skip)
   have H' := aQ H
   clear H
   go_wp2
   go_meet
   case rel => exact ⟨_, ((a0.toList != ([45] : List UInt8))), rs_, H', ⟨by have := HK1.out; first | omega | exact Nat.le_refl _⟩, ⟨pB HB.out⟩⟩
  ·rw [if_neg c3] at H
   have c3b0 := decide_eq_false c3
   clear c3
   (first | rw [c3b0] | (simp only [i64_w, cI]; rw [c3b0]) | skip)
   have H' := aQ H
   clear H
   go_wp2
   go_meet
   case rel => exact ⟨_, (false), rs_, H', ⟨by have := HK1.out; first | omega | exact Nat.le_refl _⟩, ⟨pB HB.out⟩⟩
 case rest =>
  clear HC2
  obtain ⟨kq, x13_1, rfl, HA, HJ1, HB⟩ := hcut
  cases kq with
  | zero => exact absurd HA.out (by simp [aM.j1])
  | succ kj1 =>
   have H := HA.out
   clear HA
   simp only [aM.j1] at H
   by_cases c4 : x13_1 = true
   ·subst c4
    rw [if_pos rfl] at H
    replace H := gd H; obtain ⟨c5, H⟩ := H
    have c5b0 := decide_eq_true c5
    clear c5
    replace H := gd H; obtain ⟨c6, H⟩ := H
    have c6b0 := decide_eq_true c6
    clear c6
    by_cases c8 : (bt a0 x5_1) < 97
    ·rw [if_pos c8] at H
     have c8b0 := decide_eq_true c8
     clear c8
     simp only [Option.some.injEq, Prod.mk.injEq] at H
     obtain ⟨rfl, rfl⟩ := H
     have p7 : 0 ≤ (x5_1 : Int) := of_decide_eq_true as_
     have q7 : x5_1 < (a0.size : Int) := of_decide_eq_true as_
     have hx7 := el a0 x5_1
     replace p7 := eq_true p7
     replace q7 := eq_true q7
     go_wp2
     go_ret2
     exact ⟨re_, pB HB.out⟩
    ·rw [if_neg c8] at H
     have c8b0 := decide_eq_false c8
     clear c8
     by_cases c10 : (bt a0 x5_1) > 104
     ·rw [if_pos c10] at H
      have c10b0 := decide_eq_true c10
      clear c10
      simp only [Option.some.injEq, Prod.mk.injEq] at H
      obtain ⟨rfl, rfl⟩ := H
      have p7 : 0 ≤ (x5_1 : Int) := of_decide_eq_true as_
      have q7 : x5_1 < (a0.size : Int) := of_decide_eq_true as_
      have hx7 := el a0 x5_1
      replace p7 := eq_true p7
      replace q7 := eq_true q7
      have p9 : 0 ≤ (x5_1 : Int) := of_decide_eq_true as_
      have q9 : x5_1 < (a0.size : Int) := of_decide_eq_true as_
      have hx9 := el a0 x5_1
      replace p9 := eq_true p9
      replace q9 := eq_true q9
      go_wp2
      go_ret2
      exact ⟨re_, pB HB.out⟩
     ·rw [if_neg c10] at H
      have c10b0 := decide_eq_false c10
      clear c10
      replace H := bo H; obtain ⟨tq0, A12, H⟩ := H
      (try dsimp only at H)
      have H' := aQ H
      clear H
      have p7 : 0 ≤ (x5_1 : Int) := of_decide_eq_true as_
      have q7 : x5_1 < (a0.size : Int) := of_decide_eq_true as_
      have hx7 := el a0 x5_1
      replace p7 := eq_true p7
      replace q7 := eq_true q7
      have p9 : 0 ≤ (x5_1 : Int) := of_decide_eq_true as_
      have q9 : x5_1 < (a0.size : Int) := of_decide_eq_true as_
      have hx9 := el a0 x5_1
      replace p9 := eq_true p9
      replace q9 := eq_true q9
      have p11 : 0 ≤ (x5_1 : Int) := of_decide_eq_true as_
      have q11 : x5_1 < (a0.size : Int) := of_decide_eq_true as_
      have hx11 := el a0 x5_1
      replace p11 := eq_true p11
      replace q11 := eq_true q11
      go_wp2_with (first | (refine gq 61 (some 32) Tryz.func61 #[.int .i64 x4_1, .int .i64 (((bt a0 x5_1) - 97) % 256)] ?_; (with_reducible refine (dh.calls x4_1 (((bt a0 x5_1) - 97) % 256) tq0 _ A12.out).mono ?_); rintro e w' ⟨rfl, ⟨nd, rfl⟩⟩; refine ⟨_, rfl, ?_⟩))
      go_roundg kj1
      case measure => have := HK1.out; have := HJ1.out; omega
      case rel => exact ⟨(tq0), (wrap64 (x5_1 + 1)), rs_, rs_, H', ⟨by have := HK1.out; have := HJ1.out; omega⟩, ⟨pB HB.out⟩⟩
   ·replace c4 := Bool.eq_false_iff.mpr c4
    subst c4
    have H1 : ((a8.f kj1 x4_1).bind fun tq1 => (if tq1.toList = a0.toList then (some (x4_1, true)) else (some (0, false)))) = some (r1, r2) := by rw [if_neg (show ¬ (false = true) by decide)] at H; exact H
    clear H
    have H := H1
    clear H1
    replace H := bo H; obtain ⟨tq1, A13, H⟩ := H
    (try dsimp only at H)
    by_cases c14 : tq1.toList = a0.toList
    ·rw [if_pos c14] at H
     have c14b0 : (tq1.toList == a0.toList) = true := beq_iff_eq.mpr c14
     have c14b1 : (tq1.toList != a0.toList) = false := bne_eq_false_iff_eq.mpr c14
     clear c14
     simp only [Option.some.injEq, Prod.mk.injEq] at H
     obtain ⟨rfl, rfl⟩ := H
     go_wp2_with (first | (refine gq 298 (some 34) Tryz.func298 #[.int .i64 x4_1] ?_; (with_reducible refine (a8.calls kj1 x4_1 tq1 _ A13.out).mono ?_); rintro e w15 ⟨rfl, hb⟩; refine ⟨_, rfl, ?_⟩; replace HB := bs HB hb; (try clear hb)))
     go_ret2
     exact ⟨re_, pB HB.out⟩
    ·rw [if_neg c14] at H
     have c14b0 : (tq1.toList == a0.toList) = false := beq_eq_false_iff_ne.mpr c14
     have c14b1 : (tq1.toList != a0.toList) = true := bne_iff_ne.mpr c14
     simp only [Option.some.injEq, Prod.mk.injEq] at H
     obtain ⟨rfl, rfl⟩ := H
     go_wp2_with (first | (refine gq 298 (some 34) Tryz.func298 #[.int .i64 x4_1] ?_; (with_reducible refine (a8.calls kj1 x4_1 tq1 _ A13.out).mono ?_); rintro e w16 ⟨rfl, hb⟩; refine ⟨_, rfl, ?_⟩; replace HB := bs HB hb; (try clear hb)))
     go_ret2
     exact ⟨re_, pB HB.out⟩
def bv.l0 : Nat → Int → List Int → Int → Option (Bool)
 | 0, _, _, _ => none
 | k + 1, x0, x1, x5 => if x5 < (x1.length : Int) then (if 0 ≤ x5 then ((aZ.f x0 (rd x1 x5)).bind fun tq0 => (if tq0 = true then (bv.l0 k x0 x1 (wrap64 (x5 + 1))) else (some false))) else (none)) else (some true)
def bv.f (k : Nat) (a0 : Int) (l1 : List Int) : Option (Bool) := bv.l0 k a0 l1 0
theorem bv.mono_l : ∀ k, (∀ y0 y1 y2, LeO (bv.l0 k y0 y1 y2) (bv.l0 (k + 1) y0 y1 y2))
 | 0 => fun _ _ _ r h => by simp [bv.l0] at h
 | k + 1 => by
  have ih0 := bv.mono_l k
  ·intro y0 y1 y2
   unfold bv.l0
   repeat' first | (with_reducible first | exact ih0 _ _ _ | exact LeO.refl _ | exact LeO.none _ | refine LeO.ite ?_ ?_ | refine LeO.bind ?_ (fun _ => ?_)) | exact ih0 _ _ _ | exact LeO.none _ | refine LeO.ite ?_ ?_ | refine LeO.bind ?_ (fun _ => ?_)
theorem bv.mono : ∀ a0 a1 k, LeO (bv.f k a0 a1) (bv.f (k + 1) a0 a1) := by
 intro a0 a1 k
 have ih0 := bv.mono_l k
 unfold bv.f
 repeat' first | (with_reducible first | exact ih0 _ _ _ | exact LeO.refl _ | exact LeO.none _ | refine LeO.ite ?_ ?_ | refine LeO.bind ?_ (fun _ => ?_)) | exact ih0 _ _ _ | exact LeO.none _ | refine LeO.ite ?_ ?_ | refine LeO.bind ?_ (fun _ => ?_)
theorem bv.calls (k : Nat) (a0 : Int) (A1 : Option Addr) (c1 : Nat) (l1 : List Int) (r : Bool) (w : World) (hr1 : Kd.C (Kd.int .i64) w A1 l1.length l1) (hc1 : l1.length ≤ c1) (h : bv.f k a0 l1 = some r) :
  Calls Tryz.prog 231 #[.int .i64 a0, .slice A1 l1.length c1] w fun e w' => e = .returned (.bool r) ∧ Drawn0 w w' := by
 have HR1 := aQ hr1
 have HC1 := aQ hc1
 clear hr1 hc1
 have H : (bv.l0 k a0 l1 0) = some r := h
 clear h
 have H' := aQ H
 clear H
 go_enter Tryz.func231, Tryz.ntmps231
 go_wp2
 go_loopg [5] k (fun kq v5 w' => ∃ (x5_1 : Int), v5 = .int .i64 x5_1 ∧ Aside0 (bv.l0 kq a0 l1 x5_1 = some r) ∧ Aside0 (kq ≤ k) ∧ Drawn0 w w')
 case atStart => exact ⟨(0), rs_, H', ⟨Nat.le_refl _⟩, rd_⟩
 clear H'
 try clear c1
 obtain ⟨x5_1, rfl, HA, HK1, ⟨m1, rfl⟩⟩ := hrel
 rcases gk with _ | k1
 ·exact absurd HA.out (by simp [bv.l0])
 have H := HA.out
 clear HA
 simp only [bv.l0] at H
 by_cases c3 : x5_1 < (l1.length : Int)
 ·rw [if_pos c3] at H
  have c3b0 := decide_eq_true c3
  clear c3
  replace H := gd H; obtain ⟨c4, H⟩ := H
  have c4b0 := decide_eq_true c4
  clear c4
  replace H := bo H; obtain ⟨tq0, A5, H⟩ := H
  (try dsimp only at H)
  by_cases c6 : tq0 = true
  ·subst c6
   rw [if_pos rfl] at H
   have H' := aQ H
   clear H
   have pq1 : 0 ≤ (x5_1 : Int) := of_decide_eq_true as_
   have qq1 : x5_1 < (l1.length : Int) := of_decide_eq_true as_
   obtain ⟨adq1, eq1, hxq1_0⟩ := Kd.at_int HR1.out x5_1 pq1 qq1
   cases eq1
   replace pq1 := eq_true pq1
   replace qq1 := eq_true qq1
   go_wp2_with (first | (refine gq 112 (some 17) Tryz.func112 #[.int .i64 a0, .int .i64 (rd l1 x5_1)] ?_; (with_reducible refine (aZ.calls a0 (rd l1 x5_1) true _ A5.out).mono ?_); rintro e w' ⟨rfl, ⟨nd, rfl⟩⟩; refine ⟨_, rfl, ?_⟩))
   go_roundg k1
   case measure => have := HK1.out; omega
   case rel => exact ⟨(wrap64 (x5_1 + 1)), rs_, H', ⟨by have := HK1.out; omega⟩, rd_⟩
  ·replace c6 := Bool.eq_false_iff.mpr c6
   subst c6
   have H1 : (some false) = some r := by rw [if_neg (show ¬ (false = true) by decide)] at H; exact H
   clear H
   have H := H1
   clear H1
   obtain rfl := Option.some.inj H
   have pq1 : 0 ≤ (x5_1 : Int) := of_decide_eq_true as_
   have qq1 : x5_1 < (l1.length : Int) := of_decide_eq_true as_
   obtain ⟨adq1, eq1, hxq1_0⟩ := Kd.at_int HR1.out x5_1 pq1 qq1
   cases eq1
   replace pq1 := eq_true pq1
   replace qq1 := eq_true qq1
   go_wp2_with (first | (refine gq 112 (some 17) Tryz.func112 #[.int .i64 a0, .int .i64 (rd l1 x5_1)] ?_; (with_reducible refine (aZ.calls a0 (rd l1 x5_1) false _ A5.out).mono ?_); rintro e w' ⟨rfl, ⟨nd, rfl⟩⟩; refine ⟨_, rfl, ?_⟩))
   go_ret
   exact ⟨rs_, rd_⟩
 ·rw [if_neg c3] at H
  have c3b0 := decide_eq_false c3
  clear c3
  obtain rfl := Option.some.inj H
  go_wp2
  go_ret
  exact ⟨rs_, rd_⟩
def bH.l0 : Nat → List ByteArray → ByteArray → List Int → Int → Option (ByteArray)
 | 0, _, _, _, _ => none
 | k + 1, x0, x1, x5, x6 => if x6 < (x0.length : Int) then (if x6 > 0 then (if x5.length + x1.size < 140737488355328 then ((some (x5 ++ bytesOf x1 : List Int)).bind fun yq0 => (if 0 ≤ x6 then (if yq0.length + (rdOf ByteArray.empty x0 x6).size < 140737488355328 then (bH.l0 k x0 x1 (yq0 ++ bytesOf (rdOf ByteArray.empty x0 x6)) (wrap64 (x6 + 1))) else (none)) else (none))) else (none)) else (if 0 ≤ x6 then (if x5.length + (rdOf ByteArray.empty x0 x6).size < 140737488355328 then (bH.l0 k x0 x1 (x5 ++ bytesOf (rdOf ByteArray.empty x0 x6)) (wrap64 (x6 + 1))) else (none)) else (none))) else (some (strOfNums x5))
def bH.f (k : Nat) (l0 : List ByteArray) (a1 : ByteArray) : Option (ByteArray) := bH.l0 k l0 a1 (([] : List Int)) 0
theorem bH.mono_l : ∀ k, (∀ y0 y1 y2 y3, LeO (bH.l0 k y0 y1 y2 y3) (bH.l0 (k + 1) y0 y1 y2 y3))
 | 0 => fun _ _ _ _ r h => by simp [bH.l0] at h
 | k + 1 => by
  have ih0 := bH.mono_l k
  ·intro y0 y1 y2 y3
   unfold bH.l0
   repeat' first | (with_reducible first | exact ih0 _ _ _ _ | exact LeO.refl _ | exact LeO.none _ | refine LeO.ite ?_ ?_ | refine LeO.bind ?_ (fun _ => ?_)) | exact ih0 _ _ _ _ | exact LeO.none _ | refine LeO.ite ?_ ?_ | refine LeO.bind ?_ (fun _ => ?_)
theorem bH.mono : ∀ a0 a1 k, LeO (bH.f k a0 a1) (bH.f (k + 1) a0 a1) := by
 intro a0 a1 k
 have ih0 := bH.mono_l k
 unfold bH.f
 repeat' first | (with_reducible first | exact ih0 _ _ _ _ | exact LeO.refl _ | exact LeO.none _ | refine LeO.ite ?_ ?_ | refine LeO.bind ?_ (fun _ => ?_)) | exact ih0 _ _ _ _ | exact LeO.none _ | refine LeO.ite ?_ ?_ | refine LeO.bind ?_ (fun _ => ?_)
theorem bH.calls (k : Nat) (A0 : Option Addr) (c0 : Nat) (l0 : List ByteArray) (a1 : ByteArray) (r : ByteArray) (w : World) (hr0 : Kd.C Kd.string w A0 l0.length l0) (hc0 : l0.length ≤ c0) (h : bH.f k l0 a1 = some r) :
  Calls Tryz.prog 299 #[.slice A0 l0.length c0, .string a1] w fun e w' => e = .returned (.string r) ∧ Below w.heap.size w w' := by
 have HR0 := aQ hr0
 have HC0 := aQ hc0
 clear hr0 hc0
 have HB := aQ (Below.refl w.heap.size w)
 have H : (bH.l0 k l0 a1 (([] : List Int)) 0) = some r := h
 clear h
 obtain ⟨yq1, hyq1⟩ : ∃ y_ : List Int, y_ = (([] : List Int)) := ⟨_, rfl⟩
 replace H : (bH.l0 k l0 a1 yq1 0) = some r := by first | (rw [hyq1]; with_reducible exact H) | (rw [hyq1]; exact H)
 have Nyq1 := aQ hyq1
 clear hyq1
 have H' := aQ H
 clear H
 go_enter Tryz.func299, Tryz.ntmps299
 go_wp2_with (first | ((with_reducible refine af (N := 7) rfl ?_); refine Kd.R_lit (Kd.int .u8) _ 5 ?hg (N := 7) ?hd (xs := ([] : List Int)) (inner := []) (ok := fun _ => True) (okp := fun _ => True) ?hr ?hp (fun _ hk => hk) trivial (Below.refl _ _) (Nat.le_refl _) (by simp) ?_; (case hd => rfl); (case hg => rfl); (case hr => first | (go_simp; done) | (go_simp; rfl)); (case hp => exact (Reps.none _ _)); intro vq2 w3 ho4 hb hg_ hnew_; clear hg_ hnew_; (first | rw [← Nyq1.out] at ho4 | (simp only [Int.reduceToNat] at ho4; rw [← Nyq1.out] at ho4)); have HOq3 := aQ (Kd.R_lower ho4 (aa (pB HB.out))); replace HB := bs HB hb; clear hb ho4))
 go_loopg [5, 6] k (fun kq v5 v6 w' => ∃ (x5_1 : List Int) (x6_1 : Int), v6 = .int .i64 x6_1 ∧ Aside0 (bH.l0 kq l0 a1 x5_1 x6_1 = some r) ∧ Aside0 (kq ≤ k) ∧ Aside0 (Kd.R (Kd.int .u8) 5 w' w.heap.size (fun _ => True) v5 x5_1) ∧ Aside0 (Below w.heap.size w w'))
 case atStart => exact ⟨(yq1), (0), rs_, H', ⟨Nat.le_refl _⟩, ⟨pR HOq3.out⟩, ⟨pB HB.out⟩⟩
 clear H'
 obtain ⟨x5_1, x6_1, rfl, HA, HK1, HO_5, HB⟩ := hrel
 rcases gk with _ | k1
 ·exact absurd HA.out (by simp [bH.l0])
 have H := HA.out
 clear HA
 simp only [bH.l0] at H
 by_cases c5 : x6_1 < (l0.length : Int)
 ·rw [if_pos c5] at H
  have c5b0 := decide_eq_true c5
  clear c5
  by_cases c6 : x6_1 > 0
  ·rw [if_pos c6] at H
   have c6b0 := decide_eq_true c6
   clear c6
   replace H := gd H; obtain ⟨c7, H⟩ := H
   have LMc7 := aQ c7
   clear c7
   obtain ⟨yq0, hyq0⟩ : ∃ y_ : List Int, y_ = (x5_1 ++ bytesOf a1) := ⟨_, rfl⟩
   replace H : (if 0 ≤ x6_1 then (if yq0.length + (rdOf ByteArray.empty l0 x6_1).size < 140737488355328 then (bH.l0 k1 l0 a1 (yq0 ++ bytesOf (rdOf ByteArray.empty l0 x6_1)) (wrap64 (x6_1 + 1))) else (none)) else (none)) = some r := by first | (rw [hyq0]; with_reducible exact H) | (rw [hyq0]; exact H)
   have Nyq0 := aQ hyq0
   clear hyq0
   replace H := gd H; obtain ⟨c8, H⟩ := H
   have c8b0 := decide_eq_true c8
   clear c8
   replace H := gd H; obtain ⟨c9, H⟩ := H
   have LMc9 := aQ c9
   clear c9
   obtain ⟨yq4, hyq4⟩ : ∃ y_ : List Int, y_ = (yq0 ++ bytesOf (rdOf ByteArray.empty l0 x6_1)) := ⟨_, rfl⟩
   replace H : (bH.l0 k1 l0 a1 yq4 (wrap64 (x6_1 + 1))) = some r := by first | (rw [hyq4]; with_reducible exact H) | (rw [hyq4]; exact H)
   have Nyq4 := aQ hyq4
   clear hyq4
   have H' := aQ H
   clear H
   go_wp2_with (first | (at_builtin; refine dR (w0 := w) w.heap.size rfl (.tmp 16) _ 22 9 5 rfl Tryz.underlying22 Tryz.underlying9 lP u5 x5_1 a1 rfl rfl ?aO ?aB ?aS ?aL ?_; (case aB => exact (pB HB.out)); (case aO => exact (Kd.own_of_R (pR HO_5.out))); (case aS => exact (aa (pB HB.out))); (case aL => have := LMc7.out; omega); intro vq5 w10 ho0 hb hg; have ho := Kd.R_of_own (h1 := fun _ => rfl) (ok := fun _ => True) ho0 (fun _ _ => trivial); clear ho0; have hat := True.intro; rw [← Nyq0.out] at ho; change Kd.R (Kd.int .u8) 5 w10 w.heap.size (fun _ => True) vq5 yq0 at ho; replace HB := aQ (hb); have HOq6 := aQ (ho); clear HO_5; clear ho hb hg hat; have pq7 : 0 ≤ (x6_1 : Int) := of_decide_eq_true as_; have qq7 : x6_1 < (l0.length : Int) := of_decide_eq_true as_; obtain ⟨adq7, eq7, hxq7_0⟩ := Kd.at_string HR0.out x6_1 pq7 qq7; cases eq7; replace hxq7_0 := (HB.out.cell (World.block_lt_of_cell? w _ hxq7_0)).trans hxq7_0; replace pq7 := eq_true pq7; replace qq7 := eq_true qq7) | (at_builtin; refine dR (w0 := w) w.heap.size rfl (.tmp 19) _ 22 9 5 rfl Tryz.underlying22 Tryz.underlying9 lP vq5 yq0 (rdOf ByteArray.empty l0 x6_1) rfl rfl ?aO ?aB ?aS ?aL ?_; (case aB => exact (pB HB.out)); (case aO => exact (Kd.own_of_R (pR HOq6.out))); (case aS => exact (aa (pB HB.out))); (case aL => have := LMc9.out; omega); intro vq8 w11 ho0 hb hg; have ho := Kd.R_of_own (h1 := fun _ => rfl) (ok := fun _ => True) ho0 (fun _ _ => trivial); clear ho0; have hat := True.intro; rw [← Nyq4.out] at ho; change Kd.R (Kd.int .u8) 5 w11 w.heap.size (fun _ => True) vq8 yq4 at ho; replace HB := aQ (hb); have HOq9 := aQ (ho); clear HOq6; clear ho hb hg hat))
   go_roundg k1
   case measure => have := HK1.out; omega
   case rel => exact ⟨(yq4), (wrap64 (x6_1 + 1)), rs_, H', ⟨by have := HK1.out; omega⟩, ⟨pR HOq9.out⟩, ⟨pB HB.out⟩⟩
  ·rw [if_neg c6] at H
   have c6b0 := decide_eq_false c6
   clear c6
   replace H := gd H; obtain ⟨c12, H⟩ := H
   have c12b0 := decide_eq_true c12
   clear c12
   replace H := gd H; obtain ⟨c13, H⟩ := H
   have LMc13 := aQ c13
   clear c13
   obtain ⟨yqa, hyqa⟩ : ∃ y_ : List Int, y_ = (x5_1 ++ bytesOf (rdOf ByteArray.empty l0 x6_1)) := ⟨_, rfl⟩
   replace H : (bH.l0 k1 l0 a1 yqa (wrap64 (x6_1 + 1))) = some r := by first | (rw [hyqa]; with_reducible exact H) | (rw [hyqa]; exact H)
   have Nyqa := aQ hyqa
   clear hyqa
   have H' := aQ H
   clear H
   have pqb : 0 ≤ (x6_1 : Int) := of_decide_eq_true as_
   have qqb : x6_1 < (l0.length : Int) := of_decide_eq_true as_
   obtain ⟨adqb, eqb, hxqb_0⟩ := Kd.at_string HR0.out x6_1 pqb qqb
   cases eqb
   replace hxqb_0 := (HB.out.cell (World.block_lt_of_cell? w _ hxqb_0)).trans hxqb_0
   replace pqb := eq_true pqb
   replace qqb := eq_true qqb
   go_wp2_with (first | (at_builtin; refine dR (w0 := w) w.heap.size rfl (.tmp 19) _ 22 9 5 rfl Tryz.underlying22 Tryz.underlying9 lP u5 x5_1 (rdOf ByteArray.empty l0 x6_1) rfl rfl ?aO ?aB ?aS ?aL ?_; (case aB => exact (pB HB.out)); (case aO => exact (Kd.own_of_R (pR HO_5.out))); (case aS => exact (aa (pB HB.out))); (case aL => have := LMc13.out; omega); intro vqc w14 ho0 hb hg; have ho := Kd.R_of_own (h1 := fun _ => rfl) (ok := fun _ => True) ho0 (fun _ _ => trivial); clear ho0; have hat := True.intro; rw [← Nyqa.out] at ho; change Kd.R (Kd.int .u8) 5 w14 w.heap.size (fun _ => True) vqc yqa at ho; replace HB := aQ (hb); have HOqd := aQ (ho); clear HO_5; clear ho hb hg hat))
   go_roundg k1
   case measure => have := HK1.out; omega
   case rel => exact ⟨(yqa), (wrap64 (x6_1 + 1)), rs_, H', ⟨by have := HK1.out; omega⟩, ⟨pR HOqd.out⟩, ⟨pB HB.out⟩⟩
 ·rw [if_neg c5] at H
  have c5b0 := decide_eq_false c5
  clear c5
  obtain rfl := Option.some.inj H
  have hcv15 := fp (P := Tryz.prog) Tryz.underlying22 Tryz.underlying5 Tryz.underlying9 (Kd.own_of_R HO_5.out)
  go_wp2
  go_ret
  exact ⟨re_, pB HB.out⟩
def aJ.l0 : Nat → List Int → List ByteArray → Int → Option (ByteArray)
 | 0, _, _, _ => none
 | k + 1, x0, x3, x4 => if x4 < (x0.length : Int) then (if 0 ≤ x4 then ((a8.f k (rd x0 x4)).bind fun tq0 => (if x3.length < 8796093022208 then (aJ.l0 k x0 (x3 ++ [tq0]) (wrap64 (x4 + 1))) else (none))) else (none)) else ((bH.f k x3 (⟨#[44]⟩ : ByteArray)).bind fun tq1 => (some tq1))
def aJ.f (k : Nat) (l0 : List Int) : Option (ByteArray) := (bv.f k 8 l0).bind fun tq2 => (if tq2 = true then (if (l0.length : Int) = 0 then (some (⟨#[110, 111, 110, 101]⟩ : ByteArray)) else (aJ.l0 k l0 (([] : List ByteArray)) 0)) else (some (⟨#[]⟩ : ByteArray)))
theorem aJ.mono_l : ∀ k, (∀ y0 y1 y2, LeO (aJ.l0 k y0 y1 y2) (aJ.l0 (k + 1) y0 y1 y2))
 | 0 => fun _ _ _ r h => by simp [aJ.l0] at h
 | k + 1 => by
  have ih0 := aJ.mono_l k
  ·intro y0 y1 y2
   unfold aJ.l0
   repeat' first | (with_reducible first | exact ih0 _ _ _ | exact bH.mono _ _ _ | exact a8.mono _ _ | exact bv.mono _ _ _ | exact LeO.refl _ | exact LeO.none _ | refine LeO.ite ?_ ?_ | refine LeO.bind ?_ (fun _ => ?_)) | exact ih0 _ _ _ | exact LeO.none _ | refine LeO.ite ?_ ?_ | refine LeO.bind ?_ (fun _ => ?_)
theorem aJ.mono : ∀ a0 k, LeO (aJ.f k a0) (aJ.f (k + 1) a0) := by
 intro a0 k
 have ih0 := aJ.mono_l k
 unfold aJ.f
 repeat' first | (with_reducible first | exact ih0 _ _ _ | exact bH.mono _ _ _ | exact a8.mono _ _ | exact bv.mono _ _ _ | exact LeO.refl _ | exact LeO.none _ | refine LeO.ite ?_ ?_ | refine LeO.bind ?_ (fun _ => ?_)) | exact ih0 _ _ _ | exact LeO.none _ | refine LeO.ite ?_ ?_ | refine LeO.bind ?_ (fun _ => ?_)
theorem aJ.calls (k : Nat) (A0 : Option Addr) (c0 : Nat) (l0 : List Int) (r : ByteArray) (w : World) (hr0 : Kd.C (Kd.int .i64) w A0 l0.length l0) (hc0 : l0.length ≤ c0) (h : aJ.f k l0 = some r) :
  Calls Tryz.prog 294 #[.slice A0 l0.length c0] w fun e w' => e = .returned (.string r) ∧ Below w.heap.size w w' := by
 have HR0 := aQ hr0
 have HC0 := aQ hc0
 clear hr0 hc0
 have HB := aQ (Below.refl w.heap.size w)
 have H := h
 clear h
 unfold aJ.f at H
 (try dsimp only at H)
 replace H := bo H; obtain ⟨tq2, A2, H⟩ := H
 (try dsimp only at H)
 by_cases c3 : tq2 = true
 ·subst c3
  rw [if_pos rfl] at H
  by_cases c4 : (l0.length : Int) = 0
  ·rw [if_pos c4] at H
   have c4b0 : ((l0.length : Int) == 0) = true := beq_iff_eq.mpr c4
   have c4b1 : ((l0.length : Int) != 0) = false := bne_eq_false_iff_eq.mpr c4
   clear c4
   obtain rfl := Option.some.inj H
   go_enter Tryz.func294, Tryz.ntmps294
   go_wp2_with (first | (refine gq 231 (some 6) Tryz.func231 #[.int .i64 8, .slice A0 l0.length c0] ?_; (with_reducible refine (bv.calls k 8 _ _ l0 true _ ?side1 ?side2 A2.out).mono ?_); (case side1 => exact pC HR0.out); (case side2 => exact HC0.out); rintro e w' ⟨rfl, ⟨nd, rfl⟩⟩; refine ⟨_, rfl, ?_⟩))
   go_ret
   exact ⟨re_, pB HB.out⟩
  ·rw [if_neg c4] at H
   have c4b0 : ((l0.length : Int) == 0) = false := beq_eq_false_iff_ne.mpr c4
   have c4b1 : ((l0.length : Int) != 0) = true := bne_iff_ne.mpr c4
   have c4b2 : ¬ (l0 = []) := fun h_ => c4 (by rw [h_]; rfl)
   obtain ⟨yq3, hyq3⟩ : ∃ y_ : List ByteArray, y_ = (([] : List ByteArray)) := ⟨_, rfl⟩
   replace H : (aJ.l0 k l0 yq3 0) = some r := by first | (rw [hyq3]; with_reducible exact H) | (rw [hyq3]; exact H)
   have Nyq3 := aQ hyq3
   clear hyq3
   have H' := aQ H
   clear H
   go_enter Tryz.func294, Tryz.ntmps294
   go_wp2_with (first | (refine gq 231 (some 6) Tryz.func231 #[.int .i64 8, .slice A0 l0.length c0] ?_; (with_reducible refine (bv.calls k 8 _ _ l0 true _ ?side1 ?side2 A2.out).mono ?_); (case side1 => exact pC HR0.out); (case side2 => exact HC0.out); rintro e w' ⟨rfl, ⟨nd, rfl⟩⟩; refine ⟨_, rfl, ?_⟩) | ((with_reducible refine af (N := 11) rfl ?_); refine Kd.R_lit Kd.string _ 9 ?hg (N := 11) ?hd (xs := ([] : List ByteArray)) (inner := []) (ok := fun _ => True) (okp := fun _ => True) ?hr ?hp (fun _ hk => hk) trivial (Below.refl _ _) (Nat.le_refl _) (by simp) ?_; (case hd => rfl); (case hg => rfl); (case hr => first | (go_simp; done) | (go_simp; rfl)); (case hp => exact (Reps.none _ _)); intro vq4 w5 ho6 hb hg_ hnew_; clear hg_ hnew_; (first | rw [← Nyq3.out] at ho6 | (simp only [Int.reduceToNat] at ho6; rw [← Nyq3.out] at ho6)); have HOq5 := aQ (Kd.R_lower ho6 (aa (pB HB.out))); replace HB := bs HB hb; clear hb ho6))
   go_loopg [3, 4] k (fun kq v3 v4 w' => ∃ (x3_1 : List ByteArray) (x4_1 : Int), v4 = .int .i64 x4_1 ∧ Aside0 (aJ.l0 kq l0 x3_1 x4_1 = some r) ∧ Aside0 (kq ≤ k) ∧ Aside0 (Kd.R Kd.string 9 w' w.heap.size (fun _ => True) v3 x3_1) ∧ Aside0 (Below w.heap.size w w'))
   case atStart => exact ⟨(yq3), (0), rs_, H', ⟨Nat.le_refl _⟩, ⟨pR HOq5.out⟩, ⟨pB HB.out⟩⟩
   clear H'
   try clear c3
   try clear c4
   try clear c4b0
   try clear c4b1
   try clear c4b2
   obtain ⟨x3_1, x4_1, rfl, HA, HK1, HO_3, HB⟩ := hrel
   rcases gk with _ | k1
   ·exact absurd HA.out (by simp [aJ.l0])
   have H := HA.out
   clear HA
   simp only [aJ.l0] at H
   by_cases c7 : x4_1 < (l0.length : Int)
   ·rw [if_pos c7] at H
    have c7b0 := decide_eq_true c7
    clear c7
    replace H := gd H; obtain ⟨c8, H⟩ := H
    have c8b0 := decide_eq_true c8
    clear c8
    replace H := bo H; obtain ⟨tq0, A9, H⟩ := H
    (try dsimp only at H)
    replace H := gd H; obtain ⟨c10, H⟩ := H
    have LMc10 := aQ c10
    clear c10
    obtain ⟨yq6, hyq6⟩ : ∃ y_ : List ByteArray, y_ = (x3_1 ++ [tq0]) := ⟨_, rfl⟩
    replace H : (aJ.l0 k1 l0 yq6 (wrap64 (x4_1 + 1))) = some r := by first | (rw [hyq6]; with_reducible exact H) | (rw [hyq6]; exact H)
    have Nyq6 := aQ hyq6
    clear hyq6
    have H' := aQ H
    clear H
    have pq7 : 0 ≤ (x4_1 : Int) := of_decide_eq_true as_
    have qq7 : x4_1 < (l0.length : Int) := of_decide_eq_true as_
    obtain ⟨adq7, eq7, hxq7_0⟩ := Kd.at_int HR0.out x4_1 pq7 qq7
    cases eq7
    replace hxq7_0 := (HB.out.cell (World.block_lt_of_cell? w _ hxq7_0)).trans hxq7_0
    replace pq7 := eq_true pq7
    replace qq7 := eq_true qq7
    go_wp2_with (first | (refine gq 298 (some 23) Tryz.func298 #[.int .i64 (rd l0 x4_1)] ?_; (with_reducible refine (a8.calls k1 (rd l0 x4_1) tq0 _ A9.out).mono ?_); rintro e w11 ⟨rfl, hb⟩; refine ⟨_, rfl, ?_⟩; replace HO_3 := aQ (Kd.R_below (pR HO_3.out) hb); replace HB := bs HB hb; (try clear hb)) | ((with_reducible refine aW (b := .append) (xs := #[.tmp 18, .tmp 24]) rfl ?_); at_builtin; refine Kd.R_append Kd.string (w0 := w) w.heap.size rfl (.tmp 18) (.tmp 24) 153 9 (.string ⟨#[]⟩) 16 rfl Tryz.underlying153 lV rfl (by decide) (by omega) u3 x3_1 tq0 [.string tq0] (fun _ => True) (fun _ => False) rfl rfl ?aP (fun _ hk => hk.elim) ?aF ?aO ?aB ?aS ?aL ?_; (case aP => exact rfl); (case aB => exact (pB HB.out)); (case aF => exact (fun _ _ => trivial)); (case aO => exact (pR HO_3.out)); (case aS => exact (aa (pB HB.out))); (case aL => have := LMc10.out; omega); intro vq8 w12 ho hb hg hat; rw [← Nyq6.out] at ho; replace HB := aQ (hb); have HOq9 := aQ (ho); clear HO_3; clear ho hb hg hat))
    go_roundg k1
    case measure => have := HK1.out; omega
    case rel => exact ⟨(yq6), (wrap64 (x4_1 + 1)), rs_, H', ⟨by have := HK1.out; omega⟩, ⟨pR HOq9.out⟩, ⟨pB HB.out⟩⟩
   ·rw [if_neg c7] at H
    have c7b0 := decide_eq_false c7
    clear c7
    replace H := bo H; obtain ⟨tq1, A13, H⟩ := H
    (try dsimp only at H)
    obtain rfl := Option.some.inj H
    obtain ⟨Ao14, co14, eo14⟩ := Kd.R_slice HO_3.out
    subst eo14
    go_wp2_with (first | (refine gq 299 (some 27) Tryz.func299 #[.slice Ao14 x3_1.length co14, .string (⟨#[44]⟩ : ByteArray)] ?_; (with_reducible refine (bH.calls k1 _ _ x3_1 (⟨#[44]⟩ : ByteArray) tq1 _ ?side1 ?side2 A13.out).mono ?_); (case side1 => exact pC ((Kd.R_reads' HO_3.out).2.2)); (case side2 => exact (Kd.R_reads' HO_3.out).2.1); rintro e w15 ⟨rfl, hb⟩; refine ⟨_, rfl, ?_⟩; replace HO_3 := aQ (Kd.R_below (pR HO_3.out) hb); replace HB := bs HB hb; (try clear hb)))
    go_ret
    exact ⟨re_, pB HB.out⟩
 ·replace c3 := Bool.eq_false_iff.mpr c3
  subst c3
  have H1 : (some (⟨#[]⟩ : ByteArray)) = some r := by rw [if_neg (show ¬ (false = true) by decide)] at H; exact H
  clear H
  have H := H1
  clear H1
  obtain rfl := Option.some.inj H
  go_enter Tryz.func294, Tryz.ntmps294
  go_wp2_with (first | (refine gq 231 (some 6) Tryz.func231 #[.int .i64 8, .slice A0 l0.length c0] ?_; (with_reducible refine (bv.calls k 8 _ _ l0 false _ ?side1 ?side2 A2.out).mono ?_); (case side1 => exact pC HR0.out); (case side2 => exact HC0.out); rintro e w' ⟨rfl, ⟨nd, rfl⟩⟩; refine ⟨_, rfl, ?_⟩))
  go_ret
  exact ⟨re_, pB HB.out⟩
mutual
def ao.l0 : Nat → Int → ByteArray → List Int → List ByteArray → Int → Option (List Int × Bool)
 | 0, _, _, _, _, _ => none
 | k + 1, x0, x1, x6, x7, x8 => if x8 < (x7.length : Int) then (ao.j1 k x0 x1 x6 x7 x8 (x1.toList != ([110, 111, 110, 101] : List UInt8))) else (ao.j1 k x0 x1 x6 x7 x8 false)
def ao.j1 : Nat → Int → ByteArray → List Int → List ByteArray → Int → Bool → Option (List Int × Bool)
 | 0, _, _, _, _, _, _ => none
 | k + 1, x0, x1, x6, x7, x8, x21 => if x21 = true then (if 0 ≤ x8 then (if x8 < (x7.length : Int) then ((aM.f k (rdOf ByteArray.empty x7 x8)).bind fun btq0 => (if btq0.2 = true then (if x6.length < 17592186044416 then (ao.l0 k x0 x1 (x6 ++ [btq0.1]) x7 (wrap64 (x8 + 1))) else (none)) else (some ((([] : List Int)), false)))) else (none)) else (none)) else ((av.f k x0 x6).bind fun tq1 => (if tq1 = true then ((aJ.f k x6).bind fun tq2 => (if tq2.toList = x1.toList then (some (x6, true)) else (some ((([] : List Int)), false)))) else (some ((([] : List Int)), false))))
end
def ao.f (k : Nat) (a0 : Int) (a1 : ByteArray) : Option (List Int × Bool) := (ay.f k a1 44).bind fun tq3 => (ao.l0 k a0 a1 (([] : List Int)) tq3 0)
theorem ao.mono_l : ∀ k, (∀ y0 y1 y2 y3 y4, LeO (ao.l0 k y0 y1 y2 y3 y4) (ao.l0 (k + 1) y0 y1 y2 y3 y4)) ∧ (∀ y0 y1 y2 y3 y4 y5, LeO (ao.j1 k y0 y1 y2 y3 y4 y5) (ao.j1 (k + 1) y0 y1 y2 y3 y4 y5))
 | 0 => ⟨fun _ _ _ _ _ r h => by simp [ao.l0] at h, fun _ _ _ _ _ _ r h => by simp [ao.j1] at h⟩
 | k + 1 => by
  obtain ⟨ih0, ih1⟩ := ao.mono_l k
  refine ⟨?_, ?_⟩
  ·intro y0 y1 y2 y3 y4
   unfold ao.l0
   repeat' first | (with_reducible first | exact ih0 _ _ _ _ _ | exact ih1 _ _ _ _ _ _ | exact aJ.mono _ _ | exact av.mono _ _ _ | exact aM.mono _ _ | exact ay.mono _ _ _ | exact LeO.refl _ | exact LeO.none _ | refine LeO.ite ?_ ?_ | refine LeO.bind ?_ (fun _ => ?_)) | exact ih0 _ _ _ _ _ | exact ih1 _ _ _ _ _ _ | exact LeO.none _ | refine LeO.ite ?_ ?_ | refine LeO.bind ?_ (fun _ => ?_)
  ·intro y0 y1 y2 y3 y4 y5
   unfold ao.j1
   repeat' first | (with_reducible first | exact ih0 _ _ _ _ _ | exact ih1 _ _ _ _ _ _ | exact aJ.mono _ _ | exact av.mono _ _ _ | exact aM.mono _ _ | exact ay.mono _ _ _ | exact LeO.refl _ | exact LeO.none _ | refine LeO.ite ?_ ?_ | refine LeO.bind ?_ (fun _ => ?_)) | exact ih0 _ _ _ _ _ | exact ih1 _ _ _ _ _ _ | exact LeO.none _ | refine LeO.ite ?_ ?_ | refine LeO.bind ?_ (fun _ => ?_)
theorem ao.mono : ∀ a0 a1 k, LeO (ao.f k a0 a1) (ao.f (k + 1) a0 a1) := by
 intro a0 a1 k
 obtain ⟨ih0, ih1⟩ := ao.mono_l k
 unfold ao.f
 repeat' first | (with_reducible first | exact ih0 _ _ _ _ _ | exact ih1 _ _ _ _ _ _ | exact aJ.mono _ _ | exact av.mono _ _ _ | exact aM.mono _ _ | exact ay.mono _ _ _ | exact LeO.refl _ | exact LeO.none _ | refine LeO.ite ?_ ?_ | refine LeO.bind ?_ (fun _ => ?_)) | exact ih0 _ _ _ _ _ | exact ih1 _ _ _ _ _ _ | exact LeO.none _ | refine LeO.ite ?_ ?_ | refine LeO.bind ?_ (fun _ => ?_)
theorem ao.calls (k : Nat) (a0 : Int) (a1 : ByteArray) (r1 : List Int) (r2 : Bool) (w : World) (h : ao.f k a0 a1 = some (r1, r2)) :
  Calls Tryz.prog 285 #[.int .i64 a0, .string a1] w fun e w' => ∃ v0_ : Value, e = .returned (.tuple #[v0_, .bool r2]) ∧ Kd.R (Kd.int .i64) 3 w' w.heap.size (fun _ => True) v0_ r1 ∧ Below w.heap.size w w' := by
 have HB := aQ (Below.refl w.heap.size w)
 have H := h
 clear h
 unfold ao.f at H
 (try dsimp only at H)
 obtain ⟨yq4, hyq4⟩ : ∃ y_ : List Int, y_ = (([] : List Int)) := ⟨_, rfl⟩
 replace H : ((ay.f k a1 44).bind fun tq3 => (ao.l0 k a0 a1 yq4 tq3 0)) = some (r1, r2) := by first | (rw [hyq4]; with_reducible exact H) | (rw [hyq4]; exact H)
 have Nyq4 := aQ hyq4
 clear hyq4
 replace H := bo H; obtain ⟨tq3, A3, H⟩ := H
 (try dsimp only at H)
 have H' := aQ H
 clear H
 go_enter Tryz.func285, Tryz.ntmps285
 go_wp2_with (first | ((with_reducible refine af (N := 11) rfl ?_); refine Kd.R_lit (Kd.int .i64) _ 3 ?hg (N := 11) ?hd (xs := ([] : List Int)) (inner := []) (ok := fun _ => True) (okp := fun _ => True) ?hr ?hp (fun _ hk => hk) trivial (Below.refl _ _) (Nat.le_refl _) (by simp) ?_; (case hd => rfl); (case hg => rfl); (case hr => first | (go_simp; done) | (go_simp; rfl)); (case hp => exact (Reps.none _ _)); intro vq5 w4 ho5 hb hg_ hnew_; clear hg_ hnew_; (first | rw [← Nyq4.out] at ho5 | (simp only [Int.reduceToNat] at ho5; rw [← Nyq4.out] at ho5)); have HOq6 := aQ (Kd.R_lower ho5 (aa (pB HB.out))); replace HB := bs HB hb; clear hb ho5) | (refine gq 283 (some 13) Tryz.func283 #[.string a1, .int .u8 44] ?_; (with_reducible refine (ay.calls k a1 44 tq3 _ A3.out).mono ?_); rintro e w6 ⟨vq7, rfl, ho0, hb⟩; refine ⟨_, rfl, ?_⟩; replace HOq6 := aQ (Kd.R_below (pR HOq6.out) hb); have HOq8 := aQ (Kd.R_lower ho0 (aa (pB HB.out))); replace HB := bs HB hb; (try clear hb); (try clear ho0)))
 go_loopg [6, 8] k (fun kq v6 v8 w' => ∃ (x6_1 : List Int) (x8_1 : Int), v8 = .int .i64 x8_1 ∧ Aside0 (ao.l0 kq a0 a1 x6_1 tq3 x8_1 = some (r1, r2)) ∧ Aside0 (kq ≤ k) ∧ Aside0 (Kd.R (Kd.int .i64) 3 w' w.heap.size (fun _ => True) v6 x6_1) ∧ Aside0 (Kd.R Kd.string 9 w' w.heap.size (fun _ => True) vq7 tq3) ∧ Aside0 (Below w.heap.size w w'))
 case atStart => exact ⟨(yq4), (0), rs_, H', ⟨Nat.le_refl _⟩, ⟨pR HOq6.out⟩, ⟨pR HOq8.out⟩, ⟨pB HB.out⟩⟩
 clear H'
 obtain ⟨x6_1, x8_1, rfl, HA, HK1, HO_6, HO_7, HB⟩ := hrel
 rcases gk with _ | k1
 ·exact absurd HA.out (by simp [ao.l0])
 have H := HA.out
 clear HA
 simp only [ao.l0] at H
 have HC7 := aQ H
 clear H
 go_upto_region 4 with (fail)
 go_cut [21] (fun v21 wc => ∃ (kq : Nat) (x21_6 : Bool), v21 = .bool x21_6 ∧ Aside0 (ao.j1 kq a0 a1 x6_1 tq3 x8_1 x21_6 = some (r1, r2)) ∧ Aside0 (kq ≤ k1) ∧ Aside0 (Kd.R (Kd.int .i64) 3 wc w.heap.size (fun _ => True) u6 x6_1) ∧ Aside0 (Kd.R Kd.string 9 wc w.heap.size (fun _ => True) vq7 tq3) ∧ Aside0 (Below w.heap.size w wc))
 case first =>
  have H := HC7.out
  clear HC7
  by_cases c8 : x8_1 < (tq3.length : Int)
  ·rw [if_pos c8] at H
   have c8b0 := decide_eq_true c8
   clear c8
   (first | rw [c8b0] | (simp only [i64_w, cI]; rw [c8b0]) | skip)
   have H' := aQ H
   clear H
   obtain ⟨Ao9, co9, eo9⟩ := Kd.R_slice HO_7.out
   subst eo9
   go_wp2
   go_meet
   case rel => exact ⟨_, ((a1.toList != ([110, 111, 110, 101] : List UInt8))), rs_, H', ⟨by have := HK1.out; first | omega | exact Nat.le_refl _⟩, ⟨pR HO_6.out⟩, ⟨pR HO_7.out⟩, ⟨pB HB.out⟩⟩
  ·rw [if_neg c8] at H
   have c8b0 := decide_eq_false c8
   clear c8
   (first | rw [c8b0] | (simp only [i64_w, cI]; rw [c8b0]) | skip)
   have H' := aQ H
   clear H
   obtain ⟨Ao10, co10, eo10⟩ := Kd.R_slice HO_7.out
   subst eo10
   go_wp2
   go_meet
   case rel => exact ⟨_, (false), rs_, H', ⟨by have := HK1.out; first | omega | exact Nat.le_refl _⟩, ⟨pR HO_6.out⟩, ⟨pR HO_7.out⟩, ⟨pB HB.out⟩⟩
 case rest =>
  clear HC7
  obtain ⟨kq, x21_6, rfl, HA, HJ6, HO_6, HO_7, HB⟩ := hcut
  cases kq with
  | zero => exact absurd HA.out (by simp [ao.j1])
  | succ kj6 =>
   have H := HA.out
   clear HA
   simp only [ao.j1] at H
   by_cases c11 : x21_6 = true
   ·subst c11
    rw [if_pos rfl] at H
    replace H := gd H; obtain ⟨c12, H⟩ := H
    have c12b0 := decide_eq_true c12
    clear c12
    replace H := gd H; obtain ⟨c13, H⟩ := H
    have c13b0 := decide_eq_true c13
    clear c13
    replace H := bo H; obtain ⟨⟨tq0, tq9⟩, A14, H⟩ := H
    (try dsimp only at H)
    by_cases c15 : tq9 = true
    ·subst c15
     rw [if_pos rfl] at H
     replace H := gd H; obtain ⟨c16, H⟩ := H
     have LMc16 := aQ c16
     clear c16
     obtain ⟨yqa, hyqa⟩ : ∃ y_ : List Int, y_ = (x6_1 ++ [tq0]) := ⟨_, rfl⟩
     replace H : (ao.l0 kj6 a0 a1 yqa tq3 (wrap64 (x8_1 + 1))) = some (r1, r2) := by first | (rw [hyqa]; with_reducible exact H) | (rw [hyqa]; exact H)
     have Nyqa := aQ hyqa
     clear hyqa
     have H' := aQ H
     clear H
     obtain ⟨Ao17, co17, eo17⟩ := Kd.R_slice HO_7.out
     subst eo17
     have pqb : 0 ≤ (x8_1 : Int) := of_decide_eq_true as_
     have qqb : x8_1 < (tq3.length : Int) := of_decide_eq_true as_
     obtain ⟨adqb, eqb, hxqb_0⟩ := Kd.at_string (Kd.R_reads' HO_7.out).2.2 x8_1 pqb qqb
     cases eqb
     replace pqb := eq_true pqb
     replace qqb := eq_true qqb
     go_wp2_with (first | (refine gq 293 (some 29) Tryz.func293 #[.string (rdOf ByteArray.empty tq3 x8_1)] ?_; (with_reducible refine (aM.calls kj6 (rdOf ByteArray.empty tq3 x8_1) tq0 true _ A14.out).mono ?_); rintro e w18 ⟨rfl, hb⟩; refine ⟨_, rfl, ?_⟩; replace HO_6 := aQ (Kd.R_below (pR HO_6.out) hb); replace HO_7 := aQ (Kd.R_below (pR HO_7.out) hb); replace HB := bs HB hb; (try clear hb)) | ((with_reducible refine aW (b := .append) (xs := #[.tmp 35, .tmp 37]) rfl ?_); at_builtin; refine Kd.R_append (Kd.int .i64) (w0 := w) w.heap.size rfl (.tmp 35) (.tmp 37) 24 3 (.int .i64 0) 8 rfl Tryz.underlying24 bR rfl (by decide) (by omega) u6 x6_1 tq0 [.int .i64 tq0] (fun _ => True) (fun _ => False) rfl rfl ?aP (fun _ hk => hk.elim) ?aF ?aO ?aB ?aS ?aL ?_; (case aP => exact rfl); (case aB => exact (pB HB.out)); (case aF => exact (fun _ _ => trivial)); (case aO => exact (pR HO_6.out)); (case aS => exact (aa (pB HB.out))); (case aL => have := LMc16.out; omega); intro vqc w19 ho hb hg hat; rw [← Nyqa.out] at ho; replace HO_7 := aQ (Kd.R_over' (pR HO_7.out) (Kd.R_typed (pR HO_6.out)) (by decide) hg); replace HB := aQ (hb); have HOqd := aQ (ho); clear HO_6; clear ho hb hg hat))
     go_roundg kj6
     case measure => have := HK1.out; have := HJ6.out; omega
     case rel => exact ⟨(yqa), (wrap64 (x8_1 + 1)), rs_, H', ⟨by have := HK1.out; have := HJ6.out; omega⟩, ⟨pR HOqd.out⟩, ⟨pR HO_7.out⟩, ⟨pB HB.out⟩⟩
    ·replace c15 := Bool.eq_false_iff.mpr c15
     subst c15
     have H1 : (some ((([] : List Int)), false)) = some (r1, r2) := by rw [if_neg (show ¬ (false = true) by decide)] at H; exact H
     clear H
     have H := H1
     clear H1
     obtain ⟨yqe, hyqe⟩ : ∃ y_ : List Int, y_ = (([] : List Int)) := ⟨_, rfl⟩
     replace H : (some (yqe, false)) = some (r1, r2) := by first | (rw [hyqe]; with_reducible exact H) | (rw [hyqe]; exact H)
     have Nyqe := aQ hyqe
     clear hyqe
     simp only [Option.some.injEq, Prod.mk.injEq] at H
     obtain ⟨rfl, rfl⟩ := H
     obtain ⟨Ao20, co20, eo20⟩ := Kd.R_slice HO_7.out
     subst eo20
     have pqb : 0 ≤ (x8_1 : Int) := of_decide_eq_true as_
     have qqb : x8_1 < (tq3.length : Int) := of_decide_eq_true as_
     obtain ⟨adqb, eqb, hxqb_0⟩ := Kd.at_string (Kd.R_reads' HO_7.out).2.2 x8_1 pqb qqb
     cases eqb
     replace pqb := eq_true pqb
     replace qqb := eq_true qqb
     go_wp2_with (first | (refine gq 293 (some 29) Tryz.func293 #[.string (rdOf ByteArray.empty tq3 x8_1)] ?_; (with_reducible refine (aM.calls kj6 (rdOf ByteArray.empty tq3 x8_1) tq0 false _ A14.out).mono ?_); rintro e w21 ⟨rfl, hb⟩; refine ⟨_, rfl, ?_⟩; replace HO_6 := aQ (Kd.R_below (pR HO_6.out) hb); replace HO_7 := aQ (Kd.R_below (pR HO_7.out) hb); replace HB := bs HB hb; (try clear hb)) | ((with_reducible refine af (N := 34) rfl ?_); refine Kd.R_lit (Kd.int .i64) _ 3 ?hg (N := 34) ?hd (xs := ([] : List Int)) (inner := []) (ok := fun _ => True) (okp := fun _ => True) ?hr ?hp (fun _ hk => hk) trivial (Below.refl _ _) (Nat.le_refl _) (by simp) ?_; (case hd => rfl); (case hg => rfl); (case hr => first | (go_simp; done) | (go_simp; rfl)); (case hp => exact (Reps.none _ _)); intro vqf w22 ho23 hb hg_ hnew_; clear hg_ hnew_; (first | rw [← Nyqe.out] at ho23 | (simp only [Int.reduceToNat] at ho23; rw [← Nyqe.out] at ho23)); replace HO_7 := aQ (Kd.R_below (pR HO_7.out) hb); have HOqg := aQ (Kd.R_lower (Kd.R_new' ho23 (Kd.R_lt (pR HO_6.out))) (aa (pB HB.out))); replace HO_6 := aQ (Kd.R_elder' (pR HO_6.out) (Kd.R_base ho23) hb); replace HB := bs HB hb; clear hb ho23))
     go_ret2
     exact ⟨_, by first | rfl | (simp [errW_none, aj] <;> rfl) | (simp [*, errW_none, aj] <;> rfl), by refine pRx ?_; exact Kd.R_mono HOqg.out (fun _ hk => trivial), pB HB.out⟩
   ·replace c11 := Bool.eq_false_iff.mpr c11
    subst c11
    have H1 : ((av.f kj6 a0 x6_1).bind fun tq1 => (if tq1 = true then ((aJ.f kj6 x6_1).bind fun tq2 => (if tq2.toList = a1.toList then (some (x6_1, true)) else (some ((([] : List Int)), false)))) else (some ((([] : List Int)), false)))) = some (r1, r2) := by rw [if_neg (show ¬ (false = true) by decide)] at H; exact H
    clear H
    have H := H1
    clear H1
    replace H := bo H; obtain ⟨tq1, A24, H⟩ := H
    (try dsimp only at H)
    by_cases c25 : tq1 = true
    ·subst c25
     rw [if_pos rfl] at H
     replace H := bo H; obtain ⟨tq2, A26, H⟩ := H
     (try dsimp only at H)
     by_cases c27 : tq2.toList = a1.toList
     ·rw [if_pos c27] at H
      have c27b0 : (tq2.toList == a1.toList) = true := beq_iff_eq.mpr c27
      have c27b1 : (tq2.toList != a1.toList) = false := bne_eq_false_iff_eq.mpr c27
      clear c27
      simp only [Option.some.injEq, Prod.mk.injEq] at H
      obtain ⟨rfl, rfl⟩ := H
      obtain ⟨Ao28, co28, eo28⟩ := Kd.R_slice HO_6.out
      subst eo28
      go_wp2_with (first | (refine gq 155 (some 41) Tryz.func155 #[.int .i64 a0, .slice Ao28 x6_1.length co28] ?_; (with_reducible refine (av.calls kj6 a0 _ _ x6_1 true _ ?side1 ?side2 A24.out).mono ?_); (case side1 => exact pC ((Kd.R_reads' HO_6.out).2.2)); (case side2 => exact (Kd.R_reads' HO_6.out).2.1); rintro e w' ⟨rfl, ⟨nd, rfl⟩⟩; refine ⟨_, rfl, ?_⟩) | (go_at_call 294; (with_reducible refine (aJ.calls kj6 _ _ x6_1 tq2 _ ?side1 ?side2 A26.out).mono ?_); (case side1 => exact pC ((Kd.R_reads' HO_6.out).2.2)); (case side2 => exact (Kd.R_reads' HO_6.out).2.1); rintro e w29 ⟨rfl, hb⟩; replace HO_6 := aQ (Kd.R_below (pR HO_6.out) hb); replace HO_7 := aQ (Kd.R_below (pR HO_7.out) hb); replace HB := bs HB hb; (try clear hb)))
      go_ret2
      exact ⟨_, by first | rfl | (simp [errW_none, aj] <;> rfl) | (simp [*, errW_none, aj] <;> rfl), by refine pRx ?_; exact HO_6.out, pB HB.out⟩
     ·rw [if_neg c27] at H
      have c27b0 : (tq2.toList == a1.toList) = false := beq_eq_false_iff_ne.mpr c27
      have c27b1 : (tq2.toList != a1.toList) = true := bne_iff_ne.mpr c27
      obtain ⟨yqh, hyqh⟩ : ∃ y_ : List Int, y_ = (([] : List Int)) := ⟨_, rfl⟩
      replace H : (some (yqh, false)) = some (r1, r2) := by first | (rw [hyqh]; with_reducible exact H) | (rw [hyqh]; exact H)
      have Nyqh := aQ hyqh
      clear hyqh
      simp only [Option.some.injEq, Prod.mk.injEq] at H
      obtain ⟨rfl, rfl⟩ := H
      obtain ⟨Ao30, co30, eo30⟩ := Kd.R_slice HO_6.out
      subst eo30
      go_wp2_with (first | (refine gq 155 (some 41) Tryz.func155 #[.int .i64 a0, .slice Ao30 x6_1.length co30] ?_; (with_reducible refine (av.calls kj6 a0 _ _ x6_1 true _ ?side1 ?side2 A24.out).mono ?_); (case side1 => exact pC ((Kd.R_reads' HO_6.out).2.2)); (case side2 => exact (Kd.R_reads' HO_6.out).2.1); rintro e w' ⟨rfl, ⟨nd, rfl⟩⟩; refine ⟨_, rfl, ?_⟩) | (go_at_call 294; (with_reducible refine (aJ.calls kj6 _ _ x6_1 tq2 _ ?side1 ?side2 A26.out).mono ?_); (case side1 => exact pC ((Kd.R_reads' HO_6.out).2.2)); (case side2 => exact (Kd.R_reads' HO_6.out).2.1); rintro e w31 ⟨rfl, hb⟩; replace HO_6 := aQ (Kd.R_below (pR HO_6.out) hb); replace HO_7 := aQ (Kd.R_below (pR HO_7.out) hb); replace HB := bs HB hb; (try clear hb)) | ((with_reducible refine af (N := 49) rfl ?_); refine Kd.R_lit (Kd.int .i64) _ 3 ?hg (N := 49) ?hd (xs := ([] : List Int)) (inner := []) (ok := fun _ => True) (okp := fun _ => True) ?hr ?hp (fun _ hk => hk) trivial (Below.refl _ _) (Nat.le_refl _) (by simp) ?_; (case hd => rfl); (case hg => rfl); (case hr => first | (go_simp; done) | (go_simp; rfl)); (case hp => exact (Reps.none _ _)); intro vqi w32 ho33 hb hg_ hnew_; clear hg_ hnew_; (first | rw [← Nyqh.out] at ho33 | (simp only [Int.reduceToNat] at ho33; rw [← Nyqh.out] at ho33)); replace HO_7 := aQ (Kd.R_below (pR HO_7.out) hb); have HOqj := aQ (Kd.R_lower (Kd.R_new' ho33 (Kd.R_lt (pR HO_6.out))) (aa (pB HB.out))); replace HO_6 := aQ (Kd.R_elder' (pR HO_6.out) (Kd.R_base ho33) hb); replace HB := bs HB hb; clear hb ho33))
      go_ret2
      exact ⟨_, by first | rfl | (simp [errW_none, aj] <;> rfl) | (simp [*, errW_none, aj] <;> rfl), by refine pRx ?_; exact Kd.R_mono HOqj.out (fun _ hk => trivial), pB HB.out⟩
    ·replace c25 := Bool.eq_false_iff.mpr c25
     subst c25
     have H1 : (some ((([] : List Int)), false)) = some (r1, r2) := by rw [if_neg (show ¬ (false = true) by decide)] at H; exact H
     clear H
     have H := H1
     clear H1
     obtain ⟨yqk, hyqk⟩ : ∃ y_ : List Int, y_ = (([] : List Int)) := ⟨_, rfl⟩
     replace H : (some (yqk, false)) = some (r1, r2) := by first | (rw [hyqk]; with_reducible exact H) | (rw [hyqk]; exact H)
     have Nyqk := aQ hyqk
     clear hyqk
     simp only [Option.some.injEq, Prod.mk.injEq] at H
     obtain ⟨rfl, rfl⟩ := H
     obtain ⟨Ao34, co34, eo34⟩ := Kd.R_slice HO_6.out
     subst eo34
     go_wp2_with (first | (refine gq 155 (some 41) Tryz.func155 #[.int .i64 a0, .slice Ao34 x6_1.length co34] ?_; (with_reducible refine (av.calls kj6 a0 _ _ x6_1 false _ ?side1 ?side2 A24.out).mono ?_); (case side1 => exact pC ((Kd.R_reads' HO_6.out).2.2)); (case side2 => exact (Kd.R_reads' HO_6.out).2.1); rintro e w' ⟨rfl, ⟨nd, rfl⟩⟩; refine ⟨_, rfl, ?_⟩) | ((with_reducible refine af (N := 49) rfl ?_); refine Kd.R_lit (Kd.int .i64) _ 3 ?hg (N := 49) ?hd (xs := ([] : List Int)) (inner := []) (ok := fun _ => True) (okp := fun _ => True) ?hr ?hp (fun _ hk => hk) trivial (Below.refl _ _) (Nat.le_refl _) (by simp) ?_; (case hd => rfl); (case hg => rfl); (case hr => first | (go_simp; done) | (go_simp; rfl)); (case hp => exact (Reps.none _ _)); intro vql w35 ho36 hb hg_ hnew_; clear hg_ hnew_; (first | rw [← Nyqk.out] at ho36 | (simp only [Int.reduceToNat] at ho36; rw [← Nyqk.out] at ho36)); replace HO_7 := aQ (Kd.R_below (pR HO_7.out) hb); have HOqm := aQ (Kd.R_lower (Kd.R_new' ho36 (Kd.R_lt (pR HO_6.out))) (aa (pB HB.out))); replace HO_6 := aQ (Kd.R_elder' (pR HO_6.out) (Kd.R_base ho36) hb); replace HB := bs HB hb; clear hb ho36))
     go_ret2
     exact ⟨_, by first | rfl | (simp [errW_none, aj] <;> rfl) | (simp [*, errW_none, aj] <;> rfl), by refine pRx ?_; exact Kd.R_mono HOqm.out (fun _ hk => trivial), pB HB.out⟩
def aG.l0 : Nat → List Int → Int → Int → Option (Bool)
 | 0, _, _, _ => none
 | k + 1, x0, x1, x5 => if x5 < (x0.length : Int) then (if 0 ≤ x5 then (if (rd x0 x5) = x1 then (some true) else (aG.l0 k x0 x1 (wrap64 (x5 + 1)))) else (none)) else (some false)
def aG.f (k : Nat) (l0 : List Int) (a1 : Int) : Option (Bool) := aG.l0 k l0 a1 0
theorem aG.mono_l : ∀ k, (∀ y0 y1 y2, LeO (aG.l0 k y0 y1 y2) (aG.l0 (k + 1) y0 y1 y2))
 | 0 => fun _ _ _ r h => by simp [aG.l0] at h
 | k + 1 => by
  have ih0 := aG.mono_l k
  ·intro y0 y1 y2
   unfold aG.l0
   repeat' first | (with_reducible first | exact ih0 _ _ _ | exact LeO.refl _ | exact LeO.none _ | refine LeO.ite ?_ ?_ | refine LeO.bind ?_ (fun _ => ?_)) | exact ih0 _ _ _ | exact LeO.none _ | refine LeO.ite ?_ ?_ | refine LeO.bind ?_ (fun _ => ?_)
theorem aG.mono : ∀ a0 a1 k, LeO (aG.f k a0 a1) (aG.f (k + 1) a0 a1) := by
 intro a0 a1 k
 have ih0 := aG.mono_l k
 unfold aG.f
 repeat' first | (with_reducible first | exact ih0 _ _ _ | exact LeO.refl _ | exact LeO.none _ | refine LeO.ite ?_ ?_ | refine LeO.bind ?_ (fun _ => ?_)) | exact ih0 _ _ _ | exact LeO.none _ | refine LeO.ite ?_ ?_ | refine LeO.bind ?_ (fun _ => ?_)
theorem aG.calls (k : Nat) (A0 : Option Addr) (c0 : Nat) (l0 : List Int) (a1 : Int) (r : Bool) (w : World) (hr0 : Kd.C (Kd.int .i64) w A0 l0.length l0) (hc0 : l0.length ≤ c0) (h : aG.f k l0 a1 = some r) :
  Calls Tryz.prog 42 #[.slice A0 l0.length c0, .int .i64 a1] w fun e w' => e = .returned (.bool r) ∧ Drawn0 w w' := by
 have HR0 := aQ hr0
 have HC0 := aQ hc0
 clear hr0 hc0
 have H : (aG.l0 k l0 a1 0) = some r := h
 clear h
 have H' := aQ H
 clear H
 go_enter Tryz.func42, Tryz.ntmps42
 go_wp2
 go_loopg [5] k (fun kq v5 w' => ∃ (x5_1 : Int), v5 = .int .i64 x5_1 ∧ Aside0 (aG.l0 kq l0 a1 x5_1 = some r) ∧ Aside0 (kq ≤ k) ∧ Drawn0 w w')
 case atStart => exact ⟨(0), rs_, H', ⟨Nat.le_refl _⟩, rd_⟩
 clear H'
 obtain ⟨x5_1, rfl, HA, HK1, ⟨m1, rfl⟩⟩ := hrel
 rcases gk with _ | k1
 ·exact absurd HA.out (by simp [aG.l0])
 have H := HA.out
 clear HA
 simp only [aG.l0] at H
 by_cases c3 : x5_1 < (l0.length : Int)
 ·rw [if_pos c3] at H
  have c3b0 := decide_eq_true c3
  clear c3
  replace H := gd H; obtain ⟨c4, H⟩ := H
  have c4b0 := decide_eq_true c4
  clear c4
  by_cases c5 : (rd l0 x5_1) = a1
  ·rw [if_pos c5] at H
   have c5b0 : ((rd l0 x5_1) == a1) = true := beq_iff_eq.mpr c5
   have c5b1 : ((rd l0 x5_1) != a1) = false := bne_eq_false_iff_eq.mpr c5
   clear c5
   obtain rfl := Option.some.inj H
   have pq0 : 0 ≤ (x5_1 : Int) := of_decide_eq_true as_
   have qq0 : x5_1 < (l0.length : Int) := of_decide_eq_true as_
   obtain ⟨adq0, eq0, hxq0_0⟩ := Kd.at_int HR0.out x5_1 pq0 qq0
   cases eq0
   replace pq0 := eq_true pq0
   replace qq0 := eq_true qq0
   go_wp2
   go_ret
   exact ⟨rs_, rd_⟩
  ·rw [if_neg c5] at H
   have c5b0 : ((rd l0 x5_1) == a1) = false := beq_eq_false_iff_ne.mpr c5
   have c5b1 : ((rd l0 x5_1) != a1) = true := bne_iff_ne.mpr c5
   have H' := aQ H
   clear H
   have pq0 : 0 ≤ (x5_1 : Int) := of_decide_eq_true as_
   have qq0 : x5_1 < (l0.length : Int) := of_decide_eq_true as_
   obtain ⟨adq0, eq0, hxq0_0⟩ := Kd.at_int HR0.out x5_1 pq0 qq0
   cases eq0
   replace pq0 := eq_true pq0
   replace qq0 := eq_true qq0
   go_wp2
   go_roundg k1
   case measure => have := HK1.out; omega
   case rel => exact ⟨(wrap64 (x5_1 + 1)), rs_, H', ⟨by have := HK1.out; omega⟩, rd_⟩
 ·rw [if_neg c3] at H
  have c3b0 := decide_eq_false c3
  clear c3
  obtain rfl := Option.some.inj H
  go_wp2
  go_ret
  exact ⟨rs_, rd_⟩
def an.l0 : Nat → Int → Int → Int → Int → Int → List Int → Option (Bool)
 | 0, _, _, _, _, _, _ => none
 | k + 1, x1, x2, x3, x9, x223002000, x223002001 => if x9 < x223002000 then ((aT.f x2 x9).bind fun tq0 => (if tq0 = true then ((aT.f x1 x9).bind fun tq1 => (if tq1 = true then (an.l0 k x1 x2 x3 (wrap64 (x9 + 1)) x223002000 x223002001) else (if 0 ≤ (IntKind.u64.wrap (x3)) then (if 0 ≤ (IntKind.u64.wrap (x9)) then ((aG.f k x223002001 (wrap64 ((wrap64 (x1 - (shl .i64 1 (IntKind.u64.wrap (x3))))) + (shl .i64 1 (IntKind.u64.wrap (x9)))))).bind fun tq2 => (if tq2 = true then (some true) else (an.l0 k x1 x2 x3 (wrap64 (x9 + 1)) x223002000 x223002001))) else (none)) else (none)))) else (an.l0 k x1 x2 x3 (wrap64 (x9 + 1)) x223002000 x223002001))) else (some false)
def an.f (k : Nat) (a0_0 : Int) (l0_1 : List Int) (a1 : Int) (a2 : Int) (a3 : Int) : Option (Bool) := an.l0 k a1 a2 a3 0 a0_0 l0_1
theorem an.mono_l : ∀ k, (∀ y0 y1 y2 y3 y4 y5, LeO (an.l0 k y0 y1 y2 y3 y4 y5) (an.l0 (k + 1) y0 y1 y2 y3 y4 y5))
 | 0 => fun _ _ _ _ _ _ r h => by simp [an.l0] at h
 | k + 1 => by
  have ih0 := an.mono_l k
  ·intro y0 y1 y2 y3 y4 y5
   unfold an.l0
   repeat' first | (with_reducible first | exact ih0 _ _ _ _ _ _ | exact aG.mono _ _ _ | exact LeO.refl _ | exact LeO.none _ | refine LeO.ite ?_ ?_ | refine LeO.bind ?_ (fun _ => ?_)) | exact ih0 _ _ _ _ _ _ | exact LeO.none _ | refine LeO.ite ?_ ?_ | refine LeO.bind ?_ (fun _ => ?_)
theorem an.mono : ∀ a0 a1 a2 a3 a4 k, LeO (an.f k a0 a1 a2 a3 a4) (an.f (k + 1) a0 a1 a2 a3 a4) := by
 intro a0 a1 a2 a3 a4 k
 have ih0 := an.mono_l k
 unfold an.f
 repeat' first | (with_reducible first | exact ih0 _ _ _ _ _ _ | exact aG.mono _ _ _ | exact LeO.refl _ | exact LeO.none _ | refine LeO.ite ?_ ?_ | refine LeO.bind ?_ (fun _ => ?_)) | exact ih0 _ _ _ _ _ _ | exact LeO.none _ | refine LeO.ite ?_ ?_ | refine LeO.bind ?_ (fun _ => ?_)
theorem an.calls (k : Nat) (a0_0 : Int) (A0_1 : Option Addr) (c0_1 : Nat) (l0_1 : List Int) (a1 : Int) (a2 : Int) (a3 : Int) (r : Bool) (w : World) (hr0_1 : Kd.C (Kd.int .i64) w A0_1 l0_1.length l0_1) (hc0_1 : l0_1.length ≤ c0_1) (h : an.f k a0_0 l0_1 a1 a2 a3 = some r) :
  Calls Tryz.prog 222 #[.agg #[.int .i64 a0_0, .slice A0_1 l0_1.length c0_1], .int .i64 a1, .int .i64 a2, .int .i64 a3] w fun e w' => e = .returned (.bool r) ∧ Below w.heap.size w w' := by
 have hu26 := Tryz.underlying26
 have HR0_1 := aQ hr0_1
 have HC0_1 := aQ hc0_1
 clear hr0_1 hc0_1
 have HB := aQ (Below.refl w.heap.size w)
 have H : (an.l0 k a1 a2 a3 0 a0_0 l0_1) = some r := h
 clear h
 have H' := aQ H
 clear H
 go_enter Tryz.func222, Tryz.ntmps222
 go_wp2_with (first | ((with_reducible refine af (N := 4) rfl ?_); refine bx 4 #[.int .i64 a0_0, .slice A0_1 l0_1.length c0_1] 26 ?_; intro gbq3 hg w5 hbox hb; have BKq3 := aQ (hbox); have GWq3 := gB HB hg; have GEq3 := gB HB hg; replace HB := bs HB hb; clear hb hbox hg))
 go_loopg [9] k (fun kq v9 w' => ∃ (x9_1 : Int), v9 = .int .i64 x9_1 ∧ Aside0 (an.l0 kq a1 a2 a3 x9_1 a0_0 l0_1 = some r) ∧ Aside0 (kq ≤ k) ∧ Aside0 (w'.heap[gbq3]? = some (.cells #[.int .i64 a0_0, (.slice A0_1 l0_1.length c0_1)] 26 (0, 0))) ∧ Aside0 (Below w.heap.size w w'))
 case atStart => exact ⟨(0), rs_, H', ⟨Nat.le_refl _⟩, ⟨pk BKq3.out⟩, ⟨pB1 HB.out GEq3.out⟩⟩
 clear H'
 obtain ⟨x9_1, rfl, HA, HK1, BKq3, HB⟩ := hrel
 rcases gk with _ | k1
 ·exact absurd HA.out (by simp [an.l0])
 have H := HA.out
 clear HA
 simp only [an.l0] at H
 by_cases c6 : x9_1 < a0_0
 ·rw [if_pos c6] at H
  have c6b0 := decide_eq_true c6
  clear c6
  replace H := bo H; obtain ⟨tq0, A7, H⟩ := H
  (try dsimp only at H)
  by_cases c8 : tq0 = true
  ·subst c8
   rw [if_pos rfl] at H
   replace H := bo H; obtain ⟨tq1, A9, H⟩ := H
   (try dsimp only at H)
   by_cases c10 : tq1 = true
   ·subst c10
    rw [if_pos rfl] at H
    have H' := aQ H
    clear H
    obtain ⟨hcz11_0, hcz11_1, hfz11_0, hfz11_1⟩ := c2 BKq3
    go_wp2_with (first | ((with_reducible refine bi (f := 124) rfl ?_); refine gl (some 18) Tryz.func124 #[.int .i64 a2, .int .i64 x9_1] ?_; (with_reducible refine (aT.calls a2 x9_1 true _ A7.out).mono ?_); rintro e w' ⟨rfl, ⟨nd, rfl⟩⟩; refine ⟨_, rfl, ?_⟩) | (go_at_call 124; (with_reducible refine (aT.calls a1 x9_1 true _ A9.out).mono ?_); rintro e w' ⟨rfl, ⟨nd, rfl⟩⟩))
    go_roundg k1
    case measure => have := HK1.out; omega
    case rel => exact ⟨(wrap64 (x9_1 + 1)), rs_, H', ⟨by have := HK1.out; omega⟩, ⟨pk BKq3.out⟩, ⟨pB1 HB.out GEq3.out⟩⟩
   ·replace c10 := Bool.eq_false_iff.mpr c10
    subst c10
    have H1 : (if 0 ≤ (IntKind.u64.wrap (a3)) then (if 0 ≤ (IntKind.u64.wrap (x9_1)) then ((aG.f k1 l0_1 (wrap64 ((wrap64 (a1 - (shl .i64 1 (IntKind.u64.wrap (a3))))) + (shl .i64 1 (IntKind.u64.wrap (x9_1)))))).bind fun tq2 => (if tq2 = true then (some true) else (an.l0 k1 a1 a2 a3 (wrap64 (x9_1 + 1)) a0_0 l0_1))) else (none)) else (none)) = some r := by rw [if_neg (show ¬ (false = true) by decide)] at H; exact H
    clear H
    have H := H1
    clear H1
    obtain ⟨ji12, hji12⟩ : ∃ j_ : Int, (IntKind.u64.wrap (a3)) = j_ := ⟨_, rfl⟩
    replace H : (if 0 ≤ (ji12) then (if 0 ≤ (IntKind.u64.wrap (x9_1)) then ((aG.f k1 l0_1 (wrap64 ((wrap64 (a1 - (shl .i64 1 (ji12)))) + (shl .i64 1 (IntKind.u64.wrap (x9_1)))))).bind fun tq2 => (if tq2 = true then (some true) else (an.l0 k1 a1 a2 a3 (wrap64 (x9_1 + 1)) a0_0 l0_1))) else (none)) else (none)) = some r := by first | (rw [hji12] at H; exact H) | (simp only [hji12] at H ⊢; exact H)
    (try rw [hji12] at A7)
    (try rw [hji12] at A9)
    replace H := gd H; obtain ⟨c13, H⟩ := H
    have c13b0 := eq_true c13
    have c13b1 := decide_eq_true c13
    clear c13
    obtain ⟨ji14, hji14⟩ : ∃ j_ : Int, (shl .i64 1 (ji12)) = j_ := ⟨_, rfl⟩
    replace H : (if 0 ≤ (IntKind.u64.wrap (x9_1)) then ((aG.f k1 l0_1 (wrap64 ((wrap64 (a1 - (ji14))) + (shl .i64 1 (IntKind.u64.wrap (x9_1)))))).bind fun tq2 => (if tq2 = true then (some true) else (an.l0 k1 a1 a2 a3 (wrap64 (x9_1 + 1)) a0_0 l0_1))) else (none)) = some r := by first | (rw [hji14] at H; exact H) | (simp only [hji14] at H ⊢; exact H)
    (try rw [hji14] at A7)
    (try rw [hji14] at A9)
    have hji14_ : (IntKind.i64.wrap (1 * 2 ^ min (ji12).toNat 64)) = ji14 := hji14
    have hji14z : (ji12) ≤ 64 → (IntKind.i64.wrap (1 * 2 ^ (ji12).toNat)) = ji14 := cP hji14
    have hji14u : (IntKind.i64.wrap (2 ^ min (ji12).toNat 64)) = ji14 := by have h_ := hji14_; rw [Int.one_mul] at h_; exact h_
    have hji14v : (ji12) ≤ 64 → (IntKind.i64.wrap (2 ^ (ji12).toNat)) = ji14 := fun hle_ => by have h_ := hji14z hle_; rw [Int.one_mul] at h_; exact h_
    have hji14y : (wrap64 (1 * 2 ^ min (ji12).toNat 64)) = ji14 := (i64_w _).symm.trans hji14_
    have hji14x : (ji12) ≤ 64 → (wrap64 (1 * 2 ^ (ji12).toNat)) = ji14 := fun h_ => (i64_w _).symm.trans (hji14z h_)
    obtain ⟨ji15, hji15⟩ : ∃ j_ : Int, (IntKind.u64.wrap (x9_1)) = j_ := ⟨_, rfl⟩
    replace H : (if 0 ≤ (ji15) then ((aG.f k1 l0_1 (wrap64 ((wrap64 (a1 - (ji14))) + (shl .i64 1 (ji15))))).bind fun tq2 => (if tq2 = true then (some true) else (an.l0 k1 a1 a2 a3 (wrap64 (x9_1 + 1)) a0_0 l0_1))) else (none)) = some r := by first | (rw [hji15] at H; exact H) | (simp only [hji15] at H ⊢; exact H)
    (try rw [hji15] at A7)
    (try rw [hji15] at A9)
    replace H := gd H; obtain ⟨c16, H⟩ := H
    have c16b0 := eq_true c16
    have c16b1 := decide_eq_true c16
    clear c16
    obtain ⟨ji17, hji17⟩ : ∃ j_ : Int, (shl .i64 1 (ji15)) = j_ := ⟨_, rfl⟩
    replace H : ((aG.f k1 l0_1 (wrap64 ((wrap64 (a1 - (ji14))) + (ji17)))).bind fun tq2 => (if tq2 = true then (some true) else (an.l0 k1 a1 a2 a3 (wrap64 (x9_1 + 1)) a0_0 l0_1))) = some r := by first | (rw [hji17] at H; exact H) | (simp only [hji17] at H ⊢; exact H)
    (try rw [hji17] at A7)
    (try rw [hji17] at A9)
    have hji17_ : (IntKind.i64.wrap (1 * 2 ^ min (ji15).toNat 64)) = ji17 := hji17
    have hji17z : (ji15) ≤ 64 → (IntKind.i64.wrap (1 * 2 ^ (ji15).toNat)) = ji17 := cP hji17
    have hji17u : (IntKind.i64.wrap (2 ^ min (ji15).toNat 64)) = ji17 := by have h_ := hji17_; rw [Int.one_mul] at h_; exact h_
    have hji17v : (ji15) ≤ 64 → (IntKind.i64.wrap (2 ^ (ji15).toNat)) = ji17 := fun hle_ => by have h_ := hji17z hle_; rw [Int.one_mul] at h_; exact h_
    have hji17y : (wrap64 (1 * 2 ^ min (ji15).toNat 64)) = ji17 := (i64_w _).symm.trans hji17_
    have hji17x : (ji15) ≤ 64 → (wrap64 (1 * 2 ^ (ji15).toNat)) = ji17 := fun h_ => (i64_w _).symm.trans (hji17z h_)
    replace H := bo H; obtain ⟨tq2, A18, H⟩ := H
    (try dsimp only at H)
    by_cases c19 : tq2 = true
    ·subst c19
     rw [if_pos rfl] at H
     obtain rfl := Option.some.inj H
     obtain ⟨hcz20_0, hcz20_1, hfz20_0, hfz20_1⟩ := c2 BKq3
     go_wp2_with (first | ((with_reducible refine bi (f := 124) rfl ?_); refine gl (some 18) Tryz.func124 #[.int .i64 a2, .int .i64 x9_1] ?_; (with_reducible refine (aT.calls a2 x9_1 true _ A7.out).mono ?_); rintro e w' ⟨rfl, ⟨nd, rfl⟩⟩; refine ⟨_, rfl, ?_⟩) | (go_at_call 124; (with_reducible refine (aT.calls a1 x9_1 false _ A9.out).mono ?_); rintro e w' ⟨rfl, ⟨nd, rfl⟩⟩) | (go_at_call 42; (with_reducible refine (aG.calls k1 _ _ l0_1 (wrap64 ((wrap64 (a1 - (ji14))) + (ji17))) true _ ?side1 ?side2 A18.out).mono ?_); (case side1 => exact pC ((Kd.C_below HR0_1.out (pB1 HB.out GEq3.out)))); (case side2 => exact HC0_1.out); rintro e w' ⟨rfl, ⟨nd, rfl⟩⟩))
     go_ret
     exact ⟨by first | rfl | (simp [errW_none, aj] <;> rfl) | (simp only [← hji12, ← hji14, ← hji15, ← hji17]; first | rfl | (simp [errW_none, aj] <;> rfl)) | (simp [*, errW_none, aj] <;> rfl), pB1 HB.out GEq3.out⟩
    ·replace c19 := Bool.eq_false_iff.mpr c19
     subst c19
     have H1 : (an.l0 k1 a1 a2 a3 (wrap64 (x9_1 + 1)) a0_0 l0_1) = some r := by rw [if_neg (show ¬ (false = true) by decide)] at H; exact H
     clear H
     have H := H1
     clear H1
     have H' := aQ H
     clear H
     obtain ⟨hcz21_0, hcz21_1, hfz21_0, hfz21_1⟩ := c2 BKq3
     go_wp2_with (first | ((with_reducible refine bi (f := 124) rfl ?_); refine gl (some 18) Tryz.func124 #[.int .i64 a2, .int .i64 x9_1] ?_; (with_reducible refine (aT.calls a2 x9_1 true _ A7.out).mono ?_); rintro e w' ⟨rfl, ⟨nd, rfl⟩⟩; refine ⟨_, rfl, ?_⟩) | (go_at_call 124; (with_reducible refine (aT.calls a1 x9_1 false _ A9.out).mono ?_); rintro e w' ⟨rfl, ⟨nd, rfl⟩⟩) | (go_at_call 42; (with_reducible refine (aG.calls k1 _ _ l0_1 (wrap64 ((wrap64 (a1 - (ji14))) + (ji17))) false _ ?side1 ?side2 A18.out).mono ?_); (case side1 => exact pC ((Kd.C_below HR0_1.out (pB1 HB.out GEq3.out)))); (case side2 => exact HC0_1.out); rintro e w' ⟨rfl, ⟨nd, rfl⟩⟩))
     go_roundg k1
     case measure => have := HK1.out; omega
     case rel => exact ⟨(wrap64 (x9_1 + 1)), rs_, H', ⟨by have := HK1.out; omega⟩, ⟨pk BKq3.out⟩, ⟨pB1 HB.out GEq3.out⟩⟩
  ·replace c8 := Bool.eq_false_iff.mpr c8
   subst c8
   have H1 : (an.l0 k1 a1 a2 a3 (wrap64 (x9_1 + 1)) a0_0 l0_1) = some r := by rw [if_neg (show ¬ (false = true) by decide)] at H; exact H
   clear H
   have H := H1
   clear H1
   have H' := aQ H
   clear H
   obtain ⟨hcz22_0, hcz22_1, hfz22_0, hfz22_1⟩ := c2 BKq3
   go_wp2_with (first | ((with_reducible refine bi (f := 124) rfl ?_); refine gl (some 18) Tryz.func124 #[.int .i64 a2, .int .i64 x9_1] ?_; (with_reducible refine (aT.calls a2 x9_1 false _ A7.out).mono ?_); rintro e w' ⟨rfl, ⟨nd, rfl⟩⟩; refine ⟨_, rfl, ?_⟩))
   go_roundg k1
   case measure => have := HK1.out; omega
   case rel => exact ⟨(wrap64 (x9_1 + 1)), rs_, H', ⟨by have := HK1.out; omega⟩, ⟨pk BKq3.out⟩, ⟨pB1 HB.out GEq3.out⟩⟩
 ·rw [if_neg c6] at H
  have c6b0 := decide_eq_false c6
  clear c6
  obtain rfl := Option.some.inj H
  obtain ⟨hcz23_0, hcz23_1, hfz23_0, hfz23_1⟩ := c2 BKq3
  go_wp2
  go_ret
  exact ⟨re_, pB1 HB.out GEq3.out⟩
mutual
def ab.l0 : Nat → Int → Int → List Int → Option (Int × Int × Int × Bool)
 | 0, _, _, _ => none
 | k + 1, x4, x157002000, x157002001 => if x4 < (x157002001.length : Int) then (ab.l1 k x4 0 x157002000 x157002001) else (some (0, 0, 0, false))
def ab.l1 : Nat → Int → Int → Int → List Int → Option (Int × Int × Int × Bool)
 | 0, _, _, _, _ => none
 | k + 1, x4, x5, x157002000, x157002001 => if x5 < (x157002001.length : Int) then (ab.l2 k x4 x5 0 x157002000 x157002001) else (ab.l0 k (wrap64 (x4 + 1)) x157002000 x157002001)
def ab.l2 : Nat → Int → Int → Int → Int → List Int → Option (Int × Int × Int × Bool)
 | 0, _, _, _, _, _ => none
 | k + 1, x4, x5, x6, x157002000, x157002001 => if x6 < x157002000 then (if 0 ≤ x4 then (if x4 < (x157002001.length : Int) then (if 0 ≤ x5 then (if x5 < (x157002001.length : Int) then ((aT.f (rd x157002001 x4) x6).bind fun tq0 => (if tq0 = true then ((aT.f (rd x157002001 x5) x6).bind fun tq1 => (if tq1 = true then (ab.l2 k x4 x5 (wrap64 (x6 + 1)) x157002000 x157002001) else ((an.f k x157002000 x157002001 (rd x157002001 x4) (rd x157002001 x5) x6).bind fun tq2 => (if tq2 = true then (ab.l2 k x4 x5 (wrap64 (x6 + 1)) x157002000 x157002001) else (some (rd x157002001 x4, rd x157002001 x5, x6, true)))))) else (ab.l2 k x4 x5 (wrap64 (x6 + 1)) x157002000 x157002001))) else (none)) else (none)) else (none)) else (none)) else (ab.l1 k x4 (wrap64 (x5 + 1)) x157002000 x157002001)
end
def ab.f (k : Nat) (a0_0 : Int) (l0_1 : List Int) : Option (Int × Int × Int × Bool) := (av.f k a0_0 l0_1).bind fun tq3 => (if tq3 = true then (ab.l0 k 0 a0_0 l0_1) else (some (0, 0, 0, false)))
theorem ab.mono_l : ∀ k, (∀ y0 y1 y2, LeO (ab.l0 k y0 y1 y2) (ab.l0 (k + 1) y0 y1 y2)) ∧ (∀ y0 y1 y2 y3, LeO (ab.l1 k y0 y1 y2 y3) (ab.l1 (k + 1) y0 y1 y2 y3)) ∧ (∀ y0 y1 y2 y3 y4, LeO (ab.l2 k y0 y1 y2 y3 y4) (ab.l2 (k + 1) y0 y1 y2 y3 y4))
 | 0 => ⟨fun _ _ _ r h => by simp [ab.l0] at h, fun _ _ _ _ r h => by simp [ab.l1] at h, fun _ _ _ _ _ r h => by simp [ab.l2] at h⟩
 | k + 1 => by
  obtain ⟨ih0, ih1, ih2⟩ := ab.mono_l k
  refine ⟨?_, ?_, ?_⟩
  ·intro y0 y1 y2
   unfold ab.l0
   repeat' first | (with_reducible first | exact ih0 _ _ _ | exact ih1 _ _ _ _ | exact ih2 _ _ _ _ _ | exact av.mono _ _ _ | exact an.mono _ _ _ _ _ _ | exact LeO.refl _ | exact LeO.none _ | refine LeO.ite ?_ ?_ | refine LeO.bind ?_ (fun _ => ?_)) | exact ih0 _ _ _ | exact ih1 _ _ _ _ | exact ih2 _ _ _ _ _ | exact LeO.none _ | refine LeO.ite ?_ ?_ | refine LeO.bind ?_ (fun _ => ?_)
  ·intro y0 y1 y2 y3
   unfold ab.l1
   repeat' first | (with_reducible first | exact ih0 _ _ _ | exact ih1 _ _ _ _ | exact ih2 _ _ _ _ _ | exact av.mono _ _ _ | exact an.mono _ _ _ _ _ _ | exact LeO.refl _ | exact LeO.none _ | refine LeO.ite ?_ ?_ | refine LeO.bind ?_ (fun _ => ?_)) | exact ih0 _ _ _ | exact ih1 _ _ _ _ | exact ih2 _ _ _ _ _ | exact LeO.none _ | refine LeO.ite ?_ ?_ | refine LeO.bind ?_ (fun _ => ?_)
  ·intro y0 y1 y2 y3 y4
   unfold ab.l2
   repeat' first | (with_reducible first | exact ih0 _ _ _ | exact ih1 _ _ _ _ | exact ih2 _ _ _ _ _ | exact av.mono _ _ _ | exact an.mono _ _ _ _ _ _ | exact LeO.refl _ | exact LeO.none _ | refine LeO.ite ?_ ?_ | refine LeO.bind ?_ (fun _ => ?_)) | exact ih0 _ _ _ | exact ih1 _ _ _ _ | exact ih2 _ _ _ _ _ | exact LeO.none _ | refine LeO.ite ?_ ?_ | refine LeO.bind ?_ (fun _ => ?_)
theorem ab.mono : ∀ a0 a1 k, LeO (ab.f k a0 a1) (ab.f (k + 1) a0 a1) := by
 intro a0 a1 k
 obtain ⟨ih0, ih1, ih2⟩ := ab.mono_l k
 unfold ab.f
 repeat' first | (with_reducible first | exact ih0 _ _ _ | exact ih1 _ _ _ _ | exact ih2 _ _ _ _ _ | exact av.mono _ _ _ | exact an.mono _ _ _ _ _ _ | exact LeO.refl _ | exact LeO.none _ | refine LeO.ite ?_ ?_ | refine LeO.bind ?_ (fun _ => ?_)) | exact ih0 _ _ _ | exact ih1 _ _ _ _ | exact ih2 _ _ _ _ _ | exact LeO.none _ | refine LeO.ite ?_ ?_ | refine LeO.bind ?_ (fun _ => ?_)
theorem ab.calls (k : Nat) (a0_0 : Int) (A0_1 : Option Addr) (c0_1 : Nat) (l0_1 : List Int) (r1 : Int) (r2 : Int) (r3 : Int) (r4 : Bool) (w : World) (hr0_1 : Kd.C (Kd.int .i64) w A0_1 l0_1.length l0_1) (hc0_1 : l0_1.length ≤ c0_1) (h : ab.f k a0_0 l0_1 = some (r1, r2, r3, r4)) :
  Calls Tryz.prog 156 #[.agg #[.int .i64 a0_0, .slice A0_1 l0_1.length c0_1]] w fun e w' => e = .returned (.tuple #[.agg #[.int .i64 r1, .int .i64 r2, .int .i64 r3], .bool r4]) ∧ Below w.heap.size w w' := by
 have hu26 := Tryz.underlying26
 have hu109 := Tryz.underlying109
 have HR0_1 := aQ hr0_1
 have HC0_1 := aQ hc0_1
 clear hr0_1 hc0_1
 have HB := aQ (Below.refl w.heap.size w)
 have H := h
 clear h
 unfold ab.f at H
 (try dsimp only at H)
 replace H := bo H; obtain ⟨tq3, A2, H⟩ := H
 (try dsimp only at H)
 by_cases c3 : tq3 = true
 ·subst c3
  rw [if_pos rfl] at H
  have H' := aQ H
  clear H
  go_enter Tryz.func156, Tryz.ntmps156
  go_wp2_with (first | ((with_reducible refine af (N := 1) rfl ?_); refine bx 1 #[.int .i64 a0_0, .slice A0_1 l0_1.length c0_1] 26 ?_; intro gbq4 hg w4 hbox hb; have BKq4 := aQ (hbox); have GWq4 := gB HB hg; have GEq4 := gB HB hg; replace HB := bs HB hb; clear hb hbox hg) | ((with_reducible refine af (N := 2) rfl ?_); refine bx 2 #[.int .i64 0, .int .i64 0, .int .i64 0] 109 ?_; intro gbq5 hg w5 hbox hb; have BKq5 := aQ (hbox); have GWq5 := gB HB hg; have GEq5 := gB HB hg; replace HB := bs HB hb; have NBq4_q5 := nl BKq4 hg; have NBq5_q4 := ng BKq4 hg; replace BKq4 := bb BKq4 hb; clear hb hbox hg; have hnb6 := NBq4_q5.out; have hnc6 := NBq5_q4.out; obtain ⟨hcz7_0, hcz7_1, hfz7_0, hfz7_1⟩ := c2 BKq4) | (refine gq 155 (some 13) Tryz.func155 #[.int .i64 a0_0, .slice A0_1 l0_1.length c0_1] ?_; (with_reducible refine (av.calls k a0_0 _ _ l0_1 true _ ?side1 ?side2 A2.out).mono ?_); (case side1 => exact pC (Kd.C_below HR0_1.out HB.out)); (case side2 => exact HC0_1.out); rintro e w' ⟨rfl, ⟨nd, rfl⟩⟩; refine ⟨_, rfl, ?_⟩))
  go_loopg [4] k (fun kq v4 w' => ∃ (x4_1 : Int) (x157003000_1 : Int) (x157003001_1 : Int) (x157003002_1 : Int), v4 = .int .i64 x4_1 ∧ Aside0 (ab.l0 kq x4_1 a0_0 l0_1 = some (r1, r2, r3, r4)) ∧ Aside0 (kq ≤ k) ∧ Aside0 (w'.heap[gbq4]? = some (.cells #[.int .i64 a0_0, (.slice A0_1 l0_1.length c0_1)] 26 (0, 0))) ∧ Aside0 (w'.heap[gbq5]? = some (.cells #[.int .i64 x157003000_1, .int .i64 x157003001_1, .int .i64 x157003002_1] 109 (0, 0))) ∧ Aside0 (Below w.heap.size w w'))
  case atStart => exact ⟨(0), (0), (0), (0), rs_, H', ⟨Nat.le_refl _⟩, ⟨pk BKq4.out⟩, ⟨pk BKq5.out⟩, ⟨pB2 HB.out GEq4.out GEq5.out⟩⟩
  clear H'
  try clear c3
  try clear hcz7_0
  try clear hcz7_1
  try clear hfz7_0
  try clear hfz7_1
  obtain ⟨x4_1, x157003000_1, x157003001_1, x157003002_1, rfl, HA, HK1, BKq4, BKq5, HB⟩ := hrel
  rcases gk with _ | k1
  ·exact absurd HA.out (by simp [ab.l0])
  have H := HA.out
  clear HA
  simp only [ab.l0] at H
  by_cases c8 : x4_1 < (l0_1.length : Int)
  ·rw [if_pos c8] at H
   have c8b0 := decide_eq_true c8
   clear c8
   have H' := aQ H
   clear H
   have hnb9 := NBq4_q5.out
   have hnc9 := NBq5_q4.out
   obtain ⟨hcz10_0, hcz10_1, hfz10_0, hfz10_1⟩ := c2 BKq4
   go_wp2
   go_loopg [5] k1 (fun kq v5 w' => ∃ (x5_2 : Int) (x157003000_2 : Int) (x157003001_2 : Int) (x157003002_2 : Int), v5 = .int .i64 x5_2 ∧ Aside0 (ab.l1 kq x4_1 x5_2 a0_0 l0_1 = some (r1, r2, r3, r4)) ∧ Aside0 (kq ≤ k1) ∧ Aside0 (w'.heap[gbq4]? = some (.cells #[.int .i64 a0_0, (.slice A0_1 l0_1.length c0_1)] 26 (0, 0))) ∧ Aside0 (w'.heap[gbq5]? = some (.cells #[.int .i64 x157003000_2, .int .i64 x157003001_2, .int .i64 x157003002_2] 109 (0, 0))) ∧ Aside0 (Below w.heap.size w w'))
   case atStart => exact ⟨(0), (x157003000_1), (x157003001_1), (x157003002_1), rs_, H', ⟨Nat.le_refl _⟩, ⟨pk BKq4.out⟩, ⟨pk BKq5.out⟩, ⟨pB2 HB.out GEq4.out GEq5.out⟩⟩
   clear H'
   try clear c3
   try clear c8
   try clear c8b0
   try clear hcz10_0
   try clear hcz10_1
   try clear hcz7_0
   try clear hcz7_1
   try clear hfz10_0
   try clear hfz10_1
   try clear hfz7_0
   try clear hfz7_1
   obtain ⟨x5_2, x157003000_2, x157003001_2, x157003002_2, rfl, HA, HK2, BKq4, BKq5, HB⟩ := hrel
   rcases gk with _ | k2
   ·exact absurd HA.out (by simp [ab.l1])
   have H := HA.out
   clear HA
   simp only [ab.l1] at H
   by_cases c11 : x5_2 < (l0_1.length : Int)
   ·rw [if_pos c11] at H
    have c11b0 := decide_eq_true c11
    clear c11
    have H' := aQ H
    clear H
    have hnb12 := NBq4_q5.out
    have hnc12 := NBq5_q4.out
    obtain ⟨hcz13_0, hcz13_1, hfz13_0, hfz13_1⟩ := c2 BKq4
    go_wp2
    go_loopg [6] k2 (fun kq v6 w' => ∃ (x6_3 : Int) (x157003000_3 : Int) (x157003001_3 : Int) (x157003002_3 : Int), v6 = .int .i64 x6_3 ∧ Aside0 (ab.l2 kq x4_1 x5_2 x6_3 a0_0 l0_1 = some (r1, r2, r3, r4)) ∧ Aside0 (kq ≤ k2) ∧ Aside0 (w'.heap[gbq4]? = some (.cells #[.int .i64 a0_0, (.slice A0_1 l0_1.length c0_1)] 26 (0, 0))) ∧ Aside0 (w'.heap[gbq5]? = some (.cells #[.int .i64 x157003000_3, .int .i64 x157003001_3, .int .i64 x157003002_3] 109 (0, 0))) ∧ Aside0 (Below w.heap.size w w'))
    case atStart => exact ⟨(0), (x157003000_2), (x157003001_2), (x157003002_2), rs_, H', ⟨Nat.le_refl _⟩, ⟨pk BKq4.out⟩, ⟨pk BKq5.out⟩, ⟨pB2 HB.out GEq4.out GEq5.out⟩⟩
    clear H'
    try clear c3
    try clear c8
    try clear c8b0
    try clear c11
    try clear c11b0
    try clear hcz10_0
    try clear hcz10_1
    try clear hcz13_0
    try clear hcz13_1
    try clear hcz7_0
    try clear hcz7_1
    try clear hfz10_0
    try clear hfz10_1
    try clear hfz13_0
    try clear hfz13_1
    try clear hfz7_0
    try clear hfz7_1
    obtain ⟨x6_3, x157003000_3, x157003001_3, x157003002_3, rfl, HA, HK3, BKq4, BKq5, HB⟩ := hrel
    rcases gk with _ | k3
    ·exact absurd HA.out (by simp [ab.l2])
    have H := HA.out
    clear HA
    simp only [ab.l2] at H
    by_cases c14 : x6_3 < a0_0
    ·rw [if_pos c14] at H
     have c14b0 := decide_eq_true c14
     clear c14
     replace H := gd H; obtain ⟨c15, H⟩ := H
     have c15b0 := decide_eq_true c15
     clear c15
     replace H := gd H; obtain ⟨c16, H⟩ := H
     have c16b0 := decide_eq_true c16
     clear c16
     replace H := gd H; obtain ⟨c17, H⟩ := H
     have c17b0 := decide_eq_true c17
     clear c17
     replace H := gd H; obtain ⟨c18, H⟩ := H
     have c18b0 := decide_eq_true c18
     clear c18
     replace H := bo H; obtain ⟨tq0, A19, H⟩ := H
     (try dsimp only at H)
     by_cases c20 : tq0 = true
     ·subst c20
      rw [if_pos rfl] at H
      replace H := bo H; obtain ⟨tq1, A21, H⟩ := H
      (try dsimp only at H)
      by_cases c22 : tq1 = true
      ·subst c22
       rw [if_pos rfl] at H
       have H' := aQ H
       clear H
       have hnb23 := NBq4_q5.out
       have hnc23 := NBq5_q4.out
       obtain ⟨hcz24_0, hcz24_1, hfz24_0, hfz24_1⟩ := c2 BKq4
       have pq6 : 0 ≤ (x4_1 : Int) := of_decide_eq_true as_
       have qq6 : x4_1 < (l0_1.length : Int) := of_decide_eq_true as_
       obtain ⟨adq6, eq6, hxq6_0⟩ := Kd.at_int HR0_1.out x4_1 pq6 qq6
       cases eq6
       replace hxq6_0 := (HB.out.cell (World.block_lt_of_cell? w _ hxq6_0)).trans hxq6_0
       replace pq6 := eq_true pq6
       replace qq6 := eq_true qq6
       have pq7 : 0 ≤ (x5_2 : Int) := of_decide_eq_true as_
       have qq7 : x5_2 < (l0_1.length : Int) := of_decide_eq_true as_
       obtain ⟨adq7, eq7, hxq7_0⟩ := Kd.at_int HR0_1.out x5_2 pq7 qq7
       obtain rfl : adq6 = adq7 := (by injection eq7)
       replace hxq7_0 := (HB.out.cell (World.block_lt_of_cell? w _ hxq7_0)).trans hxq7_0
       replace pq7 := eq_true pq7
       replace qq7 := eq_true qq7
       go_wp2_with (first | (refine gq 124 (some 48) Tryz.func124 #[.int .i64 (rd l0_1 x4_1), .int .i64 x6_3] ?_; (with_reducible refine (aT.calls (rd l0_1 x4_1) x6_3 true _ A19.out).mono ?_); rintro e w' ⟨rfl, ⟨nd, rfl⟩⟩; refine ⟨_, rfl, ?_⟩) | (go_at_call 124; (with_reducible refine (aT.calls (rd l0_1 x5_2) x6_3 true _ A21.out).mono ?_); rintro e w' ⟨rfl, ⟨nd, rfl⟩⟩))
       go_roundg k3
       case measure => have := HK1.out; have := HK2.out; have := HK3.out; omega
       case rel => exact ⟨(wrap64 (x6_3 + 1)), (x157003000_3), (x157003001_3), (x157003002_3), rs_, H', ⟨by have := HK1.out; have := HK2.out; have := HK3.out; omega⟩, ⟨pk BKq4.out⟩, ⟨pk BKq5.out⟩, ⟨pB2 HB.out GEq4.out GEq5.out⟩⟩
      ·replace c22 := Bool.eq_false_iff.mpr c22
       subst c22
       have H1 : ((an.f k3 a0_0 l0_1 (rd l0_1 x4_1) (rd l0_1 x5_2) x6_3).bind fun tq2 => (if tq2 = true then (ab.l2 k3 x4_1 x5_2 (wrap64 (x6_3 + 1)) a0_0 l0_1) else (some (rd l0_1 x4_1, rd l0_1 x5_2, x6_3, true)))) = some (r1, r2, r3, r4) := by rw [if_neg (show ¬ (false = true) by decide)] at H; exact H
       clear H
       have H := H1
       clear H1
       replace H := bo H; obtain ⟨tq2, A25, H⟩ := H
       (try dsimp only at H)
       by_cases c26 : tq2 = true
       ·subst c26
        rw [if_pos rfl] at H
        have H' := aQ H
        clear H
        have hnb27 := NBq4_q5.out
        have hnc27 := NBq5_q4.out
        obtain ⟨hcz28_0, hcz28_1, hfz28_0, hfz28_1⟩ := c2 BKq4
        have pq6 : 0 ≤ (x4_1 : Int) := of_decide_eq_true as_
        have qq6 : x4_1 < (l0_1.length : Int) := of_decide_eq_true as_
        obtain ⟨adq6, eq6, hxq6_0⟩ := Kd.at_int HR0_1.out x4_1 pq6 qq6
        cases eq6
        replace hxq6_0 := (HB.out.cell (World.block_lt_of_cell? w _ hxq6_0)).trans hxq6_0
        replace pq6 := eq_true pq6
        replace qq6 := eq_true qq6
        have pq7 : 0 ≤ (x5_2 : Int) := of_decide_eq_true as_
        have qq7 : x5_2 < (l0_1.length : Int) := of_decide_eq_true as_
        obtain ⟨adq7, eq7, hxq7_0⟩ := Kd.at_int HR0_1.out x5_2 pq7 qq7
        obtain rfl : adq6 = adq7 := (by injection eq7)
        replace hxq7_0 := (HB.out.cell (World.block_lt_of_cell? w _ hxq7_0)).trans hxq7_0
        replace pq7 := eq_true pq7
        replace qq7 := eq_true qq7
        go_wp2_with (first | (refine gq 124 (some 48) Tryz.func124 #[.int .i64 (rd l0_1 x4_1), .int .i64 x6_3] ?_; (with_reducible refine (aT.calls (rd l0_1 x4_1) x6_3 true _ A19.out).mono ?_); rintro e w' ⟨rfl, ⟨nd, rfl⟩⟩; refine ⟨_, rfl, ?_⟩) | (go_at_call 124; (with_reducible refine (aT.calls (rd l0_1 x5_2) x6_3 false _ A21.out).mono ?_); rintro e w' ⟨rfl, ⟨nd, rfl⟩⟩) | (go_at_call 222; (with_reducible refine (an.calls k3 a0_0 _ _ l0_1 (rd l0_1 x4_1) (rd l0_1 x5_2) x6_3 true _ ?side1 ?side2 A25.out).mono ?_); (case side1 => exact pC ((Kd.C_below HR0_1.out (pB2 HB.out GEq4.out GEq5.out)))); (case side2 => exact HC0_1.out); rintro e w29 ⟨rfl, hb⟩; replace BKq4 := bb BKq4 hb; replace BKq5 := bb BKq5 hb; replace HB := bs HB hb; (try clear hb)))
        go_roundg k3
        case measure => have := HK1.out; have := HK2.out; have := HK3.out; omega
        case rel => exact ⟨(wrap64 (x6_3 + 1)), (x157003000_3), (x157003001_3), (x157003002_3), rs_, H', ⟨by have := HK1.out; have := HK2.out; have := HK3.out; omega⟩, ⟨pk BKq4.out⟩, ⟨pk BKq5.out⟩, ⟨pB2 HB.out GEq4.out GEq5.out⟩⟩
       ·replace c26 := Bool.eq_false_iff.mpr c26
        subst c26
        have H1 : (some (rd l0_1 x4_1, rd l0_1 x5_2, x6_3, true)) = some (r1, r2, r3, r4) := by rw [if_neg (show ¬ (false = true) by decide)] at H; exact H
        clear H
        have H := H1
        clear H1
        simp only [Option.some.injEq, Prod.mk.injEq] at H
        obtain ⟨rfl, rfl, rfl, rfl⟩ := H
        have hnb30 := NBq4_q5.out
        have hnc30 := NBq5_q4.out
        obtain ⟨hcz31_0, hcz31_1, hfz31_0, hfz31_1⟩ := c2 BKq4
        have pq6 : 0 ≤ (x4_1 : Int) := of_decide_eq_true as_
        have qq6 : x4_1 < (l0_1.length : Int) := of_decide_eq_true as_
        obtain ⟨adq6, eq6, hxq6_0⟩ := Kd.at_int HR0_1.out x4_1 pq6 qq6
        cases eq6
        replace hxq6_0 := (HB.out.cell (World.block_lt_of_cell? w _ hxq6_0)).trans hxq6_0
        replace pq6 := eq_true pq6
        replace qq6 := eq_true qq6
        have pq7 : 0 ≤ (x5_2 : Int) := of_decide_eq_true as_
        have qq7 : x5_2 < (l0_1.length : Int) := of_decide_eq_true as_
        obtain ⟨adq7, eq7, hxq7_0⟩ := Kd.at_int HR0_1.out x5_2 pq7 qq7
        obtain rfl : adq6 = adq7 := (by injection eq7)
        replace hxq7_0 := (HB.out.cell (World.block_lt_of_cell? w _ hxq7_0)).trans hxq7_0
        replace pq7 := eq_true pq7
        replace qq7 := eq_true qq7
        go_wp2_with (first | (refine gq 124 (some 48) Tryz.func124 #[.int .i64 (rd l0_1 x4_1), .int .i64 x6_3] ?_; (with_reducible refine (aT.calls (rd l0_1 x4_1) x6_3 true _ A19.out).mono ?_); rintro e w' ⟨rfl, ⟨nd, rfl⟩⟩; refine ⟨_, rfl, ?_⟩; (try (rw [cT wr]; generalize hq_ : World.drewN wr _ = wr; have n0_ : Aside0 (wr.heap[gbq4]? = some (.cells #[.int .i64 a0_0, .slice (some adq6) l0_1.length c0_1] 26 (0, 0))) := ⟨by rw [← hq_]; exact (pk BKq4.out)⟩; have n1_ : Aside0 (wr.heap[gbq5]? = some (.cells #[.int .i64 x157003000_3, .int .i64 x157003001_3, .int .i64 x157003002_3] 109 (0, 0))) := ⟨by rw [← hq_]; exact (pk BKq5.out)⟩; have n2_ : Aside0 (Below w.heap.size w wr) := ⟨by rw [← hq_]; exact (pB2 HB.out GEq4.out GEq5.out)⟩; clear BKq4 BKq5 HB hq_; have BKq4 := n0_; have BKq5 := n1_; have HB := n2_; clear n0_ n1_ n2_; obtain ⟨hcz31_0, hcz31_1, hfz31_0, hfz31_1⟩ := c2 BKq4))) | (go_at_call 124; (with_reducible refine (aT.calls (rd l0_1 x5_2) x6_3 false _ A21.out).mono ?_); rintro e w' ⟨rfl, ⟨nd, rfl⟩⟩; (try (rw [cT wr]; generalize hq_ : World.drewN wr _ = wr; have n0_ : Aside0 (wr.heap[gbq4]? = some (.cells #[.int .i64 a0_0, .slice (some adq6) l0_1.length c0_1] 26 (0, 0))) := ⟨by rw [← hq_]; exact (pk BKq4.out)⟩; have n1_ : Aside0 (wr.heap[gbq5]? = some (.cells #[.int .i64 x157003000_3, .int .i64 x157003001_3, .int .i64 x157003002_3] 109 (0, 0))) := ⟨by rw [← hq_]; exact (pk BKq5.out)⟩; have n2_ : Aside0 (Below w.heap.size w wr) := ⟨by rw [← hq_]; exact (pB2 HB.out GEq4.out GEq5.out)⟩; clear BKq4 BKq5 HB hq_; have BKq4 := n0_; have BKq5 := n1_; have HB := n2_; clear n0_ n1_ n2_; obtain ⟨hcz31_0, hcz31_1, hfz31_0, hfz31_1⟩ := c2 BKq4))) | (go_at_call 222; (with_reducible refine (an.calls k3 a0_0 _ _ l0_1 (rd l0_1 x4_1) (rd l0_1 x5_2) x6_3 false _ ?side1 ?side2 A25.out).mono ?_); (case side1 => exact pC (Kd.C_below HR0_1.out HB.out)); (case side2 => exact HC0_1.out); rintro e w32 ⟨rfl, hb⟩; replace BKq4 := bb BKq4 hb; replace BKq5 := bb BKq5 hb; replace HB := bs HB hb; (try clear hb); have hcz33_0 := bc (v := (.int .i64 x157003000_3)) BKq5.out 0; have hcz33_1 := bc (v := (.int .i64 x157003001_3)) BKq5.out 1; have hcz33_2 := bc (v := (.int .i64 x157003002_3)) BKq5.out 2; have hfz33_0 := aH BKq5.out 0; have hfz33_1 := aH BKq5.out 1; have hfz33_2 := aH BKq5.out 2))
        refine bodyPost_ret (cK rfl _ _ gbq5 109 #[.int .i64 (rd l0_1 x4_1), .int .i64 (rd l0_1 x5_2), .int .i64 x6_3] (0, 0) _ rfl (by refine pkx ?_; refine al (cs := #[.int .i64 (rd l0_1 x4_1), .int .i64 (rd l0_1 x5_2), .int .i64 x157003002_3]) ?_ 2 _ rfl; refine pkx ?_; refine al (cs := #[.int .i64 (rd l0_1 x4_1), .int .i64 x157003001_3, .int .i64 x157003002_3]) ?_ 1 _ rfl; refine pkx ?_; refine al (cs := #[.int .i64 x157003000_3, .int .i64 x157003001_3, .int .i64 x157003002_3]) ?_ 0 _ rfl; refine pkx ?_; exact BKq5.out) Tryz.underlying109 rfl (by kernel_rfl)) rfl ?_
        exact ⟨re_, pB2 HB.out GEq4.out GEq5.out⟩
     ·replace c20 := Bool.eq_false_iff.mpr c20
      subst c20
      have H1 : (ab.l2 k3 x4_1 x5_2 (wrap64 (x6_3 + 1)) a0_0 l0_1) = some (r1, r2, r3, r4) := by rw [if_neg (show ¬ (false = true) by decide)] at H; exact H
      clear H
      have H := H1
      clear H1
      have H' := aQ H
      clear H
      have hnb34 := NBq4_q5.out
      have hnc34 := NBq5_q4.out
      obtain ⟨hcz35_0, hcz35_1, hfz35_0, hfz35_1⟩ := c2 BKq4
      have pq6 : 0 ≤ (x4_1 : Int) := of_decide_eq_true as_
      have qq6 : x4_1 < (l0_1.length : Int) := of_decide_eq_true as_
      obtain ⟨adq6, eq6, hxq6_0⟩ := Kd.at_int HR0_1.out x4_1 pq6 qq6
      cases eq6
      replace hxq6_0 := (HB.out.cell (World.block_lt_of_cell? w _ hxq6_0)).trans hxq6_0
      replace pq6 := eq_true pq6
      replace qq6 := eq_true qq6
      have pq7 : 0 ≤ (x5_2 : Int) := of_decide_eq_true as_
      have qq7 : x5_2 < (l0_1.length : Int) := of_decide_eq_true as_
      obtain ⟨adq7, eq7, hxq7_0⟩ := Kd.at_int HR0_1.out x5_2 pq7 qq7
      obtain rfl : adq6 = adq7 := (by injection eq7)
      replace hxq7_0 := (HB.out.cell (World.block_lt_of_cell? w _ hxq7_0)).trans hxq7_0
      replace pq7 := eq_true pq7
      replace qq7 := eq_true qq7
      go_wp2_with (first | (refine gq 124 (some 48) Tryz.func124 #[.int .i64 (rd l0_1 x4_1), .int .i64 x6_3] ?_; (with_reducible refine (aT.calls (rd l0_1 x4_1) x6_3 false _ A19.out).mono ?_); rintro e w' ⟨rfl, ⟨nd, rfl⟩⟩; refine ⟨_, rfl, ?_⟩))
      go_roundg k3
      case measure => have := HK1.out; have := HK2.out; have := HK3.out; omega
      case rel => exact ⟨(wrap64 (x6_3 + 1)), (x157003000_3), (x157003001_3), (x157003002_3), rs_, H', ⟨by have := HK1.out; have := HK2.out; have := HK3.out; omega⟩, ⟨pk BKq4.out⟩, ⟨pk BKq5.out⟩, ⟨pB2 HB.out GEq4.out GEq5.out⟩⟩
    ·rw [if_neg c14] at H
     have c14b0 := decide_eq_false c14
     clear c14
     have H' := aQ H
     clear H
     have hnb36 := NBq4_q5.out
     have hnc36 := NBq5_q4.out
     obtain ⟨hcz37_0, hcz37_1, hfz37_0, hfz37_1⟩ := c2 BKq4
     go_wp2
     go_roundg k3
     case measure => have := HK1.out; have := HK2.out; have := HK3.out; omega
     case rel => exact ⟨(wrap64 (x5_2 + 1)), (x157003000_3), (x157003001_3), (x157003002_3), rs_, H', ⟨by have := HK1.out; have := HK2.out; have := HK3.out; omega⟩, ⟨pk BKq4.out⟩, ⟨pk BKq5.out⟩, ⟨pB2 HB.out GEq4.out GEq5.out⟩⟩
   ·rw [if_neg c11] at H
    have c11b0 := decide_eq_false c11
    clear c11
    have H' := aQ H
    clear H
    have hnb38 := NBq4_q5.out
    have hnc38 := NBq5_q4.out
    obtain ⟨hcz39_0, hcz39_1, hfz39_0, hfz39_1⟩ := c2 BKq4
    go_wp2
    go_roundg k2
    case measure => have := HK1.out; have := HK2.out; omega
    case rel => exact ⟨(wrap64 (x4_1 + 1)), (x157003000_2), (x157003001_2), (x157003002_2), rs_, H', ⟨by have := HK1.out; have := HK2.out; omega⟩, ⟨pk BKq4.out⟩, ⟨pk BKq5.out⟩, ⟨pB2 HB.out GEq4.out GEq5.out⟩⟩
  ·rw [if_neg c8] at H
   have c8b0 := decide_eq_false c8
   clear c8
   simp only [Option.some.injEq, Prod.mk.injEq] at H
   obtain ⟨rfl, rfl, rfl, rfl⟩ := H
   have hnb40 := NBq4_q5.out
   have hnc40 := NBq5_q4.out
   obtain ⟨hcz41_0, hcz41_1, hfz41_0, hfz41_1⟩ := c2 BKq4
   have hcz42_0 := bc (v := (.int .i64 x157003000_1)) BKq5.out 0
   have hcz42_1 := bc (v := (.int .i64 x157003001_1)) BKq5.out 1
   have hcz42_2 := bc (v := (.int .i64 x157003002_1)) BKq5.out 2
   have hfz42_0 := aH BKq5.out 0
   have hfz42_1 := aH BKq5.out 1
   have hfz42_2 := aH BKq5.out 2
   go_wp2
   refine bodyPost_ret (cK rfl _ _ gbq5 109 #[.int .i64 0, .int .i64 0, .int .i64 0] (0, 0) _ rfl (by refine pkx ?_; refine al (cs := #[.int .i64 0, .int .i64 0, .int .i64 x157003002_1]) ?_ 2 _ rfl; refine pkx ?_; refine al (cs := #[.int .i64 0, .int .i64 x157003001_1, .int .i64 x157003002_1]) ?_ 1 _ rfl; refine pkx ?_; refine al (cs := #[.int .i64 x157003000_1, .int .i64 x157003001_1, .int .i64 x157003002_1]) ?_ 0 _ rfl; refine pkx ?_; exact BKq5.out) Tryz.underlying109 rfl (by kernel_rfl)) rfl ?_
   exact ⟨re_, pB2 HB.out GEq4.out GEq5.out⟩
 ·replace c3 := Bool.eq_false_iff.mpr c3
  subst c3
  have H1 : (some (0, 0, 0, false)) = some (r1, r2, r3, r4) := by rw [if_neg (show ¬ (false = true) by decide)] at H; exact H
  clear H
  have H := H1
  clear H1
  simp only [Option.some.injEq, Prod.mk.injEq] at H
  obtain ⟨rfl, rfl, rfl, rfl⟩ := H
  go_enter Tryz.func156, Tryz.ntmps156
  go_wp2_with (first | ((with_reducible refine af (N := 1) rfl ?_); refine bx 1 #[.int .i64 a0_0, .slice A0_1 l0_1.length c0_1] 26 ?_; intro gbq4 hg w43 hbox hb; have BKq4 := aQ (hbox); have GWq4 := gB HB hg; have GEq4 := gB HB hg; replace HB := bs HB hb; clear hb hbox hg) | ((with_reducible refine af (N := 2) rfl ?_); refine bx 2 #[.int .i64 0, .int .i64 0, .int .i64 0] 109 ?_; intro gbq5 hg w44 hbox hb; have BKq5 := aQ (hbox); have GWq5 := gB HB hg; have GEq5 := gB HB hg; replace HB := bs HB hb; have NBq4_q5 := nl BKq4 hg; have NBq5_q4 := ng BKq4 hg; replace BKq4 := bb BKq4 hb; clear hb hbox hg; have hnb45 := NBq4_q5.out; have hnc45 := NBq5_q4.out; obtain ⟨hcz46_0, hcz46_1, hfz46_0, hfz46_1⟩ := c2 BKq4) | (refine gq 155 (some 13) Tryz.func155 #[.int .i64 a0_0, .slice A0_1 l0_1.length c0_1] ?_; (with_reducible refine (av.calls k a0_0 _ _ l0_1 false _ ?side1 ?side2 A2.out).mono ?_); (case side1 => exact pC (Kd.C_below HR0_1.out HB.out)); (case side2 => exact HC0_1.out); rintro e w' ⟨rfl, ⟨nd, rfl⟩⟩; refine ⟨_, rfl, ?_⟩; (try (rw [cT w44]; generalize hq_ : World.drewN w44 _ = w44; have n0_ : Aside0 (w44.heap[gbq4]? = some (.cells #[.int .i64 a0_0, .slice A0_1 l0_1.length c0_1] 26 (0, 0))) := ⟨by rw [← hq_]; exact (pk BKq4.out)⟩; have n1_ : Aside0 (w44.heap[gbq5]? = some (.cells #[.int .i64 0, .int .i64 0, .int .i64 0] 109 (0, 0))) := ⟨by rw [← hq_]; exact (pk BKq5.out)⟩; have n2_ : Aside0 (Below w.heap.size w w44) := ⟨by rw [← hq_]; exact (pB2 HB.out GEq4.out GEq5.out)⟩; clear BKq4 BKq5 HB hq_; have BKq4 := n0_; have BKq5 := n1_; have HB := n2_; clear n0_ n1_ n2_)); have hcz47_0 := bc (v := (.int .i64 0)) BKq5.out 0; have hcz47_1 := bc (v := (.int .i64 0)) BKq5.out 1; have hcz47_2 := bc (v := (.int .i64 0)) BKq5.out 2; have hfz47_0 := aH BKq5.out 0; have hfz47_1 := aH BKq5.out 1; have hfz47_2 := aH BKq5.out 2))
  refine bodyPost_ret (cK rfl _ _ gbq5 109 #[.int .i64 0, .int .i64 0, .int .i64 0] (0, 0) _ rfl (by refine pkx ?_; refine al (cs := #[.int .i64 0, .int .i64 0, .int .i64 0]) ?_ 2 _ rfl; refine pkx ?_; refine al (cs := #[.int .i64 0, .int .i64 0, .int .i64 0]) ?_ 1 _ rfl; refine pkx ?_; refine al (cs := #[.int .i64 0, .int .i64 0, .int .i64 0]) ?_ 0 _ rfl; refine pkx ?_; exact BKq5.out) Tryz.underlying109 rfl (by kernel_rfl)) rfl ?_
  exact ⟨re_, pB2 HB.out GEq4.out GEq5.out⟩
def aw.f (k : Nat) (a0_0 : Int) (l0_1 : List Int) : Option (Bool) := (ab.f k a0_0 l0_1).bind fun btq0 => ((av.f k a0_0 l0_1).bind fun tq1 => (if tq1 = true then (if (l0_1.length : Int) > 0 then (some (!btq0.2.2.2)) else (some false)) else (some false)))
theorem aw.mono : ∀ a0 a1 k, LeO (aw.f k a0 a1) (aw.f (k + 1) a0 a1) := by
 intro a0 a1 k
 unfold aw.f
 repeat' first | (with_reducible first | exact ab.mono _ _ _ | exact av.mono _ _ _ | exact LeO.refl _ | exact LeO.none _ | refine LeO.ite ?_ ?_ | refine LeO.bind ?_ (fun _ => ?_)) | exact LeO.none _ | refine LeO.ite ?_ ?_ | refine LeO.bind ?_ (fun _ => ?_)
theorem aw.calls (k : Nat) (a0_0 : Int) (A0_1 : Option Addr) (c0_1 : Nat) (l0_1 : List Int) (r : Bool) (w : World) (hr0_1 : Kd.C (Kd.int .i64) w A0_1 l0_1.length l0_1) (hc0_1 : l0_1.length ≤ c0_1) (h : aw.f k a0_0 l0_1 = some r) :
  Calls Tryz.prog 59 #[.agg #[.int .i64 a0_0, .slice A0_1 l0_1.length c0_1]] w fun e w' => e = .returned (.bool r) ∧ Below w.heap.size w w' := by
 have hu26 := Tryz.underlying26
 have hu109 := Tryz.underlying109
 have HR0_1 := aQ hr0_1
 have HC0_1 := aQ hc0_1
 clear hr0_1 hc0_1
 have HB := aQ (Below.refl w.heap.size w)
 have H := h
 clear h
 unfold aw.f at H
 (try dsimp only at H)
 replace H := bo H; obtain ⟨⟨tq0, tq2, tq3, tq4⟩, A2, H⟩ := H
 (try dsimp only at H)
 replace H := bo H; obtain ⟨tq1, A3, H⟩ := H
 (try dsimp only at H)
 by_cases c4 : tq1 = true
 ·subst c4
  rw [if_pos rfl] at H
  by_cases c5 : (l0_1.length : Int) > 0
  ·rw [if_pos c5] at H
   have c5b0 := decide_eq_true c5
   have c5b1 : decide (0 < l0_1.length) = true := decide_eq_true (by omega)
   clear c5
   obtain rfl := Option.some.inj H
   go_enter Tryz.func59, Tryz.ntmps59
   go_wp2_with (first | ((with_reducible refine af (N := 1) rfl ?_); (try (refine ck (by rfl) ?_; dsimp only)); refine bx 1 #[.int .i64 a0_0, .slice A0_1 l0_1.length c0_1] 26 ?_; intro gbq5 hg w6 hbox hb; have BKq5 := aQ (hbox); have GWq5 := gB HB hg; have GEq5 := gB HB hg; replace HB := bs HB hb; clear hb hbox hg; obtain ⟨hcz7_0, hcz7_1, hfz7_0, hfz7_1⟩ := c2 BKq5) | (refine gq 156 (some 7) Tryz.func156 #[.agg #[.int .i64 a0_0, .slice A0_1 l0_1.length c0_1]] ?_; (with_reducible refine (ab.calls k a0_0 _ _ l0_1 tq0 tq2 tq3 tq4 _ ?side1 ?side2 A2.out).mono ?_); (case side1 => exact pC (Kd.C_below HR0_1.out HB.out)); (case side2 => exact HC0_1.out); rintro e w8 ⟨rfl, hb⟩; refine ⟨_, rfl, ?_⟩; replace BKq5 := bb BKq5 hb; replace HB := bs HB hb; (try clear hb)) | ((with_reducible refine af (N := 3) rfl ?_); (try (refine ck (by rfl) ?_; dsimp only)); refine bx 3 #[.int .i64 0, .int .i64 0, .int .i64 0] 109 ?_; intro gbq6 hg w9 hbox hb; have BKq6 := aQ (hbox); have GWq6 := gB HB hg; have GEq6 := gB HB hg; replace HB := bs HB hb; have NBq5_q6 := nl BKq5 hg; have NBq6_q5 := ng BKq5 hg; replace BKq5 := bb BKq5 hb; clear hb hbox hg; have hnb10 := NBq6_q5.out; have hnc10 := NBq5_q6.out; have hcz11_0 := bc (v := (.int .i64 0)) BKq6.out 0; have hcz11_1 := bc (v := (.int .i64 0)) BKq6.out 1; have hcz11_2 := bc (v := (.int .i64 0)) BKq6.out 2; have hfz11_0 := aH BKq6.out 0; have hfz11_1 := aH BKq6.out 1; have hfz11_2 := aH BKq6.out 2; obtain ⟨hcz12_0, hcz12_1, hfz12_0, hfz12_1⟩ := c2 BKq5) | (refine gq 155 (some 14) Tryz.func155 #[.int .i64 a0_0, .slice A0_1 l0_1.length c0_1] ?_; (with_reducible refine (av.calls k a0_0 _ _ l0_1 true _ ?side1 ?side2 A3.out).mono ?_); (case side1 => exact Kd.C_below HR0_1.out (pB2 HB.out GEq5.out GEq6.out)); (case side2 => exact HC0_1.out); rintro e w' ⟨rfl, ⟨nd, rfl⟩⟩; refine ⟨_, rfl, ?_⟩))
   go_ret
   exact ⟨re_, pB2 HB.out GEq5.out GEq6.out⟩
  ·rw [if_neg c5] at H
   have c5b0 := decide_eq_false c5
   have c5b1 : decide (0 < l0_1.length) = false := decide_eq_false (by omega)
   clear c5
   obtain rfl := Option.some.inj H
   go_enter Tryz.func59, Tryz.ntmps59
   go_wp2_with (first | ((with_reducible refine af (N := 1) rfl ?_); (try (refine ck (by rfl) ?_; dsimp only)); refine bx 1 #[.int .i64 a0_0, .slice A0_1 l0_1.length c0_1] 26 ?_; intro gbq5 hg w13 hbox hb; have BKq5 := aQ (hbox); have GWq5 := gB HB hg; have GEq5 := gB HB hg; replace HB := bs HB hb; clear hb hbox hg; obtain ⟨hcz14_0, hcz14_1, hfz14_0, hfz14_1⟩ := c2 BKq5) | (refine gq 156 (some 7) Tryz.func156 #[.agg #[.int .i64 a0_0, .slice A0_1 l0_1.length c0_1]] ?_; (with_reducible refine (ab.calls k a0_0 _ _ l0_1 tq0 tq2 tq3 tq4 _ ?side1 ?side2 A2.out).mono ?_); (case side1 => exact pC (Kd.C_below HR0_1.out HB.out)); (case side2 => exact HC0_1.out); rintro e w15 ⟨rfl, hb⟩; refine ⟨_, rfl, ?_⟩; replace BKq5 := bb BKq5 hb; replace HB := bs HB hb; (try clear hb)) | ((with_reducible refine af (N := 3) rfl ?_); (try (refine ck (by rfl) ?_; dsimp only)); refine bx 3 #[.int .i64 0, .int .i64 0, .int .i64 0] 109 ?_; intro gbq6 hg w16 hbox hb; have BKq6 := aQ (hbox); have GWq6 := gB HB hg; have GEq6 := gB HB hg; replace HB := bs HB hb; have NBq5_q6 := nl BKq5 hg; have NBq6_q5 := ng BKq5 hg; replace BKq5 := bb BKq5 hb; clear hb hbox hg; have hnb17 := NBq6_q5.out; have hnc17 := NBq5_q6.out; have hcz18_0 := bc (v := (.int .i64 0)) BKq6.out 0; have hcz18_1 := bc (v := (.int .i64 0)) BKq6.out 1; have hcz18_2 := bc (v := (.int .i64 0)) BKq6.out 2; have hfz18_0 := aH BKq6.out 0; have hfz18_1 := aH BKq6.out 1; have hfz18_2 := aH BKq6.out 2; obtain ⟨hcz19_0, hcz19_1, hfz19_0, hfz19_1⟩ := c2 BKq5) | (refine gq 155 (some 14) Tryz.func155 #[.int .i64 a0_0, .slice A0_1 l0_1.length c0_1] ?_; (with_reducible refine (av.calls k a0_0 _ _ l0_1 true _ ?side1 ?side2 A3.out).mono ?_); (case side1 => exact Kd.C_below HR0_1.out (pB2 HB.out GEq5.out GEq6.out)); (case side2 => exact HC0_1.out); rintro e w' ⟨rfl, ⟨nd, rfl⟩⟩; refine ⟨_, rfl, ?_⟩))
   go_ret
   exact ⟨re_, pB2 HB.out GEq5.out GEq6.out⟩
 ·replace c4 := Bool.eq_false_iff.mpr c4
  subst c4
  have H1 : (some false) = some r := by rw [if_neg (show ¬ (false = true) by decide)] at H; exact H
  clear H
  have H := H1
  clear H1
  obtain rfl := Option.some.inj H
  go_enter Tryz.func59, Tryz.ntmps59
  go_wp2_with (first | ((with_reducible refine af (N := 1) rfl ?_); (try (refine ck (by rfl) ?_; dsimp only)); refine bx 1 #[.int .i64 a0_0, .slice A0_1 l0_1.length c0_1] 26 ?_; intro gbq5 hg w20 hbox hb; have BKq5 := aQ (hbox); have GWq5 := gB HB hg; have GEq5 := gB HB hg; replace HB := bs HB hb; clear hb hbox hg; obtain ⟨hcz21_0, hcz21_1, hfz21_0, hfz21_1⟩ := c2 BKq5) | (refine gq 156 (some 7) Tryz.func156 #[.agg #[.int .i64 a0_0, .slice A0_1 l0_1.length c0_1]] ?_; (with_reducible refine (ab.calls k a0_0 _ _ l0_1 tq0 tq2 tq3 tq4 _ ?side1 ?side2 A2.out).mono ?_); (case side1 => exact pC (Kd.C_below HR0_1.out HB.out)); (case side2 => exact HC0_1.out); rintro e w22 ⟨rfl, hb⟩; refine ⟨_, rfl, ?_⟩; replace BKq5 := bb BKq5 hb; replace HB := bs HB hb; (try clear hb)) | ((with_reducible refine af (N := 3) rfl ?_); (try (refine ck (by rfl) ?_; dsimp only)); refine bx 3 #[.int .i64 0, .int .i64 0, .int .i64 0] 109 ?_; intro gbq6 hg w23 hbox hb; have BKq6 := aQ (hbox); have GWq6 := gB HB hg; have GEq6 := gB HB hg; replace HB := bs HB hb; have NBq5_q6 := nl BKq5 hg; have NBq6_q5 := ng BKq5 hg; replace BKq5 := bb BKq5 hb; clear hb hbox hg; have hnb24 := NBq6_q5.out; have hnc24 := NBq5_q6.out; have hcz25_0 := bc (v := (.int .i64 0)) BKq6.out 0; have hcz25_1 := bc (v := (.int .i64 0)) BKq6.out 1; have hcz25_2 := bc (v := (.int .i64 0)) BKq6.out 2; have hfz25_0 := aH BKq6.out 0; have hfz25_1 := aH BKq6.out 1; have hfz25_2 := aH BKq6.out 2; obtain ⟨hcz26_0, hcz26_1, hfz26_0, hfz26_1⟩ := c2 BKq5) | (refine gq 155 (some 14) Tryz.func155 #[.int .i64 a0_0, .slice A0_1 l0_1.length c0_1] ?_; (with_reducible refine (av.calls k a0_0 _ _ l0_1 false _ ?side1 ?side2 A3.out).mono ?_); (case side1 => exact Kd.C_below HR0_1.out (pB2 HB.out GEq5.out GEq6.out)); (case side2 => exact HC0_1.out); rintro e w' ⟨rfl, ⟨nd, rfl⟩⟩; refine ⟨_, rfl, ?_⟩))
  go_ret
  exact ⟨re_, pB2 HB.out GEq5.out GEq6.out⟩
def bj.f (k : Nat) (a0_0 : Int) (l0_1 : List Int) : Option (ByteArray) := (aw.f k a0_0 l0_1).bind fun tq0 => (if tq0 = true then ((az.f k a0_0).bind fun tq1 => (if tq1.size + 1 ≤ 9223372036854775807 then ((aJ.f k l0_1).bind fun tq2 => (if (tq1 ++ (⟨#[32]⟩ : ByteArray)).size + tq2.size ≤ 9223372036854775807 then (some ((tq1 ++ (⟨#[32]⟩ : ByteArray)) ++ tq2)) else (none))) else (none))) else (some (⟨#[]⟩ : ByteArray)))
theorem bj.mono : ∀ a0 a1 k, LeO (bj.f k a0 a1) (bj.f (k + 1) a0 a1) := by
 intro a0 a1 k
 unfold bj.f
 repeat' first | (with_reducible first | exact aJ.mono _ _ | exact az.mono _ _ | exact aw.mono _ _ _ | exact LeO.refl _ | exact LeO.none _ | refine LeO.ite ?_ ?_ | refine LeO.bind ?_ (fun _ => ?_)) | exact LeO.none _ | refine LeO.ite ?_ ?_ | refine LeO.bind ?_ (fun _ => ?_)
def bj.T3 : Bool × List (List Nat × List Nat) := (true, [([], []), ([0], [0]), ([1], [1]), ([2], [2]), ([], []), ([4], [4]), ([5, 2], [5]), ([3, 6], [3, 6]), ([7, 6, 0, 1, 2, 3, 4, 5, 6, 7], [7])])
def bj.B3 : List Nat := [0, 1, 3, 7, 0, 16, 55, 127, 255]
theorem bj.tab3 : rtab .any (eV Tryz.f286 3) = bj.T3 := by kernel_rfl
theorem bj.bits3 : cY bj.T3.2 bj.B3 = true := by kernel_rfl
theorem bj.calls (k : Nat) (a0_0 : Int) (A0_1 : Option Addr) (c0_1 : Nat) (l0_1 : List Int) (r : ByteArray) (w : World) (hr0_1 : Kd.C (Kd.int .i64) w A0_1 l0_1.length l0_1) (hc0_1 : l0_1.length ≤ c0_1) (h : bj.f k a0_0 l0_1 = some r) :
  Calls Tryz.prog 286 #[.agg #[.int .i64 a0_0, .slice A0_1 l0_1.length c0_1]] w fun e w' => e = .returned (.string r) ∧ Below w.heap.size w w' := by
 have hu26 := Tryz.underlying26
 have HR0_1 := aQ hr0_1
 have HC0_1 := aQ hc0_1
 clear hr0_1 hc0_1
 have HB := aQ (Below.refl w.heap.size w)
 have H := h
 clear h
 unfold bj.f at H
 (try dsimp only at H)
 replace H := bo H; obtain ⟨tq0, A2, H⟩ := H
 (try dsimp only at H)
 by_cases c3 : tq0 = true
 ·subst c3
  rw [if_pos rfl] at H
  replace H := bo H; obtain ⟨tq1, A4, H⟩ := H
  (try dsimp only at H)
  replace H := gd H; obtain ⟨c5, H⟩ := H
  have c5b0 := eq_true c5
  have c5b1 := decide_eq_true c5
  try have c5b2 : (9223372036854775807 < tq1.size + 1) = False := eq_false (Nat.not_lt.2 c5)
  replace H := bo H; obtain ⟨tq2, A6, H⟩ := H
  (try dsimp only at H)
  replace H := gd H; obtain ⟨c7, H⟩ := H
  have c7b0 := eq_true c7
  have c7b1 := decide_eq_true c7
  try have c7b2 : (9223372036854775807 < (tq1 ++ (⟨#[32]⟩ : ByteArray)).size + tq2.size) = False := eq_false (Nat.not_lt.2 c7)
  try have c7b3 : (9223372036854775807 < tq1.size + 1 + tq2.size) = False := (show ((9223372036854775807 < tq1.size + 1 + tq2.size) = (9223372036854775807 < (tq1 ++ (⟨#[32]⟩ : ByteArray)).size + tq2.size)) from (by rw [ByteArray.size_append]; rfl)).trans c7b2
  obtain rfl := Option.some.inj H
  go_enter Tryz.func286, Tryz.ntmps286
  try go_wp2_with (first | ((with_reducible refine af (N := 1) rfl ?_); refine bx 1 #[.int .i64 a0_0, .slice A0_1 l0_1.length c0_1] 26 ?_; intro gbq3 hg w8 hbox hb; have BKq3 := aQ (hbox); have GWq3 := gB HB hg; have GEq3 := gB HB hg; replace HB := bs HB hb; clear hb hbox hg; obtain ⟨hcz9_0, hcz9_1, hfz9_0, hfz9_1⟩ := c2 BKq3) | (refine gq 59 (some 4) Tryz.func59 #[.agg #[.int .i64 a0_0, .slice A0_1 l0_1.length c0_1]] ?_; (with_reducible refine (aw.calls k a0_0 _ _ l0_1 true _ ?side1 ?side2 A2.out).mono ?_); (case side1 => exact pC (Kd.C_below HR0_1.out HB.out)); (case side2 => exact HC0_1.out); rintro e w10 ⟨rfl, hb⟩; refine ⟨_, rfl, ?_⟩; replace BKq3 := bb BKq3 hb; replace HB := bs HB hb; (try clear hb)))
  replace BKq3 := aQ (b7 BKq3.out); replace HB := aQ (a7 HB.out)
  refine cN (n := 9) (S := fun w' => w'.cell? ⟨gbq3, 0, none⟩ = some (.int .i64 a0_0) ∧ w'.cell? ⟨gbq3, 1, none⟩ = some (.slice A0_1 l0_1.length c0_1)) (ds := []) _ (by kernel_rfl) rfl rfl ⟨(ac BKq3.out 0).trans rfl, (ac BKq3.out 1).trans rfl⟩ (fun hHeld => ?_); refine b0 bj.tab3 bj.bits3 (fun HT_ HW_ => ?_)
  generalize w10.drew = w11 at BKq3 HB hHeld ⊢
  refine pA 0 (some 6) HT_ ?_
  refine pA 4 (some 10) HT_ ?_
  refine tA2 1 (some 7) HT_ HW_ hHeld ?_
  refine tA2 5 (some 11) HT_ HW_ hHeld ?_
  refine onA (i := 2) (N := some 8) HT_ (h := fun K hK => ?_)
  refine gs Tryz.func295 #[.int .i64 a0_0] ?_
  with_reducible refine (az.calls k a0_0 tq1 _ A4.out).mono ?_
  rintro e w12 ⟨rfl, hb⟩
  refine ⟨_, rfl, ?_⟩
  replace BKq3 := bb BKq3 hb; replace HB := bs HB hb
  (try clear hb)
  (try clear hb2)
  (try clear hk)
  (try clear hi)
  refine hK.out _ _ ⟨(ac BKq3.out 0).trans rfl, (ac BKq3.out 1).trans rfl⟩ (fun hHeld => ?_)
  clear hK K
  refine noN (some 8) (h := ?_)
  refine pA 3 (some 9) HT_ ?_
  refine onA (i := 6) (N := some 12) HT_ (h := fun K hK => ?_)
  refine gs Tryz.func294 #[.slice A0_1 l0_1.length c0_1] ?_
  with_reducible refine (aJ.calls k _ _ l0_1 tq2 _ ?side1 ?side2 A6.out).mono ?_
  (case side1 => exact pC (Kd.C_below HR0_1.out HB.out))
  (case side2 => exact HC0_1.out)
  rintro e w13 ⟨rfl, hb⟩
  refine ⟨_, rfl, ?_⟩
  replace BKq3 := bb BKq3 hb; replace HB := bs HB hb
  (try clear hb)
  (try clear hb2)
  (try clear hk)
  (try clear hi)
  refine hK.out _ _ ⟨(ac BKq3.out 0).trans rfl, (ac BKq3.out 1).trans rfl⟩ (fun hHeld => ?_)
  clear hK K
  refine noN (some 12) (h := ?_)
  refine pA 7 (some 13) HT_ ?_
  refine pA 8 (some 2) HT_ ?_
  refine dn (cB HT_.out (by kernel_rfl)) ?_
  try go_wp2
  go_ret
  exact ⟨re_, pB1 HB.out GEq3.out⟩
 ·replace c3 := Bool.eq_false_iff.mpr c3
  subst c3
  have H1 : (some (⟨#[]⟩ : ByteArray)) = some r := by rw [if_neg (show ¬ (false = true) by decide)] at H; exact H
  clear H
  have H := H1
  clear H1
  obtain rfl := Option.some.inj H
  go_enter Tryz.func286, Tryz.ntmps286
  go_wp2_with (first | ((with_reducible refine af (N := 1) rfl ?_); refine bx 1 #[.int .i64 a0_0, .slice A0_1 l0_1.length c0_1] 26 ?_; intro gbq3 hg w14 hbox hb; have BKq3 := aQ (hbox); have GWq3 := gB HB hg; have GEq3 := gB HB hg; replace HB := bs HB hb; clear hb hbox hg; obtain ⟨hcz15_0, hcz15_1, hfz15_0, hfz15_1⟩ := c2 BKq3) | (refine gq 59 (some 4) Tryz.func59 #[.agg #[.int .i64 a0_0, .slice A0_1 l0_1.length c0_1]] ?_; (with_reducible refine (aw.calls k a0_0 _ _ l0_1 false _ ?side1 ?side2 A2.out).mono ?_); (case side1 => exact pC (Kd.C_below HR0_1.out HB.out)); (case side2 => exact HC0_1.out); rintro e w16 ⟨rfl, hb⟩; refine ⟨_, rfl, ?_⟩; replace BKq3 := bb BKq3 hb; replace HB := bs HB hb; (try clear hb)))
  go_ret
  exact ⟨re_, pB1 HB.out GEq3.out⟩
end Go.Proofs.YtimkekeaeojpkaaGreat.A
