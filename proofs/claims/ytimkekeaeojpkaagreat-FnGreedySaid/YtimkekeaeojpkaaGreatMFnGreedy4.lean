/- Machine side of the law FnGreedy: Go functions as Lean functions, and proofs that calls come to what these tell. Conditions: those in each theorem. -/
import Derived.Test.YtimkekeaeojpkaaGreatMFnGreedy0
import Derived.Test.YtimkekeaeojpkaaGreatMFnGreedyq0
import Derived.Test.YtimkekeaeojpkaaGreatMFnGreedy1
import Derived.Test.YtimkekeaeojpkaaGreatMFnGreedy2
import Derived.Test.YtimkekeaeojpkaaGreatMFnGreedy3
set_option maxHeartbeats 8000000
set_option maxRecDepth 100000
namespace Go.Proofs.YtimkekeaeojpkaaGreat.A
open Go.RowKit Go.Proofs.YtimkekeaeojpkaaGreatW.PrintWords Go.Proofs.YtimkekeaeojpkaaGreatW.PrintLast Go.Proofs.YtimkekeaeojpkaaGreatW.PrintMore Go.Proofs.YtimkekeaeojpkaaGreat.Z
attribute [local go_sem] cC cE cW cX co cp cD cG
set_option linter.unusedVariables false
set_option linter.unusedSimpArgs false
def ae.c (k : Nat) (l : List Int) (a e f : Int) : Option Bool := if 0 ≤ e ∧ e < 8 then (if 0 ≤ f ∧ f < 8 then cm.f k l (Go.bits .or .i64 (Go.bits .andNot .i64 a (IntKind.i64.wrap (2 ^ e.toNat))) (IntKind.i64.wrap (2 ^ f.toNat))) else none) else none
theorem ae.c_mono (l : List Int) (a e f : Int) (k : Nat) : LeO (ae.c k l a e f) (ae.c (k + 1) l a e f) := by
 unfold ae.c
 exact LeO.ite (LeO.ite (cm.mono _ _ _) (LeO.none _)) (LeO.none _)
set_option maxHeartbeats 2000000 in
theorem fi (k : Nat) (n : Int) (A : Option Addr) (c : Nat) (l : List Int) (a e f : Int) (b : Bool) (gm ga ge : Nat) (w : World)
  (hr : Kd.C (Kd.int .i64) w A l.length l) (hc : l.length ≤ c)
  (hm : w.heap[gm]? = some (.cells #[.int .i64 n, .slice A l.length c] 26 (0, 0))) (ha : w.heap[ga]? = some (.cells #[.int .i64 a] 3 (0, 0))) (he : w.heap[ge]? = some (.cells #[.int .i64 e] 3 (0, 0)))
  (h : ae.c k l a e f = some b) :
  Calls Tryz.prog 247 #[.int .i64 f, .pointer (some ⟨gm, 0, none⟩), .pointer (some ⟨ga, 0, none⟩), .pointer (some ⟨ge, 0, none⟩)] w fun e w' => e = .returned (.bool b) ∧ Below w.heap.size w w' := by
 unfold ae.c at h
 by_cases h1 : 0 ≤ e ∧ e < 8
 ·rw [if_pos h1] at h
  by_cases h2 : 0 ≤ f ∧ f < 8
  ·rw [if_pos h2] at h
   have hu := Tryz.underlying26
   have hcm : w.cell? ⟨gm, 1, none⟩ = some (.slice A l.length c) := (ac hm 1).trans rfl
   have hca : w.cell? ⟨ga, 0, none⟩ = some (.int .i64 a) := (ac ha 0).trans rfl
   have hce : w.cell? ⟨ge, 0, none⟩ = some (.int .i64 e) := (ac he 0).trans rfl
   obtain ⟨he0, he8⟩ := h1
   obtain ⟨hf0, hf8⟩ := h2
   have H := Lib.hid h
   have HR := Lib.hid hr
   have HCC := Lib.hid hc
   clear hm ha he h hr hc
   go_enter Tryz.func247, Tryz.ntmps247
   go_wp2
   go_quiet (first | (go_at_call 119; (with_reducible refine (cm.calls k _ _ l _ b _ ?side1 ?side2 H.out).mono ?_); (case side1 => exact pC HR.out); (case side2 => exact HCC.out); rintro e w' ⟨rfl, ⟨nd, rfl⟩⟩; (try exact dq_)))
   go_wp2
   go_ret
   exact ⟨rfl, by repeat (first | exact Below.refl _ _ | apply bX | apply a7)⟩
  ·rw [if_neg h2] at h; cases h
 ·rw [if_neg h1] at h; cases h
def ae.l2 (k : Nat) (l : List Int) (a b : Int) : List Int → Option (Option Int)
 | [] => some none
 | e :: es => (au.f k (Go.bits .andNot .i64 b a)).bind fun fs => (anyO (fun f => ae.c k l a e f) fs).bind fun t => if t = true then ae.l2 k l a b es else some (some e)
def ae.l1 (k : Nat) (l : List Int) (a : Int) : List Int → Option (Option (Int × Int))
 | [] => some none
 | b :: bs => (au.f k (Go.bits .andNot .i64 a b)).bind fun es => (ae.l2 k l a b es).bind fun t => match t with
  | none => ae.l1 k l a bs
  | some e => some (some (b, e))
def ae.l0 (k : Nat) (l : List Int) : List Int → Option (Option (Int × Int × Int))
 | [] => some none
 | a :: la => (ae.l1 k l a l).bind fun t => match t with
  | none => ae.l0 k l la
  | some (b, e) => some (some (a, b, e))
def ae.f (k : Nat) (a0_0 : Int) (l0_1 : List Int) : Option (Int × Int × Int × Bool) := (br.f k a0_0 l0_1).bind fun t => if t = true then ((ae.l0 k l0_1 l0_1).bind fun u => match u with
  | none => some (0, 0, 0, false)
  | some (a, b, e) => some (a, b, e, true)) else some (0, 0, 0, false)
theorem ae.mono2 (k : Nat) (l : List Int) (a b : Int) : ∀ es, LeO (ae.l2 k l a b es) (ae.l2 (k + 1) l a b es) := by
 intro es
 induction es with
 | nil => exact LeO.refl _
 | cons e es ih =>
  unfold ae.l2
  exact LeO.bind (au.mono _ _) (fun fs => LeO.bind (mA (fun f => ae.c_mono l a e f k) fs) (fun t => LeO.ite ih (LeO.refl _)))
theorem ae.mono1 (k : Nat) (l : List Int) (a : Int) : ∀ bs, LeO (ae.l1 k l a bs) (ae.l1 (k + 1) l a bs) := by
 intro bs
 induction bs with
 | nil => exact LeO.refl _
 | cons b bs ih =>
  unfold ae.l1
  exact LeO.bind (au.mono _ _) (fun es => LeO.bind (ae.mono2 k l a b es) (fun t => by cases t; exact ih; exact LeO.refl _))
theorem ae.mono0 (k : Nat) (l : List Int) : ∀ la, LeO (ae.l0 k l la) (ae.l0 (k + 1) l la) := by
 intro la
 induction la with
 | nil => exact LeO.refl _
 | cons a la ih =>
  unfold ae.l0
  exact LeO.bind (ae.mono1 k l a l) (fun t => by cases t; exact ih; exact LeO.refl _)
theorem ae.calls (k : Nat) (a0_0 : Int) (A0_1 : Option Addr) (c0_1 : Nat) (l0_1 : List Int) (r1 : Int) (r2 : Int) (r3 : Int) (r4 : Bool) (w : World) (hr0_1 : Kd.C (Kd.int .i64) w A0_1 l0_1.length l0_1) (hc0_1 : l0_1.length ≤ c0_1) (h : ae.f k a0_0 l0_1 = some (r1, r2, r3, r4)) :
  Calls Tryz.prog 211 #[.agg #[.int .i64 a0_0, .slice A0_1 l0_1.length c0_1]] w fun e w' => e = .returned (.tuple #[.agg #[.int .i64 r1, .int .i64 r2, .int .i64 r3], .bool r4]) ∧ Below w.heap.size w w' := by
 have hu39 := Tryz.underlying26
 have hu59 := Tryz.underlying109
 have hlen : l0_1.length ≤ 9223372036854775807 := hr0_1.2.1
 have HR := aQ hr0_1
 have HC := aQ hc0_1
 have HB := aQ (Below.refl w.heap.size w)
 clear hr0_1 hc0_1
 unfold ae.f at h
 obtain ⟨t, A2, H⟩ := Option.bind_eq_some_iff.mp h
 clear h
 have HF := aQ A2
 clear A2
 have eg : ∀ args w, (callFunc 247 args).run Tryz.prog w = .ok (.enter 247 args) w := kZ Tryz.func247 (by kernel_rfl) rfl
 have EG := aQ eg
 clear eg
 by_cases c3 : t = true
 ·subst c3
  rw [if_pos rfl] at H
  obtain ⟨u, A3, H⟩ := Option.bind_eq_some_iff.mp H
  have HL := Lib.hid A3
  have HU := Lib.hid H
  clear A3 H
  go_enter Tryz.func211, Tryz.ntmps211
  go_wp2_with (first | ((with_reducible refine af (N := 1) rfl ?_); refine bx 1 #[.int .i64 a0_0, .slice A0_1 l0_1.length c0_1] 26 ?_; intro gm hg w1_ hbox hb; have n_HB := bs HB hb; have n_GBM := aQ ((by rw [hg]; exact aa (pB HB.out)) : w.heap.size ≤ gm); clear HB; have HB := n_HB; have GBM := n_GBM; have BM := aQ hbox; clear n_HB n_GBM; clear hb hbox hg; have zBM0 : w1_.cell? ⟨gm, 0, none⟩ = some (.int .i64 a0_0) := (ac BM.out 0).trans rfl; have zBM1 : w1_.cell? ⟨gm, 1, none⟩ = some (.slice A0_1 l0_1.length c0_1) := (ac BM.out 1).trans rfl) | ((with_reducible refine af (N := 2) rfl ?_); refine bx 2 #[.int .i64 0, .int .i64 0, .int .i64 0] 109 ?_; intro gf hg w1_ hbox hb; have n_BM := bb BM hb; have n_NBMBF := aQ ((by rw [hg]; exact Nat.ne_of_lt (dd (g := gm) (o := .cells #[.int .i64 a0_0, .slice A0_1 l0_1.length c0_1] 26 (0, 0)) (pk BM.out))) : gm ≠ gf); have n_HB := bs HB hb; have n_GBF := aQ ((by rw [hg]; exact aa (pB HB.out)) : w.heap.size ≤ gf); clear BM; clear HB; have HB := n_HB; have GBF := n_GBF; have BF := aQ hbox; have BM := n_BM; have NBMBF := n_NBMBF; clear n_HB n_GBF n_BM n_NBMBF; clear hb hbox hg; have zBM0 : w1_.cell? ⟨gm, 0, none⟩ = some (.int .i64 a0_0) := (ac BM.out 0).trans rfl; have zBM1 : w1_.cell? ⟨gm, 1, none⟩ = some (.slice A0_1 l0_1.length c0_1) := (ac BM.out 1).trans rfl) | (go_at_call 154; (with_reducible refine (br.calls k a0_0 _ _ l0_1 true _ ?side1 ?side2 HF.out).mono ?_); (case side1 => exact pC (Kd.C_below HR.out HB.out)); (case side2 => exact HC.out); rintro e w' ⟨rfl, ⟨nd, rfl⟩⟩))
  go_loopg [21] l0_1.length (fun gg s21 wr => ∃ x : Int, s21 = .int .i64 x ∧ Aside0 (0 ≤ x ∧ x ≤ (l0_1.length : Int)) ∧ Aside0 (l0_1.length - x.toNat ≤ gg) ∧ Aside0 (wr.heap[gm]? = some (.cells #[.int .i64 a0_0, .slice A0_1 l0_1.length c0_1] 26 (0, 0))) ∧ Aside0 (wr.heap[gf]? = some (.cells #[.int .i64 0, .int .i64 0, .int .i64 0] 109 (0, 0))) ∧ Aside0 (Below w.heap.size w wr) ∧ Aside0 (ae.l0 k l0_1 (l0_1.drop x.toNat) = some u))
  case atStart => exact ⟨0, rfl, ⟨by omega⟩, ⟨by omega⟩, ⟨pk BM.out⟩, ⟨pk BF.out⟩, ⟨(pB HB.out)⟩, ⟨HL.out⟩⟩
  clear HL
  try clear zBM0
  try clear zBM1
  obtain ⟨x, rfl, HX, HG, BM, BF, HB, HI⟩ := hrel
  by_cases hlt : x < (l0_1.length : Int)
  ·have p1 : 0 ≤ x := HX.out.1
   have l1 : decide (x < (l0_1.length : Int)) = true := decide_eq_true hlt
   obtain ⟨ad, ea, hx⟩ := Kd.at_int HR.out x p1 hlt
   cases ea
   replace hx := (HB.out.cell (World.block_lt_of_cell? w _ hx)).trans hx
   have hI := HI.out
   rw [eS l0_1 x p1 hlt] at hI
   simp only [ae.l0] at hI
   obtain ⟨t1, hJ, hI⟩ := Option.bind_eq_some_iff.1 hI
   have HJ0 := Lib.hid hJ
   have HI1 := Lib.hid hI
   have E1 := Lib.hid (be (n := x + 1) (by omega) (by omega))
   have Q1 := aQ hlt
   replace p1 := eq_true p1
   replace hlt := eq_true hlt
   clear HI hI hJ
   have zBM : wr.cell? ⟨gm, 1, none⟩ = some (.slice (some ad) l0_1.length c0_1) := (ac BM.out 1).trans rfl
   go_wp2_with (first | ((with_reducible refine af (N := 5) rfl ?_); refine bx 5 #[.int .i64 0] 3 ?_; intro ga hg w1_ hbox hb; have n_BM := bb BM hb; have n_BF := bb BF hb; have n_NBMBA := aQ ((by rw [hg]; exact Nat.ne_of_lt (dd (g := gm) (o := .cells #[.int .i64 a0_0, .slice (some ad) l0_1.length c0_1] 26 (0, 0)) (pk BM.out))) : gm ≠ ga); have n_NBFBA := aQ ((by rw [hg]; exact Nat.ne_of_lt (dd (g := gf) (o := .cells #[.int .i64 0, .int .i64 0, .int .i64 0] 109 (0, 0)) (pk BF.out))) : gf ≠ ga); have n_HB := bs HB hb; have n_GBA := aQ ((by rw [hg]; exact aa (pB HB.out)) : w.heap.size ≤ ga); clear BM; clear BF; clear HB; have HB := n_HB; have GBA := n_GBA; have BA := aQ hbox; have BM := n_BM; have NBMBA := n_NBMBA; have BF := n_BF; have NBFBA := n_NBFBA; clear n_HB n_GBA n_BM n_NBMBA n_BF n_NBFBA; clear hb hbox hg; have zBM2 : w1_.cell? ⟨gm, 1, none⟩ = some (.slice (some ad) l0_1.length c0_1) := (ac BM.out 1).trans rfl; have zBA2 : w1_.cell? ⟨ga, 0, none⟩ = some (.int .i64 0) := (ac BA.out 0).trans rfl; have fBA := aH BA.out 0; have nBMA := NBMBA.out; have nBFA := NBFBA.out; have nBMA2 := Ne.symm nBMA; have nBFA2 := Ne.symm nBFA))
   go_loopg [28] l0_1.length (fun gg s28 wr => ∃ y : Int, s28 = .int .i64 y ∧ Aside0 (0 ≤ y ∧ y ≤ (l0_1.length : Int)) ∧ Aside0 (l0_1.length - y.toNat ≤ gg) ∧ Aside0 (wr.heap[gm]? = some (.cells #[.int .i64 a0_0, .slice (some ad) l0_1.length c0_1] 26 (0, 0))) ∧ Aside0 (wr.heap[gf]? = some (.cells #[.int .i64 0, .int .i64 0, .int .i64 0] 109 (0, 0))) ∧ Aside0 (wr.heap[ga]? = some (.cells #[.int .i64 (rd l0_1 x)] 3 (0, 0))) ∧ Aside0 (Below w.heap.size w wr) ∧ Aside0 (ae.l1 k l0_1 (rd l0_1 x) (l0_1.drop y.toNat) = some t1))
   case atStart => exact ⟨0, rfl, ⟨by omega⟩, ⟨by omega⟩, ⟨by refine pkx ?_; refine aU ?_ nBMA _; refine pkx ?_; exact BM.out⟩, ⟨by refine pkx ?_; refine aU ?_ nBFA _; refine pkx ?_; exact BF.out⟩, ⟨by refine pkx ?_; refine al (cs := #[.int .i64 0]) ?_ 0 _ rfl; refine pkx ?_; exact BA.out⟩, ⟨(pb HB)⟩, ⟨HJ0.out⟩⟩
   clear HJ0
   try clear zBM
   try clear zBM2
   try clear zBA2
   try clear fBA
   try clear hx
   obtain ⟨y, rfl, HY, HG2, BM, BF, BA, HB, HJ⟩ := hrel
   by_cases hlt2 : y < (l0_1.length : Int)
   ·have p2 : 0 ≤ y := HY.out.1
    have l2 : decide (y < (l0_1.length : Int)) = true := decide_eq_true hlt2
    obtain ⟨ad2, ea2, hy⟩ := Kd.at_int HR.out y p2 hlt2
    obtain rfl : ad = ad2 := by injection ea2
    replace hy := (HB.out.cell (World.block_lt_of_cell? w _ hy)).trans hy
    have hJ := HJ.out
    rw [eS l0_1 y p2 hlt2] at hJ
    simp only [ae.l1] at hJ
    obtain ⟨es, hE, hJ⟩ := Option.bind_eq_some_iff.1 hJ
    obtain ⟨t2, hK, hJ⟩ := Option.bind_eq_some_iff.1 hJ
    have HE := Lib.hid hE
    have HK0 := Lib.hid hK
    have HJ1 := Lib.hid hJ
    have E2 := Lib.hid (be (n := y + 1) (by omega) (by omega))
    have Q2 := aQ hlt2
    replace p2 := eq_true p2
    replace hlt2 := eq_true hlt2
    clear HJ hE hK hJ ea2
    have zBM : wr.cell? ⟨gm, 1, none⟩ = some (.slice (some ad) l0_1.length c0_1) := (ac BM.out 1).trans rfl
    have zBA : wr.cell? ⟨ga, 0, none⟩ = some (.int .i64 (rd l0_1 x)) := (ac BA.out 0).trans rfl
    go_wp2_with (first | (go_at_call 129; (with_reducible refine (au.calls k _ es _ HE.out).mono ?_); rintro e w1_ ⟨v_, rfl, ho_, hb⟩; have n_BM := bb BM hb; have n_BF := bb BF hb; have n_BA := bb BA hb; have n_HO := aQ (Kd.R_lower ho_ (aa (pB HB.out))); have n_HB := bs HB hb; clear HB; clear BM; have BM := n_BM; clear BF; have BF := n_BF; clear BA; have BA := n_BA; have HB := n_HB; have HO := n_HO; clear n_HB n_HO n_BM n_BF n_BA hb ho_; obtain ⟨AHO, cHO, eHO⟩ := Kd.R_slice HO.out; subst eHO))
    have hes : es.length ≤ 9223372036854775807 := (Kd.R_reads HO.out).elim fun _ h => h.elim fun _ h => h.2.2.2.1
    go_loopg [37] es.length (fun gg s37 wr => ∃ z : Int, s37 = .int .i64 z ∧ Aside0 (0 ≤ z ∧ z ≤ (es.length : Int)) ∧ Aside0 (es.length - z.toNat ≤ gg) ∧ Aside0 (wr.heap[gm]? = some (.cells #[.int .i64 a0_0, .slice (some ad) l0_1.length c0_1] 26 (0, 0))) ∧ Aside0 (wr.heap[gf]? = some (.cells #[.int .i64 0, .int .i64 0, .int .i64 0] 109 (0, 0))) ∧ Aside0 (wr.heap[ga]? = some (.cells #[.int .i64 (rd l0_1 x)] 3 (0, 0))) ∧ Aside0 (Below w.heap.size w wr) ∧ Aside0 (Kd.R (Kd.int .i64) 3 wr w.heap.size (fun _ => True) (.slice AHO es.length cHO) es) ∧ Aside0 (ae.l2 k l0_1 (rd l0_1 x) (rd l0_1 y) (es.drop z.toNat) = some t2))
    case atStart => exact ⟨0, rfl, ⟨by omega⟩, ⟨by omega⟩, ⟨pk BM.out⟩, ⟨pk BF.out⟩, ⟨pk BA.out⟩, ⟨(pB HB.out)⟩, ⟨pR HO.out⟩, ⟨HK0.out⟩⟩
    clear HK0 HO
    try clear zBM
    try clear zBA
    try clear hy
    obtain ⟨z, rfl, HZ, HG3, BM, BF, BA, HB, HO, HK⟩ := hrel
    by_cases hlt3 : z < (es.length : Int)
    ·have p3 : 0 ≤ z := HZ.out.1
     have l3 : decide (z < (es.length : Int)) = true := decide_eq_true hlt3
     obtain ⟨ad3, ea3, hz⟩ := Kd.at_int ((Kd.R_reads' HO.out).2.2) z p3 hlt3
     cases ea3
     have hK := HK.out
     rw [eS es z p3 hlt3] at hK
     simp only [ae.l2] at hK
     obtain ⟨fs, hE, hK⟩ := Option.bind_eq_some_iff.1 hK
     obtain ⟨tb, hA, hK⟩ := Option.bind_eq_some_iff.1 hK
     have HE2 := Lib.hid hE
     have HA := Lib.hid hA
     have HK1 := Lib.hid hK
     have E3 := Lib.hid (be (n := z + 1) (by omega) (by omega))
     have Q3 := aQ hlt3
     replace p3 := eq_true p3
     replace hlt3 := eq_true hlt3
     clear HK hE hA hK
     have zBM : wr.cell? ⟨gm, 1, none⟩ = some (.slice (some ad) l0_1.length c0_1) := (ac BM.out 1).trans rfl
     have zBA : wr.cell? ⟨ga, 0, none⟩ = some (.int .i64 (rd l0_1 x)) := (ac BA.out 0).trans rfl
     go_wp2_with (first | ((with_reducible refine af (N := 9) rfl ?_); refine bx 9 #[.int .i64 0] 3 ?_; intro ge hg w1_ hbox hb; have n_BM := bb BM hb; have n_BF := bb BF hb; have n_BA := bb BA hb; have n_NBMBE := aQ ((by rw [hg]; exact Nat.ne_of_lt (dd (g := gm) (o := .cells #[.int .i64 a0_0, .slice (some ad) l0_1.length c0_1] 26 (0, 0)) (pk BM.out))) : gm ≠ ge); have n_NBFBE := aQ ((by rw [hg]; exact Nat.ne_of_lt (dd (g := gf) (o := .cells #[.int .i64 0, .int .i64 0, .int .i64 0] 109 (0, 0)) (pk BF.out))) : gf ≠ ge); have n_NBABE := aQ ((by rw [hg]; exact Nat.ne_of_lt (dd (g := ga) (o := .cells #[.int .i64 (rd l0_1 x)] 3 (0, 0)) (pk BA.out))) : ga ≠ ge); have n_HB := bs HB hb; have n_GBE := aQ ((by rw [hg]; exact aa (pB HB.out)) : w.heap.size ≤ ge); replace HO := aQ (Kd.R_below (Kd.R_elderB (pR HO.out) ge (by rw [hg]; exact Nat.le_refl _)) hb); clear BM BF BA; clear HB; have HB := n_HB; have GBE := n_GBE; have BE := aQ hbox; have BM := n_BM; have NBMBE := n_NBMBE; have BF := n_BF; have NBFBE := n_NBFBE; have BA := n_BA; have NBABE := n_NBABE; clear n_HB n_GBE n_BM n_NBMBE n_BF n_NBFBE n_BA n_NBABE; clear hb hbox hg; have zBA3 : w1_.cell? ⟨ga, 0, none⟩ = some (.int .i64 (rd l0_1 x)) := (ac BA.out 0).trans rfl; have zBE3 : w1_.cell? ⟨ge, 0, none⟩ = some (.int .i64 0) := (ac BE.out 0).trans rfl; have fBE := aH BE.out 0; have nBME := NBMBE.out; have nBFE := NBFBE.out; have nBAE := NBABE.out; have nBME2 := Ne.symm nBME; have nBFE2 := Ne.symm nBFE; have nBAE2 := Ne.symm nBAE) | (go_at_call 129; (with_reducible refine (au.calls k _ fs _ HE2.out).mono ?_); rintro e w1_ ⟨v_, rfl, ho_, hb⟩; have n_BM := aQ (bq (g := gm) (o := .cells #[.int .i64 a0_0, .slice (some ad) l0_1.length c0_1] 26 (0, 0)) (by refine pkx ?_; refine aU ?_ nBME _; refine pkx ?_; exact BM.out) hb); have n_BF := aQ (bq (g := gf) (o := .cells #[.int .i64 0, .int .i64 0, .int .i64 0] 109 (0, 0)) (by refine pkx ?_; refine aU ?_ nBFE _; refine pkx ?_; exact BF.out) hb); have n_BA := aQ (bq (g := ga) (o := .cells #[.int .i64 (rd l0_1 x)] 3 (0, 0)) (by refine pkx ?_; refine aU ?_ nBAE _; refine pkx ?_; exact BA.out) hb); have n_BE := aQ (bq (g := ge) (o := .cells #[.int .i64 (rd es z)] 3 (0, 0)) (by refine pkx ?_; refine al (cs := #[.int .i64 0]) ?_ 0 _ rfl; refine pkx ?_; exact BE.out) hb); have n_HO := aQ (Kd.R_below (Kd.R_mono (Kd.R_far (p := ⟨ge, 0, none⟩) (pR HO.out) (fun k_ (hk : True ∧ k_ ≠ ge) => hk.2) (.int .i64 (rd es z))) (fun _ _ => trivial)) hb); have n_HP := aQ (Kd.R_lower ho_ (aa (pb HB))); have n_HB := bs HB hb; clear HB; clear BM; have BM := n_BM; clear BF; have BF := n_BF; clear BA; have BA := n_BA; clear BE; have BE := n_BE; clear HO; have HO := n_HO; have HB := n_HB; have HP := n_HP; clear n_HB n_HP n_HO n_BM n_BF n_BA n_BE hb ho_; obtain ⟨AHP, cHP, eHP⟩ := Kd.R_slice HP.out; subst eHP))
     (with_reducible refine (fI (fun f => ae.c k l0_1 (rd l0_1 x) (rd es z) f) 247 _ EG.out _ _ fs tb _ (Kd.R_reads' HP.out).2.2 HA.out (fun W f b hb hg => fe (by simp) (fi k a0_0 (some ad) c0_1 l0_1 (rd l0_1 x) (rd es z) f b gm ga ge W (Kd.C_below (Kd.C_below HR.out HB.out) hb) HC.out (bq BM.out hb) (bq BA.out hb) (bq BE.out hb) hg))).mono ?_)
     rintro e w9_ ⟨rfl, hb⟩
     have n_BM := aQ (bq BM.out hb)
     have n_BF := aQ (bq BF.out hb)
     have n_BA := aQ (bq BA.out hb)
     have n_BE := aQ (bq BE.out hb)
     have n_HO := aQ (Kd.R_below HO.out hb)
     have n_HB := aQ (cU HB.out hb)
     clear BM BF BA BE HO HB HP hb
     have BM := n_BM
     clear n_BM
     have BF := n_BF
     clear n_BF
     have BA := n_BA
     clear n_BA
     have BE := n_BE
     clear n_BE
     have HO := n_HO
     clear n_HO
     have HB := n_HB
     clear n_HB
     have hk1 := HK1.out
     clear HK1 HA HE2
     cases tb with
     | true =>
      rw [if_pos rfl] at hk1
      have HK2 := Lib.hid hk1
      clear hk1
      go_wp2
      go_roundg (es.length - (z + 1).toNat)
      case measure => have := HG3.out; have := HZ.out; have := Q3.out; omega
      case rel => exact ⟨z + 1, by rw [E3.out], ⟨by have := HZ.out; have := Q3.out; omega⟩, ⟨Nat.le_refl _⟩, ⟨pk BM.out⟩, ⟨pk BF.out⟩, ⟨pk BA.out⟩, ⟨(pB HB.out)⟩, ⟨pR HO.out⟩, ⟨HK2.out⟩⟩
     | false =>
      rw [if_neg (by decide)] at hk1
      simp only [Option.some.injEq] at hk1
      subst hk1
      have hj := HJ1.out
      simp only [Option.some.injEq] at hj
      subst hj
      have hi := HI1.out
      simp only [Option.some.injEq] at hi
      subst hi
      have hu := HU.out
      simp only [Option.some.injEq, Prod.mk.injEq] at hu
      obtain ⟨rfl, rfl, rfl, rfl⟩ := hu
      clear HJ1 HI1 HU
      have zBA4 : w9_.cell? ⟨ga, 0, none⟩ = some (.int .i64 (rd l0_1 x)) := (ac BA.out 0).trans rfl
      have zBE4 : w9_.cell? ⟨ge, 0, none⟩ = some (.int .i64 (rd es z)) := (ac BE.out 0).trans rfl
      have zBF0 : w9_.cell? ⟨gf, 0, none⟩ = some (.int .i64 0) := (ac BF.out 0).trans rfl
      have zBF1 : w9_.cell? ⟨gf, 1, none⟩ = some (.int .i64 0) := (ac BF.out 1).trans rfl
      have zBF2 : w9_.cell? ⟨gf, 2, none⟩ = some (.int .i64 0) := (ac BF.out 2).trans rfl
      have fBF0 := aH BF.out 0
      have fBF1 := aH BF.out 1
      have fBF2 := aH BF.out 2
      go_wp2
      refine bodyPost_ret (cK rfl _ _ gf 109 #[.int .i64 (rd l0_1 x), .int .i64 (rd l0_1 y), .int .i64 (rd es z)] (0, 0) _ rfl (by refine pkx ?_; refine al (cs := #[.int .i64 (rd l0_1 x), .int .i64 (rd l0_1 y), .int .i64 0]) ?_ 2 _ rfl; refine pkx ?_; refine al (cs := #[.int .i64 (rd l0_1 x), .int .i64 0, .int .i64 0]) ?_ 1 _ rfl; refine pkx ?_; refine al (cs := #[.int .i64 0, .int .i64 0, .int .i64 0]) ?_ 0 _ rfl; refine pkx ?_; exact BF.out) Tryz.underlying109 rfl (by kernel_rfl)) rfl ?_
      exact ⟨rs_, (pb HB)⟩
    ·have l3 : decide (z < (es.length : Int)) = false := decide_eq_false hlt3
     have hK := HK.out
     rw [dP es z hlt3] at hK
     simp only [ae.l2, Option.some.injEq] at hK
     subst hK
     have hj := HJ1.out
     have HJ2 := Lib.hid (show ae.l1 k l0_1 (rd l0_1 x) (l0_1.drop (y + 1).toNat) = some t1 from hj)
     clear hj HJ1 HK hlt3
     go_wp2
     go_roundg (l0_1.length - (y + 1).toNat)
     case measure => have := HG2.out; have := HY.out; have := Q2.out; omega
     case rel => exact ⟨y + 1, by rw [E2.out], ⟨by have := HY.out; have := Q2.out; omega⟩, ⟨Nat.le_refl _⟩, ⟨pk BM.out⟩, ⟨pk BF.out⟩, ⟨pk BA.out⟩, ⟨(pB HB.out)⟩, ⟨HJ2.out⟩⟩
   ·have l2 : decide (y < (l0_1.length : Int)) = false := decide_eq_false hlt2
    have hJ := HJ.out
    rw [dP l0_1 y hlt2] at hJ
    simp only [ae.l1, Option.some.injEq] at hJ
    subst hJ
    have hi := HI1.out
    have HI2 := Lib.hid (show ae.l0 k l0_1 (l0_1.drop (x + 1).toNat) = some u from hi)
    clear hi HI1 HJ hlt2
    go_wp2
    go_roundg (l0_1.length - (x + 1).toNat)
    case measure => have := HG.out; have := HX.out; have := Q1.out; omega
    case rel => exact ⟨x + 1, by rw [E1.out], ⟨by have := HX.out; have := Q1.out; omega⟩, ⟨Nat.le_refl _⟩, ⟨pk BM.out⟩, ⟨pk BF.out⟩, ⟨(pB HB.out)⟩, ⟨HI2.out⟩⟩
  ·have l1 : decide (x < (l0_1.length : Int)) = false := decide_eq_false hlt
   have hI := HI.out
   rw [dP l0_1 x hlt] at hI
   simp only [ae.l0, Option.some.injEq] at hI
   subst hI
   have hu := HU.out
   simp only [Option.some.injEq, Prod.mk.injEq] at hu
   obtain ⟨rfl, rfl, rfl, rfl⟩ := hu
   clear HI hlt HU
   have zBF0 : wr.cell? ⟨gf, 0, none⟩ = some (.int .i64 0) := (ac BF.out 0).trans rfl
   have zBF1 : wr.cell? ⟨gf, 1, none⟩ = some (.int .i64 0) := (ac BF.out 1).trans rfl
   have zBF2 : wr.cell? ⟨gf, 2, none⟩ = some (.int .i64 0) := (ac BF.out 2).trans rfl
   have fBF0 := aH BF.out 0
   have fBF1 := aH BF.out 1
   have fBF2 := aH BF.out 2
   go_wp2
   refine bodyPost_ret (cK rfl _ _ gf 109 #[.int .i64 0, .int .i64 0, .int .i64 0] (0, 0) _ rfl (by refine pkx ?_; refine al (cs := #[.int .i64 0, .int .i64 0, .int .i64 0]) ?_ 2 _ rfl; refine pkx ?_; refine al (cs := #[.int .i64 0, .int .i64 0, .int .i64 0]) ?_ 1 _ rfl; refine pkx ?_; refine al (cs := #[.int .i64 0, .int .i64 0, .int .i64 0]) ?_ 0 _ rfl; refine pkx ?_; exact BF.out) Tryz.underlying109 rfl (by kernel_rfl)) rfl ?_
   exact ⟨rs_, (pb HB)⟩
 ·have c4 := Bool.eq_false_iff.mpr c3
  subst c4
  clear c3
  rw [if_neg (by decide)] at H
  simp only [Option.some.injEq, Prod.mk.injEq] at H
  obtain ⟨rfl, rfl, rfl, rfl⟩ := H
  go_enter Tryz.func211, Tryz.ntmps211
  go_wp2_with (first | ((with_reducible refine af (N := 1) rfl ?_); refine bx 1 #[.int .i64 a0_0, .slice A0_1 l0_1.length c0_1] 26 ?_; intro gm hg w1_ hbox hb; have n_HB := bs HB hb; have n_GBM := aQ ((by rw [hg]; exact aa (pB HB.out)) : w.heap.size ≤ gm); clear HB; have HB := n_HB; have GBM := n_GBM; have BM := aQ hbox; clear n_HB n_GBM; clear hb hbox hg; have zBM0 : w1_.cell? ⟨gm, 0, none⟩ = some (.int .i64 a0_0) := (ac BM.out 0).trans rfl; have zBM1 : w1_.cell? ⟨gm, 1, none⟩ = some (.slice A0_1 l0_1.length c0_1) := (ac BM.out 1).trans rfl) | ((with_reducible refine af (N := 2) rfl ?_); refine bx 2 #[.int .i64 0, .int .i64 0, .int .i64 0] 109 ?_; intro gf hg w1_ hbox hb; have n_BM := bb BM hb; have n_NBMBF := aQ ((by rw [hg]; exact Nat.ne_of_lt (dd (g := gm) (o := .cells #[.int .i64 a0_0, .slice A0_1 l0_1.length c0_1] 26 (0, 0)) (pk BM.out))) : gm ≠ gf); have n_HB := bs HB hb; have n_GBF := aQ ((by rw [hg]; exact aa (pB HB.out)) : w.heap.size ≤ gf); clear BM; clear HB; have HB := n_HB; have GBF := n_GBF; have BF := aQ hbox; have BM := n_BM; have NBMBF := n_NBMBF; clear n_HB n_GBF n_BM n_NBMBF; clear hb hbox hg; have zBM0 : w1_.cell? ⟨gm, 0, none⟩ = some (.int .i64 a0_0) := (ac BM.out 0).trans rfl; have zBM1 : w1_.cell? ⟨gm, 1, none⟩ = some (.slice A0_1 l0_1.length c0_1) := (ac BM.out 1).trans rfl; have zBF0 : w1_.cell? ⟨gf, 0, none⟩ = some (.int .i64 0) := (ac BF.out 0).trans rfl; have fBF0 := aH BF.out 0; have zBF1 : w1_.cell? ⟨gf, 1, none⟩ = some (.int .i64 0) := (ac BF.out 1).trans rfl; have fBF1 := aH BF.out 1; have zBF2 : w1_.cell? ⟨gf, 2, none⟩ = some (.int .i64 0) := (ac BF.out 2).trans rfl; have fBF2 := aH BF.out 2) | (go_at_call 154; (with_reducible refine (br.calls k a0_0 _ _ l0_1 false _ ?side1 ?side2 HF.out).mono ?_); (case side1 => exact pC (Kd.C_below HR.out HB.out)); (case side2 => exact HC.out); rintro e w' ⟨rfl, ⟨nd, rfl⟩⟩))
  refine bodyPost_ret (cK rfl _ _ gf 109 #[.int .i64 0, .int .i64 0, .int .i64 0] (0, 0) _ rfl (by refine pkx ?_; refine al (cs := #[.int .i64 0, .int .i64 0, .int .i64 0]) ?_ 2 _ rfl; refine pkx ?_; refine al (cs := #[.int .i64 0, .int .i64 0, .int .i64 0]) ?_ 1 _ rfl; refine pkx ?_; refine al (cs := #[.int .i64 0, .int .i64 0, .int .i64 0]) ?_ 0 _ rfl; refine pkx ?_; exact BF.out) Tryz.underlying109 rfl (by kernel_rfl)) rfl ?_
  exact ⟨rs_, (pb HB)⟩
end Go.Proofs.YtimkekeaeojpkaaGreat.A
namespace Go.Proofs.YtimkekeaeojpkaaGreat.A
open Go.RowKit Go.Proofs.YtimkekeaeojpkaaGreatW.PrintWords Go.Proofs.YtimkekeaeojpkaaGreatW.PrintLast Go.Proofs.YtimkekeaeojpkaaGreatW.PrintMore
attribute [local go_sem] cC cE cW cX co cp cD cG
set_option linter.unusedVariables false
set_option linter.unusedSimpArgs false
def a9.f (k : Nat) (a0_0 : Int) (l0_1 : List Int) : Option (Bool) := (ae.f k a0_0 l0_1).bind fun btq0 => ((br.f k a0_0 l0_1).bind fun tq1 => (if tq1 = true then (if (l0_1.length : Int) > 0 then (some (!btq0.2.2.2)) else (some false)) else (some false)))
theorem a9.calls (k : Nat) (a0_0 : Int) (A0_1 : Option Addr) (c0_1 : Nat) (l0_1 : List Int) (r : Bool) (w : World) (hr0_1 : Kd.C (Kd.int .i64) w A0_1 l0_1.length l0_1) (hc0_1 : l0_1.length ≤ c0_1) (h : a9.f k a0_0 l0_1 = some r) :
  Calls Tryz.prog 118 #[.agg #[.int .i64 a0_0, .slice A0_1 l0_1.length c0_1]] w fun e w' => e = .returned (.bool r) ∧ Below w.heap.size w w' := by
 have hu26 := Tryz.underlying26
 have hu109 := Tryz.underlying109
 have HR0_1 := aQ hr0_1
 have HC0_1 := aQ hc0_1
 clear hr0_1 hc0_1
 have HB := aQ (Below.refl w.heap.size w)
 have H := h
 clear h
 unfold a9.f at H
 (try dsimp only at H)
 replace H := bo H; obtain ⟨⟨tq0, tq2, tq3, tq4⟩, A2, H⟩ := H
 (try dsimp only at H)
 replace H := bo H; obtain ⟨tq1, A3, H⟩ := H
 (try dsimp only at H)
 by_cases c4 : tq1 = true
 ·subst c4
  rw [if_pos rfl] at H
  by_cases c5 : (l0_1.length : Int) > 0
  ·rw [if_pos c5] at H
   have c5b0 := decide_eq_true c5
   have c5b1 : decide (0 < l0_1.length) = true := decide_eq_true (by omega)
   clear c5
   obtain rfl := Option.some.inj H
   go_enter Tryz.func118, Tryz.ntmps118
   go_wp2_with (first | ((with_reducible refine af (N := 1) rfl ?_); (try (refine ck (by rfl) ?_; dsimp only)); refine bx 1 #[.int .i64 a0_0, .slice A0_1 l0_1.length c0_1] 26 ?_; intro gbq5 hg w6 hbox hb; have BKq5 := aQ (hbox); have GWq5 := gB HB hg; have GEq5 := gB HB hg; replace HB := bs HB hb; clear hb hbox hg; obtain ⟨hcz7_0, hcz7_1, hfz7_0, hfz7_1⟩ := c2 BKq5) | (refine gq 211 (some 7) Tryz.func211 #[.agg #[.int .i64 a0_0, .slice A0_1 l0_1.length c0_1]] ?_; (with_reducible refine (ae.calls k a0_0 _ _ l0_1 tq0 tq2 tq3 tq4 _ ?side1 ?side2 A2.out).mono ?_); (case side1 => exact pC (Kd.C_below HR0_1.out HB.out)); (case side2 => exact HC0_1.out); rintro e w8 ⟨rfl, hb⟩; refine ⟨_, rfl, ?_⟩; replace BKq5 := bb BKq5 hb; replace HB := bs HB hb; (try clear hb)) | ((with_reducible refine af (N := 3) rfl ?_); (try (refine ck (by rfl) ?_; dsimp only)); refine bx 3 #[.int .i64 0, .int .i64 0, .int .i64 0] 109 ?_; intro gbq6 hg w9 hbox hb; have BKq6 := aQ (hbox); have GWq6 := gB HB hg; have GEq6 := gB HB hg; replace HB := bs HB hb; have NBq5_q6 := nl BKq5 hg; have NBq6_q5 := ng BKq5 hg; replace BKq5 := bb BKq5 hb; clear hb hbox hg; have hnb10 := NBq6_q5.out; have hnc10 := NBq5_q6.out; have hcz11_0 := bc (v := (.int .i64 0)) BKq6.out 0; have hcz11_1 := bc (v := (.int .i64 0)) BKq6.out 1; have hcz11_2 := bc (v := (.int .i64 0)) BKq6.out 2; have hfz11_0 := aH BKq6.out 0; have hfz11_1 := aH BKq6.out 1; have hfz11_2 := aH BKq6.out 2; obtain ⟨hcz12_0, hcz12_1, hfz12_0, hfz12_1⟩ := c2 BKq5) | (refine gq 154 (some 14) Tryz.func154 #[.int .i64 a0_0, .slice A0_1 l0_1.length c0_1] ?_; (with_reducible refine (br.calls k a0_0 _ _ l0_1 true _ ?side1 ?side2 A3.out).mono ?_); (case side1 => exact Kd.C_below HR0_1.out (pB2 HB.out GEq5.out GEq6.out)); (case side2 => exact HC0_1.out); rintro e w' ⟨rfl, ⟨nd, rfl⟩⟩; refine ⟨_, rfl, ?_⟩))
   go_ret
   exact ⟨re_, pB2 HB.out GEq5.out GEq6.out⟩
  ·rw [if_neg c5] at H
   have c5b0 := decide_eq_false c5
   have c5b1 : decide (0 < l0_1.length) = false := decide_eq_false (by omega)
   clear c5
   obtain rfl := Option.some.inj H
   go_enter Tryz.func118, Tryz.ntmps118
   go_wp2_with (first | ((with_reducible refine af (N := 1) rfl ?_); (try (refine ck (by rfl) ?_; dsimp only)); refine bx 1 #[.int .i64 a0_0, .slice A0_1 l0_1.length c0_1] 26 ?_; intro gbq5 hg w13 hbox hb; have BKq5 := aQ (hbox); have GWq5 := gB HB hg; have GEq5 := gB HB hg; replace HB := bs HB hb; clear hb hbox hg; obtain ⟨hcz14_0, hcz14_1, hfz14_0, hfz14_1⟩ := c2 BKq5) | (refine gq 211 (some 7) Tryz.func211 #[.agg #[.int .i64 a0_0, .slice A0_1 l0_1.length c0_1]] ?_; (with_reducible refine (ae.calls k a0_0 _ _ l0_1 tq0 tq2 tq3 tq4 _ ?side1 ?side2 A2.out).mono ?_); (case side1 => exact pC (Kd.C_below HR0_1.out HB.out)); (case side2 => exact HC0_1.out); rintro e w15 ⟨rfl, hb⟩; refine ⟨_, rfl, ?_⟩; replace BKq5 := bb BKq5 hb; replace HB := bs HB hb; (try clear hb)) | ((with_reducible refine af (N := 3) rfl ?_); (try (refine ck (by rfl) ?_; dsimp only)); refine bx 3 #[.int .i64 0, .int .i64 0, .int .i64 0] 109 ?_; intro gbq6 hg w16 hbox hb; have BKq6 := aQ (hbox); have GWq6 := gB HB hg; have GEq6 := gB HB hg; replace HB := bs HB hb; have NBq5_q6 := nl BKq5 hg; have NBq6_q5 := ng BKq5 hg; replace BKq5 := bb BKq5 hb; clear hb hbox hg; have hnb17 := NBq6_q5.out; have hnc17 := NBq5_q6.out; have hcz18_0 := bc (v := (.int .i64 0)) BKq6.out 0; have hcz18_1 := bc (v := (.int .i64 0)) BKq6.out 1; have hcz18_2 := bc (v := (.int .i64 0)) BKq6.out 2; have hfz18_0 := aH BKq6.out 0; have hfz18_1 := aH BKq6.out 1; have hfz18_2 := aH BKq6.out 2; obtain ⟨hcz19_0, hcz19_1, hfz19_0, hfz19_1⟩ := c2 BKq5) | (refine gq 154 (some 14) Tryz.func154 #[.int .i64 a0_0, .slice A0_1 l0_1.length c0_1] ?_; (with_reducible refine (br.calls k a0_0 _ _ l0_1 true _ ?side1 ?side2 A3.out).mono ?_); (case side1 => exact Kd.C_below HR0_1.out (pB2 HB.out GEq5.out GEq6.out)); (case side2 => exact HC0_1.out); rintro e w' ⟨rfl, ⟨nd, rfl⟩⟩; refine ⟨_, rfl, ?_⟩))
   go_ret
   exact ⟨re_, pB2 HB.out GEq5.out GEq6.out⟩
 ·replace c4 := Bool.eq_false_iff.mpr c4
  subst c4
  have H1 : (some false) = some r := by rw [if_neg (show ¬ (false = true) by decide)] at H; exact H
  clear H
  have H := H1
  clear H1
  obtain rfl := Option.some.inj H
  go_enter Tryz.func118, Tryz.ntmps118
  go_wp2_with (first | ((with_reducible refine af (N := 1) rfl ?_); (try (refine ck (by rfl) ?_; dsimp only)); refine bx 1 #[.int .i64 a0_0, .slice A0_1 l0_1.length c0_1] 26 ?_; intro gbq5 hg w20 hbox hb; have BKq5 := aQ (hbox); have GWq5 := gB HB hg; have GEq5 := gB HB hg; replace HB := bs HB hb; clear hb hbox hg; obtain ⟨hcz21_0, hcz21_1, hfz21_0, hfz21_1⟩ := c2 BKq5) | (refine gq 211 (some 7) Tryz.func211 #[.agg #[.int .i64 a0_0, .slice A0_1 l0_1.length c0_1]] ?_; (with_reducible refine (ae.calls k a0_0 _ _ l0_1 tq0 tq2 tq3 tq4 _ ?side1 ?side2 A2.out).mono ?_); (case side1 => exact pC (Kd.C_below HR0_1.out HB.out)); (case side2 => exact HC0_1.out); rintro e w22 ⟨rfl, hb⟩; refine ⟨_, rfl, ?_⟩; replace BKq5 := bb BKq5 hb; replace HB := bs HB hb; (try clear hb)) | ((with_reducible refine af (N := 3) rfl ?_); (try (refine ck (by rfl) ?_; dsimp only)); refine bx 3 #[.int .i64 0, .int .i64 0, .int .i64 0] 109 ?_; intro gbq6 hg w23 hbox hb; have BKq6 := aQ (hbox); have GWq6 := gB HB hg; have GEq6 := gB HB hg; replace HB := bs HB hb; have NBq5_q6 := nl BKq5 hg; have NBq6_q5 := ng BKq5 hg; replace BKq5 := bb BKq5 hb; clear hb hbox hg; have hnb24 := NBq6_q5.out; have hnc24 := NBq5_q6.out; have hcz25_0 := bc (v := (.int .i64 0)) BKq6.out 0; have hcz25_1 := bc (v := (.int .i64 0)) BKq6.out 1; have hcz25_2 := bc (v := (.int .i64 0)) BKq6.out 2; have hfz25_0 := aH BKq6.out 0; have hfz25_1 := aH BKq6.out 1; have hfz25_2 := aH BKq6.out 2; obtain ⟨hcz26_0, hcz26_1, hfz26_0, hfz26_1⟩ := c2 BKq5) | (refine gq 154 (some 14) Tryz.func154 #[.int .i64 a0_0, .slice A0_1 l0_1.length c0_1] ?_; (with_reducible refine (br.calls k a0_0 _ _ l0_1 false _ ?side1 ?side2 A3.out).mono ?_); (case side1 => exact Kd.C_below HR0_1.out (pB2 HB.out GEq5.out GEq6.out)); (case side2 => exact HC0_1.out); rintro e w' ⟨rfl, ⟨nd, rfl⟩⟩; refine ⟨_, rfl, ?_⟩))
  go_ret
  exact ⟨re_, pB2 HB.out GEq5.out GEq6.out⟩
def cx.f (a0 : Int) : Option (Int) := (ce.f a0).bind fun tq0 => (if tq0 = true then (if 0 ≤ a0 then (some (wrap64 ((shl .i64 1 a0) - 1))) else (none)) else (some 0))
theorem cx.calls (a0 : Int) (r : Int) (w : World) (h : cx.f a0 = some r) :
  Calls Tryz.prog 131 #[.int .i64 a0] w fun e w' => e = .returned (.int .i64 r) ∧ Drawn0 w w' := by
 have H := h
 clear h
 unfold cx.f at H
 (try dsimp only at H)
 replace H := bo H; obtain ⟨tq0, A2, H⟩ := H
 (try dsimp only at H)
 by_cases c3 : tq0 = true
 ·subst c3
  rw [if_pos rfl] at H
  replace H := gd H; obtain ⟨c4, H⟩ := H
  have c4b0 := eq_true c4
  have c4b1 := decide_eq_true c4
  clear c4
  obtain ⟨ji5, hji5⟩ : ∃ j_ : Int, (shl .i64 1 a0) = j_ := ⟨_, rfl⟩
  replace H : (some (wrap64 ((ji5) - 1))) = some r := by first | (rw [hji5] at H; exact H) | (simp only [hji5] at H ⊢; exact H)
  (try rw [hji5] at A2)
  have hji5_ : (IntKind.i64.wrap (1 * 2 ^ min a0.toNat 64)) = ji5 := hji5
  have hji5z : a0 ≤ 64 → (IntKind.i64.wrap (1 * 2 ^ a0.toNat)) = ji5 := cP hji5
  have hji5u : (IntKind.i64.wrap (2 ^ min a0.toNat 64)) = ji5 := by have h_ := hji5_; rw [Int.one_mul] at h_; exact h_
  have hji5v : a0 ≤ 64 → (IntKind.i64.wrap (2 ^ a0.toNat)) = ji5 := fun hle_ => by have h_ := hji5z hle_; rw [Int.one_mul] at h_; exact h_
  have hji5y : (wrap64 (1 * 2 ^ min a0.toNat 64)) = ji5 := (i64_w _).symm.trans hji5_
  have hji5x : a0 ≤ 64 → (wrap64 (1 * 2 ^ a0.toNat)) = ji5 := fun h_ => (i64_w _).symm.trans (hji5z h_)
  obtain rfl := Option.some.inj H
  go_enter Tryz.func131, Tryz.ntmps131
  go_wp2_with (first | (refine gq 128 (some 4) Tryz.func128 #[.int .i64 a0] ?_; (with_reducible refine (ce.calls a0 true _ A2.out).mono ?_); rintro e w' ⟨rfl, ⟨nd, rfl⟩⟩; refine ⟨_, rfl, ?_⟩))
  go_ret
  exact ⟨by first | rfl | (simp; done) | (simp only [← hji5] <;> (first | rfl | simp)) | (simp [*]; done), rd_⟩
 ·replace c3 := Bool.eq_false_iff.mpr c3
  subst c3
  have H1 : (some 0) = some r := by rw [if_neg (show ¬ (false = true) by decide)] at H; exact H
  clear H
  have H := H1
  clear H1
  obtain rfl := Option.some.inj H
  go_enter Tryz.func131, Tryz.ntmps131
  go_wp2_with (first | (refine gq 128 (some 4) Tryz.func128 #[.int .i64 a0] ?_; (with_reducible refine (ce.calls a0 false _ A2.out).mono ?_); rintro e w' ⟨rfl, ⟨nd, rfl⟩⟩; refine ⟨_, rfl, ?_⟩))
  go_ret
  exact ⟨rs_, rd_⟩
def cO.f (a0 : Int) (a1 : Int) : Option (Bool) := (bL.f a0).bind fun tq0 => (if tq0 = true then ((bL.f a1).bind fun tq1 => (if tq1 = true then (some ((Go.bits .andNot .i64 a0 a1) == 0)) else (some false))) else (some false))
theorem cO.calls (a0 : Int) (a1 : Int) (r : Bool) (w : World) (h : cO.f a0 a1 = some r) :
  Calls Tryz.prog 146 #[.int .i64 a0, .int .i64 a1] w fun e w' => e = .returned (.bool r) ∧ Drawn0 w w' := by
 have H := h
 clear h
 unfold cO.f at H
 (try dsimp only at H)
 replace H := bo H; obtain ⟨tq0, A3, H⟩ := H
 (try dsimp only at H)
 by_cases c4 : tq0 = true
 ·subst c4
  rw [if_pos rfl] at H
  replace H := bo H; obtain ⟨tq1, A5, H⟩ := H
  (try dsimp only at H)
  by_cases c6 : tq1 = true
  ·subst c6
   rw [if_pos rfl] at H
   obtain rfl := Option.some.inj H
   go_enter Tryz.func146, Tryz.ntmps146
   go_wp2_with (first | (refine gq 205 (some 6) Tryz.func205 #[.int .i64 a0] ?_; (with_reducible refine (bL.calls a0 true _ A3.out).mono ?_); rintro e w' ⟨rfl, ⟨nd, rfl⟩⟩; refine ⟨_, rfl, ?_⟩) | (go_at_call 205; (with_reducible refine (bL.calls a1 true _ A5.out).mono ?_); rintro e w' ⟨rfl, ⟨nd, rfl⟩⟩))
   go_ret
   exact ⟨rs_, rd_⟩
  ·replace c6 := Bool.eq_false_iff.mpr c6
   subst c6
   have H1 : (some false) = some r := by rw [if_neg (show ¬ (false = true) by decide)] at H; exact H
   clear H
   have H := H1
   clear H1
   obtain rfl := Option.some.inj H
   go_enter Tryz.func146, Tryz.ntmps146
   go_wp2_with (first | (refine gq 205 (some 6) Tryz.func205 #[.int .i64 a0] ?_; (with_reducible refine (bL.calls a0 true _ A3.out).mono ?_); rintro e w' ⟨rfl, ⟨nd, rfl⟩⟩; refine ⟨_, rfl, ?_⟩) | (go_at_call 205; (with_reducible refine (bL.calls a1 false _ A5.out).mono ?_); rintro e w' ⟨rfl, ⟨nd, rfl⟩⟩))
   go_ret
   exact ⟨rs_, rd_⟩
 ·replace c4 := Bool.eq_false_iff.mpr c4
  subst c4
  have H1 : (some false) = some r := by rw [if_neg (show ¬ (false = true) by decide)] at H; exact H
  clear H
  have H := H1
  clear H1
  obtain rfl := Option.some.inj H
  go_enter Tryz.func146, Tryz.ntmps146
  go_wp2_with (first | (refine gq 205 (some 6) Tryz.func205 #[.int .i64 a0] ?_; (with_reducible refine (bL.calls a0 false _ A3.out).mono ?_); rintro e w' ⟨rfl, ⟨nd, rfl⟩⟩; refine ⟨_, rfl, ?_⟩))
  go_ret
  exact ⟨rs_, rd_⟩
def aK.l0 : Nat → Int → List Int → Int → Int → Option (Bool)
 | 0, _, _, _, _ => none
 | k + 1, x1, x8, x9, x10 => if x10 < x9 then (if 0 ≤ x10 then (if x10 < (x8.length : Int) then ((cO.f x1 (rd x8 x10)).bind fun tq0 => (if tq0 = true then (some true) else (aK.l0 k x1 x8 x9 (wrap64 (x10 + 1))))) else (none)) else (none)) else (some false)
def aK.f (k : Nat) (a0_0 : Int) (l0_1 : List Int) (a1 : Int) : Option (Bool) := aK.l0 k a1 l0_1 (l0_1.length : Int) 0
theorem aK.mono_l : ∀ k, (∀ y0 y1 y2 y3, LeO (aK.l0 k y0 y1 y2 y3) (aK.l0 (k + 1) y0 y1 y2 y3))
 | 0 => fun _ _ _ _ r h => by simp [aK.l0] at h
 | k + 1 => by
  have ih0 := aK.mono_l k
  ·intro y0 y1 y2 y3
   unfold aK.l0
   repeat' first | (with_reducible first | exact ih0 _ _ _ _ | exact LeO.refl _ | exact LeO.none _ | refine LeO.ite ?_ ?_ | refine LeO.bind ?_ (fun _ => ?_)) | exact ih0 _ _ _ _ | exact LeO.none _ | refine LeO.ite ?_ ?_ | refine LeO.bind ?_ (fun _ => ?_)
theorem aK.mono : ∀ a0 a1 a2 k, LeO (aK.f k a0 a1 a2) (aK.f (k + 1) a0 a1 a2) := by
 intro a0 a1 a2 k
 have ih0 := aK.mono_l k
 unfold aK.f
 repeat' first | (with_reducible first | exact ih0 _ _ _ _ | exact LeO.refl _ | exact LeO.none _ | refine LeO.ite ?_ ?_ | refine LeO.bind ?_ (fun _ => ?_)) | exact ih0 _ _ _ _ | exact LeO.none _ | refine LeO.ite ?_ ?_ | refine LeO.bind ?_ (fun _ => ?_)
theorem aK.calls (k : Nat) (a0_0 : Int) (A0_1 : Option Addr) (c0_1 : Nat) (l0_1 : List Int) (a1 : Int) (r : Bool) (w : World) (hr0_1 : Kd.C (Kd.int .i64) w A0_1 l0_1.length l0_1) (hc0_1 : l0_1.length ≤ c0_1) (h : aK.f k a0_0 l0_1 a1 = some r) :
  Calls Tryz.prog 184 #[.agg #[.int .i64 a0_0, .slice A0_1 l0_1.length c0_1], .int .i64 a1] w fun e w' => e = .returned (.bool r) ∧ Below w.heap.size w w' := by
 have hu26 := Tryz.underlying26
 have HR0_1 := aQ hr0_1
 have HC0_1 := aQ hc0_1
 clear hr0_1 hc0_1
 have HB := aQ (Below.refl w.heap.size w)
 have H : (aK.l0 k a1 l0_1 (l0_1.length : Int) 0) = some r := h
 clear h
 have H' := aQ H
 clear H
 go_enter Tryz.func184, Tryz.ntmps184
 go_wp2_with (first | ((with_reducible refine af (N := 2) rfl ?_); refine bx 2 #[.int .i64 a0_0, .slice A0_1 l0_1.length c0_1] 26 ?_; intro gbq1 hg w3 hbox hb; have BKq1 := aQ (hbox); have GWq1 := gB HB hg; have GEq1 := gB HB hg; replace HB := bs HB hb; clear hb hbox hg; obtain ⟨hcz4_0, hcz4_1, hfz4_0, hfz4_1⟩ := c2 BKq1))
 go_loopg [10] k (fun kq v10 w' => ∃ (x10_1 : Int), v10 = .int .i64 x10_1 ∧ Aside0 (aK.l0 kq a1 l0_1 (l0_1.length : Int) x10_1 = some r) ∧ Aside0 (kq ≤ k) ∧ Aside0 (w'.heap[gbq1]? = some (.cells #[.int .i64 a0_0, (.slice A0_1 l0_1.length c0_1)] 26 (0, 0))) ∧ Aside0 (Below w.heap.size w w'))
 case atStart => exact ⟨(0), rs_, H', ⟨Nat.le_refl _⟩, ⟨pk BKq1.out⟩, ⟨pB1 HB.out GEq1.out⟩⟩
 clear H'
 try clear hcz4_0
 try clear hcz4_1
 try clear hfz4_0
 try clear hfz4_1
 obtain ⟨x10_1, rfl, HA, HK1, BKq1, HB⟩ := hrel
 rcases gk with _ | k1
 ·exact absurd HA.out (by simp [aK.l0])
 have H := HA.out
 clear HA
 simp only [aK.l0] at H
 by_cases c5 : x10_1 < (l0_1.length : Int)
 ·rw [if_pos c5] at H
  have c5b0 := decide_eq_true c5
  clear c5
  replace H := gd H; obtain ⟨c6, H⟩ := H
  have c6b0 := decide_eq_true c6
  clear c6
  replace H := gd H; obtain ⟨c7, H⟩ := H
  have c7b0 := decide_eq_true c7
  clear c7
  replace H := bo H; obtain ⟨tq0, A8, H⟩ := H
  (try dsimp only at H)
  by_cases c9 : tq0 = true
  ·subst c9
   rw [if_pos rfl] at H
   obtain rfl := Option.some.inj H
   have pq2 : 0 ≤ (x10_1 : Int) := of_decide_eq_true as_
   have qq2 : x10_1 < (l0_1.length : Int) := of_decide_eq_true as_
   obtain ⟨adq2, eq2, hxq2_0⟩ := Kd.at_int HR0_1.out x10_1 pq2 qq2
   cases eq2
   replace hxq2_0 := (HB.out.cell (World.block_lt_of_cell? w _ hxq2_0)).trans hxq2_0
   replace pq2 := eq_true pq2
   replace qq2 := eq_true qq2
   go_wp2_with (first | (refine gq 146 (some 16) Tryz.func146 #[.int .i64 a1, .int .i64 (rd l0_1 x10_1)] ?_; (with_reducible refine (cO.calls a1 (rd l0_1 x10_1) true _ A8.out).mono ?_); rintro e w' ⟨rfl, ⟨nd, rfl⟩⟩; refine ⟨_, rfl, ?_⟩))
   go_ret
   exact ⟨re_, pB1 HB.out GEq1.out⟩
  ·replace c9 := Bool.eq_false_iff.mpr c9
   subst c9
   have H1 : (aK.l0 k1 a1 l0_1 (l0_1.length : Int) (wrap64 (x10_1 + 1))) = some r := by rw [if_neg (show ¬ (false = true) by decide)] at H; exact H
   clear H
   have H := H1
   clear H1
   have H' := aQ H
   clear H
   have pq2 : 0 ≤ (x10_1 : Int) := of_decide_eq_true as_
   have qq2 : x10_1 < (l0_1.length : Int) := of_decide_eq_true as_
   obtain ⟨adq2, eq2, hxq2_0⟩ := Kd.at_int HR0_1.out x10_1 pq2 qq2
   cases eq2
   replace hxq2_0 := (HB.out.cell (World.block_lt_of_cell? w _ hxq2_0)).trans hxq2_0
   replace pq2 := eq_true pq2
   replace qq2 := eq_true qq2
   go_wp2_with (first | (refine gq 146 (some 16) Tryz.func146 #[.int .i64 a1, .int .i64 (rd l0_1 x10_1)] ?_; (with_reducible refine (cO.calls a1 (rd l0_1 x10_1) false _ A8.out).mono ?_); rintro e w' ⟨rfl, ⟨nd, rfl⟩⟩; refine ⟨_, rfl, ?_⟩))
   go_roundg k1
   case measure => have := HK1.out; omega
   case rel => exact ⟨(wrap64 (x10_1 + 1)), rs_, H', ⟨by have := HK1.out; omega⟩, ⟨pk BKq1.out⟩, ⟨pB1 HB.out GEq1.out⟩⟩
 ·rw [if_neg c5] at H
  have c5b0 := decide_eq_false c5
  clear c5
  obtain rfl := Option.some.inj H
  go_wp2
  go_ret
  exact ⟨re_, pB1 HB.out GEq1.out⟩
end Go.Proofs.YtimkekeaeojpkaaGreat.A
namespace Go.Proofs.YtimkekeaeojpkaaGreat.A
open Go.RowKit Go.Proofs.YtimkekeaeojpkaaGreatW.PrintWords Go.Proofs.YtimkekeaeojpkaaGreatW.PrintLast Go.Proofs.YtimkekeaeojpkaaGreatW.PrintMore Go.Proofs.YtimkekeaeojpkaaGreat.Z
attribute [local go_sem] cC cE cW cX co cp cD cG
set_option linter.unusedVariables false
set_option linter.unusedSimpArgs false
def ju : Go.Shelf.Ren := ⟨fun | 20 => 276 | n => n, fun | 24 => 3 | 22 => 24 | 3 => 3 | 25 => 71 | 4 => 4 | 0 => 0 | n => n, fun | n => n⟩
theorem m0 : Go.Proofs.SlLaysF.n20 Tryz.prog ju := {
 mixed := by kernel_rfl
 f20 := ⟨Tryz.f276.name, by decide, Tryz.func276.trans (congrArg some (by kernel_rfl))⟩
 t0 := Tryz.underlying0
 a0 := Tryz.isAgg0
 z0 := Tryz.sizeOf0
 v0 := Tryz.zeroValue0
 t3 := Tryz.underlying3
 a3 := Tryz.isAgg3
 z3 := Tryz.sizeOf3
 v3 := Tryz.zeroValue3
 t4 := Tryz.underlying4
 a4 := Tryz.isAgg4
 z4 := Tryz.sizeOf4
 v4 := Tryz.zeroValue4
 t22 := Tryz.underlying24
 a22 := Tryz.isAgg24
 z22 := Tryz.sizeOf24
 v22 := Tryz.zeroValue24
 a24 := Tryz.isAgg3
 z24 := Tryz.sizeOf3
 t25 := Tryz.underlying71
 a25 := Tryz.isAgg71
 z25 := Tryz.sizeOf71
 v25 := Tryz.zeroValue71 }
set_option maxHeartbeats 4000000 in
theorem jl (B : Option Addr) (cw : Nat) (wl : List Int) (x y : Int) (gw : Nat) (W : World) (hx : 0 ≤ x ∧ x < (wl.length : Int)) (hy : 0 ≤ y ∧ y < (wl.length : Int))
  (hw : W.heap[gw]? = some (.cells #[.slice B wl.length cw] 24 (0, 0))) (hr : Kd.C (Kd.int .i64) W B wl.length wl) :
  Calls Tryz.prog 209 #[.int .i64 x, .int .i64 y, .pointer (some ⟨gw, 0, none⟩)] W fun e w' => e = .returned (.int .i64 (wrap64 (rd wl y - rd wl x))) ∧ ∃ q, w' = W.drewN q := by
 obtain ⟨ad, ea, hcx⟩ := Kd.at_int hr x hx.1 hx.2
 obtain ⟨ad2, ea2, hcy⟩ := Kd.at_int hr y hy.1 hy.2
 cases ea
 cases ea2
 have hz : W.cell? ⟨gw, 0, none⟩ = some (.slice (some ad) wl.length cw) := (ac hw 0).trans rfl
 have p1 := eq_true hx.1
 have p2 := eq_true hx.2
 have p3 := eq_true hy.1
 have p4 := eq_true hy.2
 clear hx hy hw hr
 go_enter Tryz.func209, Tryz.ntmps209
 go_wp2
 go_quiet (fail)
 go_wp2
 go_ret
 exact ⟨rs_, _, by first | rfl | exact World.drewN_drewN _ _ _⟩
theorem lg (A : Option Addr) (c : Nat) (F : Value) (w : World) :
  Calls Tryz.prog 276 #[.slice A 0 c, .int .i64 0, .int .i64 0, F] w fun e w' => e = .returned (.tuple #[]) ∧ w' = w := by
 go_enter Tryz.func276, Tryz.ntmps276
 go_wp2
 go_loopg [8] 0 (fun gg s8 wr => s8 = .int .i64 1 ∧ wr = w)
 case atStart => exact ⟨by first | rfl | (simp; done), rfl⟩
 obtain ⟨rfl, rfl⟩ := hrel
 go_wp2
 go_end0
 exact ⟨rfl, rfl⟩
set_option maxHeartbeats 4000000 in
theorem lu (B : Option Addr) (cw : Nat) (wl xs : List Int) (A : Option Addr) (c gw : Nat) (ok : Nat → Prop) (w0 w : World)
  (hC : Kd.C (Kd.int .i64) w0 B wl.length wl) (hB : Below w0.heap.size w0 w) (hw : w.heap[gw]? = some (.cells #[.slice B wl.length cw] 24 (0, 0))) (hs : fk wl) (hx : ∀ x ∈ xs, 0 ≤ x ∧ x < (wl.length : Int))
  (h : Kd.R (Kd.int .i64) 3 w w0.heap.size ok (.slice A xs.length c) xs) (hl : xs.length < 17592186044416) :
  Calls Tryz.prog 276 #[.slice A xs.length c, .int .i64 0, .int .i64 (xs.length : Int), .func (.func 209) #[] #[.pointer (some ⟨gw, 0, none⟩)]] w fun e w' =>
   e = .returned (.tuple #[]) ∧ Kd.R (Kd.int .i64) 3 w' w0.heap.size ok (.slice A xs.length c) (gOrd wl xs) ∧ Below w0.heap.size w0 w' ∧ w'.heap[gw]? = some (.cells #[.slice B wl.length cw] 24 (0, 0)) ∧ Kept w w' (fun k => some k = (.slice A xs.length c : Value).ownBlock) := by
 by_cases hxs : xs = []
 ·subst hxs
  refine (lg A c _ w).mono ?_
  rintro e w' ⟨rfl, rfl⟩
  exact ⟨rfl, h, hB, hw, Kept.refl _ _⟩
 have hne : wl ≠ [] := by
  rintro rfl
  obtain ⟨x, hx0⟩ := List.exists_mem_of_ne_nil xs hxs
  have := hx x hx0
  simp at this
  omega
 rcases mR h with ⟨rfl, rfl⟩ | ⟨g, rfl, hg, hlt, hc⟩
 ·exact absurd rfl hxs
 have hgw : gw ≠ g := by
  have := Kd.R_ne h hw (by decide)
  rintro rfl
  exact this rfl
 have eg : ∀ args w, (callFunc 209 args).run Tryz.prog w = .ok (.enter 209 args) w := kZ Tryz.func209 (by kernel_rfl) rfl
 have hsz := hB.size
 have hgwl := dd hw
 have hcmp : Go.Proofs.CmpReads Tryz.prog 209 #[.pointer (some ⟨gw, 0, none⟩)] (fun x => Value.int .i64 (cF wl x)) (gCf wl) g 0 xs.toArray.size w := by
  intro m os dk hd x y
  have hW : Go.Proofs.sortWorld (fun x => Value.int .i64 (cF wl x)) w g 0 m dk os = Go.Sort.grow (Go.Sort.putRow (Value.int .i64) (Go.Sort.ahead w m) g 0 (dk.map (cF wl))) os := by
   show Go.Sort.grow (Go.Sort.putRow _ _ g 0 dk) os = _
   rw [go]
  rw [hW]
  refine fe (by simp) (jl B cw wl (cF wl x) (cF wl y) gw _ (gU hne x) (gU hne y) ?_ (Kd.C_below hC (iH hB hg hsz m _ os)))
  rw [gu hgw hgwl]; exact hw
 have hH : Go.Sort.Holds (fun x => Value.int .i64 (cF wl x)) w g 0 xs.toArray := by
  intro j hj
  have h1 := mH h j hj
  have hj' : j < xs.length := by simpa using hj
  have e : xs.toArray[j]! = xs[j] := by rw [getElem!_pos xs.toArray j hj]; simp
  refine ⟨?_, h1.2⟩
  show _ = some (Value.int .i64 (cF wl xs.toArray[j]!))
  rw [e, fC (hx _ (List.getElem_mem hj')), ← e]
  exact h1.1
 have hcon := Go.Proofs.Any.insertionSortCmpFunc_one m0 (fun x => Value.int .i64 (cF wl x)) (fun _ => rfl) (gCf wl) 209 #[.pointer (some ⟨gw, 0, none⟩)] g 0 c 0 xs.length xs.toArray w eg hcmp hH (Nat.zero_le _) (by simp) (by simp; omega)
 refine Calls.mono (show Calls Tryz.prog 276 #[.slice (some ⟨g, 0, none⟩) xs.length c, .int .i64 0, .int .i64 (xs.length : Int), .func (.func 209) #[] #[.pointer (some ⟨gw, 0, none⟩)]] w _ from hcon) ?_
 rintro e w' ⟨rfl, n, rfl⟩
 have hw' : (Go.Sort.putRow (fun x => Value.int .i64 (cF wl x)) w g 0 (Go.Sort.insertionSort (Go.Proofs.ltOf (gCf wl)) xs.toArray 0 xs.length)).drewN n = Go.Sort.putRow (Value.int .i64) (Go.Sort.ahead w n) g 0 (gOrd wl xs).toArray := by
  rw [mC hs hne hx]
  exact (putRow_drewN (enc := Value.int .i64) w 0 n g 0 _).trans (by rw [Nat.zero_add])
 rw [hw']
 refine ⟨rfl, ?_, kf hB hg hsz n _, ?_, ?_, ?_⟩
 ·have := kQ h (ig wl xs) n
  rwa [ig] at this
 ·have := gu hgw hgwl n (gOrd wl xs).toArray #[]
  rw [Go.Sort.grow_empty] at this
  rw [this]; exact hw
 ·rw [Go.Sort.size_putRow]; exact Nat.le_refl _
 ·intro k hk hn
  have := gu (k := k) (fun e => hn (by rw [e]; rfl)) hk n (gOrd wl xs).toArray #[]
  rw [Go.Sort.grow_empty] at this
  exact this
set_option maxHeartbeats 4000000 in
theorem jf (B : Option Addr) (cw : Nat) (wl xs : List Int) (A : Option Addr) (c gw : Nat) (ok : Nat → Prop) (w0 w : World)
  (hC : Kd.C (Kd.int .i64) w0 B wl.length wl) (hB : Below w0.heap.size w0 w) (hw : w.heap[gw]? = some (.cells #[.slice B wl.length cw] 24 (0, 0))) (hs : fk wl) (hx : ∀ x ∈ xs, 0 ≤ x ∧ x < (wl.length : Int))
  (h : Kd.R (Kd.int .i64) 3 w w0.heap.size ok (.slice A xs.length c) xs) (hl : xs.length < 20) :
  Calls Tryz.prog 246 #[.slice A xs.length c, .int .i64 (xs.length : Int), .func (.func 209) #[] #[.pointer (some ⟨gw, 0, none⟩)]] w fun e w' =>
   e = .returned (.tuple #[]) ∧ Kd.R (Kd.int .i64) 3 w' w0.heap.size ok (.slice A xs.length c) (gOrd wl xs) ∧ Below w0.heap.size w0 w' ∧ w'.heap[gw]? = some (.cells #[.slice B wl.length cw] 24 (0, 0)) ∧ Kept w w' (fun k => some k = (.slice A xs.length c : Value).ownBlock) := by
 have l1 : decide ((20 : Int) ≤ (xs.length : Int)) = false := decide_eq_false (by omega)
 have l2 : decide ((20 : Int) < (xs.length : Int)) = false := decide_eq_false (by omega)
 have HI := Lib.hid (lu B cw wl xs A c gw ok w0 w hC hB hw hs hx h (by omega))
 clear hC hB hw hs hx h hl
 go_enter Tryz.func246, Tryz.ntmps246
 go_wp2
 go_loopg [7, 8] 0 (fun gg s7 s8 wr => s7 = .int .i64 0 ∧ s8 = .int .i64 20 ∧ wr = w)
 case atStart => exact ⟨by first | rfl | (simp; done), by first | rfl | (simp; done), rfl⟩
 obtain ⟨rfl, rfl, rfl⟩ := hrel
 go_wp2_with (first | (go_at_call 276; (with_reducible refine (HI.out).mono ?_); rintro e w1_ ⟨rfl, hR_, hB_, hW_, hK_⟩; have HR := aQ hR_; have HB := aQ hB_; have HW := aQ hW_; have HK := aQ hK_; clear hR_ hB_ hW_ hK_))
 go_loopg [6] 0 (fun gg s6 wr2 => s6 = .int .i64 20 ∧ wr2 = w1_)
 case atStart => exact ⟨by first | rfl | (simp; done), rfl⟩
 obtain ⟨rfl, rfl⟩ := hrel
 go_wp2
 go_end0
 exact ⟨rfl, HR.out, HB.out, HW.out, HK.out⟩
theorem fO (B : Option Addr) (cw : Nat) (wl xs : List Int) (A : Option Addr) (c gw : Nat) (ok : Nat → Prop) (w0 w : World)
  (hC : Kd.C (Kd.int .i64) w0 B wl.length wl) (hB : Below w0.heap.size w0 w) (hw : w.heap[gw]? = some (.cells #[.slice B wl.length cw] 24 (0, 0))) (hs : fk wl) (hx : ∀ x ∈ xs, 0 ≤ x ∧ x < (wl.length : Int))
  (h : Kd.R (Kd.int .i64) 3 w w0.heap.size ok (.slice A xs.length c) xs) (hl : xs.length < 20) :
  Calls Tryz.prog 208 #[.slice A xs.length c, .func (.func 209) #[] #[.pointer (some ⟨gw, 0, none⟩)]] w fun e w' =>
   e = .returned (.tuple #[]) ∧ Kd.R (Kd.int .i64) 3 w' w0.heap.size ok (.slice A xs.length c) (gOrd wl xs) ∧ Below w0.heap.size w0 w' ∧ w'.heap[gw]? = some (.cells #[.slice B wl.length cw] 24 (0, 0)) ∧ Kept w w' (fun k => some k = (.slice A xs.length c : Value).ownBlock) := by
 have HI := Lib.hid (jf B cw wl xs A c gw ok w0 w hC hB hw hs hx h hl)
 clear hC hB hw hs hx h hl
 go_enter Tryz.func208, Tryz.ntmps208
 go_wp2_with (first | (go_at_call 246; (with_reducible refine (HI.out).mono ?_); rintro e w1_ ⟨rfl, hR_, hB_, hW_, hK_⟩; have HR := aQ hR_; have HB := aQ hB_; have HW := aQ hW_; have HK := aQ hK_; clear hR_ hB_ hW_ hK_))
 go_end0
 exact ⟨rfl, HR.out, HB.out, HW.out, HK.out⟩
def gOk (wl xs : List Int) : Bool := wl.all (fun v => decide (-4611686018427387903 ≤ v) && decide (v ≤ 4611686018427387903)) && (xs.all (fun x => decide (0 ≤ x) && decide (x < (wl.length : Int))) && decide (xs.length < 20))
theorem lD {wl xs : List Int} (h : gOk wl xs = true) : fk wl ∧ (∀ x ∈ xs, 0 ≤ x ∧ x < (wl.length : Int)) ∧ xs.length < 20 := by
 unfold gOk at h
 simp only [Bool.and_eq_true, List.all_eq_true, decide_eq_true_eq] at h
 exact ⟨h.1, h.2.1, h.2.2⟩
def dy (k : Nat) (n : Int) (l : List Int) : List Int → Int → List Int → Option (List Int)
 | [], _, acc => some acc
 | e :: es, s, acc => if 0 ≤ e ∧ e ≤ 64 then (aK.f k n l (Go.bits .or .i64 s (shl .i64 1 e))).bind fun b => if b = true then (if acc.length < 17592186044416 then dy k n l es (Go.bits .or .i64 s (shl .i64 1 e)) (acc ++ [e]) else none) else dy k n l es s acc else none
theorem fF (k : Nat) (n : Int) (l : List Int) : ∀ (es : List Int) (s : Int) (acc : List Int), LeO (dy k n l es s acc) (dy (k + 1) n l es s acc)
 | [], _, _ => LeO.refl _
 | e :: es, s, acc => by
  simp only [dy]
  exact LeO.ite (LeO.bind (aK.mono _ _ _ _) (fun b => LeO.ite (LeO.ite (fF k n l es _ _) (LeO.none _)) (fF k n l es _ _))) (LeO.none _)
def cA.f (k : Nat) (a0_0 : Int) (l0_1 : List Int) (l1 : List Int) : Option (List Int × Bool) := (a9.f k a0_0 l0_1).bind fun t => if t = true then (aV.f k a0_0 l1).bind fun u => if u = true then (cx.f a0_0).bind fun m => (au.f k m).bind fun y => if gOk l1 y = true then (dy k a0_0 l0_1 (gOrd l1 y) 0 ([] : List Int)).bind fun z => some (z, true) else none else some (([] : List Int), false) else some (([] : List Int), false)
set_option maxHeartbeats 4000000 in
theorem cA.calls (k : Nat) (a0_0 : Int) (A0_1 : Option Addr) (c0_1 : Nat) (l0_1 : List Int) (A1 : Option Addr) (c1 : Nat) (l1 : List Int) (r1 : List Int) (r2 : Bool) (w : World) (hr0_1 : Kd.C (Kd.int .i64) w A0_1 l0_1.length l0_1) (hc0_1 : l0_1.length ≤ c0_1) (hr1 : Kd.C (Kd.int .i64) w A1 l1.length l1) (hc1 : l1.length ≤ c1) (h : cA.f k a0_0 l0_1 l1 = some (r1, r2)) :
  Calls Tryz.prog 114 #[.agg #[.int .i64 a0_0, .slice A0_1 l0_1.length c0_1], .slice A1 l1.length c1] w fun e w' => ∃ v0_ : Value, e = .returned (.tuple #[v0_, .bool r2]) ∧ Kd.R (Kd.int .i64) 3 w' w.heap.size (fun _ => True) v0_ r1 ∧ Below w.heap.size w w' := by
 have hu := Tryz.underlying26
 have HR := aQ hr0_1
 have HC := aQ hc0_1
 have HR2 := aQ hr1
 have HC2 := aQ hc1
 have HB := aQ (Below.refl w.heap.size w)
 clear hr0_1 hc0_1 hr1 hc1
 unfold cA.f at h
 obtain ⟨t, hT, h⟩ := Option.bind_eq_some_iff.1 h
 have HT := aQ hT
 clear hT
 by_cases c3 : t = true
 ·subst c3
  rw [if_pos rfl] at h
  obtain ⟨u, hU, h⟩ := Option.bind_eq_some_iff.1 h
  have HU := aQ hU
  clear hU
  by_cases c4 : u = true
  ·subst c4
   rw [if_pos rfl] at h
   obtain ⟨m, hF, h⟩ := Option.bind_eq_some_iff.1 h
   obtain ⟨y, hY, h⟩ := Option.bind_eq_some_iff.1 h
   by_cases hg : gOk l1 y = true
   ·rw [if_pos hg] at h
    obtain ⟨z, hZ, h⟩ := Option.bind_eq_some_iff.1 h
    simp only [Option.some.injEq, Prod.mk.injEq] at h
    obtain ⟨rfl, rfl⟩ := h
    have HF := aQ hF
    have HY := aQ hY
    have HG := aQ (lD hg)
    have HZ := aQ hZ
    clear hF hY hg hZ
    go_enter Tryz.func114, Tryz.ntmps114
    go_wp2_with (first | ((with_reducible refine af (N := 2) rfl ?_); refine bx 2 #[(.int .i64 a0_0), (.slice A0_1 l0_1.length c0_1)] 26 ?_; intro gm hg wa_ hbox hb; have GBM := aQ ((by rw [hg]; exact aa (pB HB.out)) : w.heap.size ≤ gm); replace HB := bs HB hb; have BM := aQ hbox; clear hb hbox hg; have zBM0 : wa_.cell? ⟨gm, 0, none⟩ = some (.int .i64 a0_0) := (ac BM.out 0).trans rfl; have zBM1 : wa_.cell? ⟨gm, 1, none⟩ = some (.slice A0_1 l0_1.length c0_1) := (ac BM.out 1).trans rfl) | ((with_reducible refine af (N := 3) rfl ?_); refine bx 3 #[(.slice A1 l1.length c1)] 24 ?_; intro gw hg wb_ hbox hb; have NBMBW := aQ ((by rw [hg]; exact Nat.ne_of_lt (dd (g := gm) (o := .cells #[(.int .i64 a0_0), (.slice A0_1 l0_1.length c0_1)] 26 (0, 0)) (pk BM.out))) : gm ≠ gw); have GBW := aQ ((by rw [hg]; exact aa (pb HB)) : w.heap.size ≤ gw); have n_BM := bb BM hb; have n_HB := bs HB hb; clear HB; clear BM; have BM := n_BM; clear n_BM; have HB := n_HB; clear n_HB; have BW := aQ hbox; clear hb hbox hg; have zBM0 : wb_.cell? ⟨gm, 0, none⟩ = some (.int .i64 a0_0) := (ac BM.out 0).trans rfl; have zBM1 : wb_.cell? ⟨gm, 1, none⟩ = some (.slice A0_1 l0_1.length c0_1) := (ac BM.out 1).trans rfl; have zBW0 : wb_.cell? ⟨gw, 0, none⟩ = some (.slice A1 l1.length c1) := (ac BW.out 0).trans rfl) | (go_at_call 118; (with_reducible refine (a9.calls k a0_0 _ _ l0_1 true _ ?side1 ?side2 HT.out).mono ?_); (case side1 => exact (Kd.C_below HR.out (pb HB))); (case side2 => exact HC.out); rintro e wc_ ⟨rfl, hb⟩; have n_BM := bb BM hb; have n_BW := bb BW hb; have n_HB := bs HB hb; clear HB; clear BM; have BM := n_BM; clear n_BM; clear BW; have BW := n_BW; clear n_BW; have HB := n_HB; clear n_HB; clear hb; have zBM0 : wc_.cell? ⟨gm, 0, none⟩ = some (.int .i64 a0_0) := (ac BM.out 0).trans rfl; have zBM1 : wc_.cell? ⟨gm, 1, none⟩ = some (.slice A0_1 l0_1.length c0_1) := (ac BM.out 1).trans rfl; have zBW0 : wc_.cell? ⟨gw, 0, none⟩ = some (.slice A1 l1.length c1) := (ac BW.out 0).trans rfl) | (go_at_call 38; (with_reducible refine (aV.calls k a0_0 _ _ l1 true _ ?side3 ?side4 HU.out).mono ?_); (case side3 => repeat (first | exact (Kd.C_below HR2.out (pb HB)) | exact HR2.out)); (case side4 => exact HC2.out); rintro e wd_ ⟨rfl, ⟨nd, rfl⟩⟩; have zqBM0 : (wc_.drewN nd).cell? ⟨gm, 0, none⟩ = some (.int .i64 a0_0) := (ac BM.out 0).trans rfl; have zqBM1 : (wc_.drewN nd).cell? ⟨gm, 1, none⟩ = some (.slice A0_1 l0_1.length c0_1) := (ac BM.out 1).trans rfl; have zqBW0 : (wc_.drewN nd).cell? ⟨gw, 0, none⟩ = some (.slice A1 l1.length c1) := (ac BW.out 0).trans rfl) | (go_at_call 131; (with_reducible refine (cx.calls a0_0 m _ HF.out).mono ?_); rintro e we_ ⟨rfl, ⟨nd2, rfl⟩⟩) | (go_at_call 129; (with_reducible refine (au.calls k m y _ HY.out).mono ?_); rintro e wf_ ⟨v_, rfl, ho_, hb⟩; have m_HE := aQ (Kd.R_lower ho_ (aa (pb HB))); have n_BM := bb BM hb; have n_BW := bb BW hb; have n_HB := bs HB hb; clear HB; clear BM; have BM := n_BM; clear n_BM; clear BW; have BW := n_BW; clear n_BW; have HB := n_HB; clear n_HB; have HE := m_HE; clear m_HE ho_; obtain ⟨AHE, cHE, eHE⟩ := Kd.R_slice HE.out; subst eHE; clear hb) | (go_at_call 208; (with_reducible refine (fO A1 c1 l1 y AHE cHE gw (fun _ => True) w _ HR2.out HB.out BW.out HG.out.1 HG.out.2.1 HE.out HG.out.2.2).mono ?_); rintro e wS ⟨rfl, hR_, hB_, hW_, hK_⟩; have n_BM := aQ (jG (g := gm) (o := .cells #[(.int .i64 a0_0), (.slice A0_1 l0_1.length c0_1)] 26 (0, 0)) BM.out hK_ (Kd.R_ne HE.out BM.out (by decide))); clear BM BW HE HB; have BM := n_BM; have BW := aQ hW_; have HE := aQ hR_; have HB := aQ hB_; clear n_BM hR_ hB_ hW_ hK_) | ((with_reducible refine af (N := 28) rfl ?_); refine Kd.R_lit (Kd.int .i64) _ 3 ?hg (N := 28) ?hd (xs := ([] : List Int)) (inner := []) (ok := fun _ => True) (okp := fun _ => True) ?hr ?hp (fun _ hk => hk) trivial (Below.refl _ _) (Nat.le_refl _) (by simp) ?_; (case hd => rfl); (case hg => rfl); (case hr => first | (go_simp; done) | (go_simp; rfl)); (case hp => exact (Reps.none _ _)); intro v28_ wL ho3 hb hg_ hnew_; clear hg_ hnew_; have HO := aQ ho3; have HS := aQ hb; clear ho3 hb))
    have HCE := aQ (Kd.R_reads' HE.out).2.2
    have eL := (ig l1 y).symm
    have hl20 := HG.out.2.2
    clear HE HY HG HF
    try clear zqBM0
    try clear zqBM1
    try clear zqBW0
    try clear zBM0
    try clear zBM1
    try clear zBW0
    generalize gOrd l1 y = ys at *
    generalize hLL : y.length = LL at *
    clear hLL
    subst eL
    have HL := aQ hl20
    clear hl20 BW
    go_loopg [7, 8, 31] ys.length (fun gg s7 s8 s31 wr => ∃ (x s : Int) (acc : List Int), s31 = .int .i64 x ∧ s8 = .int .i64 s ∧ Aside0 (0 ≤ x ∧ x ≤ (ys.length : Int)) ∧ Aside0 (ys.length - x.toNat ≤ gg) ∧ Aside0 (dy k a0_0 l0_1 (ys.drop x.toNat) s acc = some z) ∧ Aside0 (Kd.R (Kd.int .i64) 3 wr wS.heap.size (fun _ => True) s7 acc) ∧ Aside0 (Below wS.heap.size wS wr))
    case atStart => exact ⟨0, 0, [], by first | rfl | (simp; done), by first | rfl | (simp; done), ⟨by omega⟩, ⟨by omega⟩, ⟨HZ.out⟩, ⟨HO.out⟩, ⟨HS.out⟩⟩
    clear HZ HO HS
    obtain ⟨x, s, acc, rfl, rfl, HX, HGG, HI, HO, HS⟩ := hrel
    by_cases hlt : x < (ys.length : Int)
    ·have p1 : 0 ≤ x := HX.out.1
     have l1_ : decide (x < (ys.length : Int)) = true := decide_eq_true hlt
     obtain ⟨ad, ea, hx⟩ := Kd.at_int HCE.out x p1 hlt
     cases ea
     replace hx := (HS.out.cell (World.block_lt_of_cell? wS _ hx)).trans hx
     have hI := HI.out
     rw [eS ys x p1 hlt] at hI
     simp only [dy] at hI
     have E1 := Lib.hid (be (n := x + 1) (by have := HL.out; omega) (by have := HL.out; omega))
     have Q1 := aQ hlt
     have P1 := aQ p1
     replace p1 := eq_true p1
     replace hlt := eq_true hlt
     clear HI
     generalize rd ys x = ex at hI hx
     by_cases h0 : 0 ≤ ex ∧ ex ≤ 64
     ·rw [if_pos h0] at hI
      obtain ⟨b, hb_, hI⟩ := Option.bind_eq_some_iff.1 hI
      obtain ⟨ji, hji⟩ : ∃ j_ : Int, shl .i64 1 ex = j_ := ⟨_, rfl⟩
      rw [hji] at hI hb_
      have hji_ : (IntKind.i64.wrap (1 * 2 ^ min ex.toNat 64)) = ji := hji
      have hjiz : ex ≤ 64 → (IntKind.i64.wrap (1 * 2 ^ ex.toNat)) = ji := cP hji
      have hjiu : (IntKind.i64.wrap (2 ^ min ex.toNat 64)) = ji := by have h_ := hji_; rw [Int.one_mul] at h_; exact h_
      have hjiv : ex ≤ 64 → (IntKind.i64.wrap (2 ^ ex.toNat)) = ji := fun hle_ => by have h_ := hjiz hle_; rw [Int.one_mul] at h_; exact h_
      have hjiy : (wrap64 (1 * 2 ^ min ex.toNat 64)) = ji := (i64_w _).symm.trans hji_
      have hjix : ex ≤ 64 → (wrap64 (1 * 2 ^ ex.toNat)) = ji := fun h_ => (i64_w _).symm.trans (hjiz h_)
      have p5 : (0 ≤ ex) = True := eq_true h0.1
      have p6 : (ex ≤ 64) = True := eq_true h0.2
      have p7 : decide (0 ≤ ex) = true := decide_eq_true h0.1
      have p8 : (ex < 0) = False := eq_false (by omega)
      have p9 : decide (ex < 0) = false := decide_eq_false (by omega)
      have HBI := Lib.hid hb_
      clear hb_ h0
      have BMr := aQ (bq (o := .cells #[(.int .i64 a0_0), (.slice A0_1 l0_1.length c0_1)] 26 (0, 0)) BM.out HS.out)
      have HRr := aQ (Kd.C_below HR.out (cU HB.out HS.out))
      cases b with
      | true =>
       rw [if_pos rfl] at hI
       by_cases hac : acc.length < 17592186044416
       ·rw [if_pos hac] at hI
        have LM := aQ hac
        clear hac
        have HI2 := Lib.hid hI
        clear hI
        go_wp2
        have n_BMr : Aside0 (wr.drew.heap[gm]? = some (.cells #[(.int .i64 a0_0), (.slice A0_1 l0_1.length c0_1)] 26 (0, 0))) := ⟨b7 BMr.out⟩
        have n_HO : Aside0 (Kd.R (Kd.int .i64) 3 wr.drew wS.heap.size (fun _ => True) u7 acc) := ⟨Kd.R_drew HO.out⟩
        have n_HS : Aside0 (Below wS.heap.size wS wr.drew) := ⟨a7 HS.out⟩
        clear BMr HO HS
        have BMr := n_BMr
        have HO := n_HO
        have HS := n_HS
        clear n_BMr n_HO n_HS
        refine cN (n := 6) (S := fun w' => w'.cell? ⟨gm, 0, none⟩ = some (.int .i64 a0_0) ∧ w'.cell? ⟨gm, 1, none⟩ = some (.slice A0_1 l0_1.length c0_1)) (ds := []) _ (by kernel_rfl) rfl rfl ⟨((ac BMr.out 0).trans rfl), ((ac BMr.out 1).trans rfl)⟩ (fun hHeld => ?_)
        generalize wr.drew = wD_ at BMr HO HS hHeld ⊢
        refine pN 1 (some 36) ?_
        refine pN 2 (some 37) ?_
        refine pN 3 (some 38) ?_
        refine pN 4 (some 39) ?_
        refine tN2 0 (some 35) hHeld ?_
        refine onN (i := 5) (N := some 40) (h := fun K hK => ?_)
        refine mn Tryz.func184 (by kernel_rfl) rfl #[.agg #[.int .i64 a0_0, .slice A0_1 l0_1.length c0_1], .int .i64 (Go.bits .or .i64 s ji)] (by rfl) rfl rfl (by (try simp only [List.map_toArray, List.map_cons, List.map_nil]); first | done | rfl) ?_
        with_reducible refine (aK.calls k a0_0 _ _ l0_1 _ true _ ?side1 ?side2 HBI.out).mono ?_
        (case side1 => exact (Kd.C_below HR.out (cU HB.out HS.out)))
        (case side2 => exact HC.out)
        rintro e w5_ ⟨rfl, hb⟩
        refine ⟨_, rfl, ?_⟩
        have n_BMr := aQ (bq (g := gm) (o := .cells #[(.int .i64 a0_0), (.slice A0_1 l0_1.length c0_1)] 26 (0, 0)) BMr.out hb)
        have n_HO := aQ (Kd.R_below HO.out hb)
        have n_HS := aQ (cU HS.out hb)
        clear BMr HO HS
        have BMr := n_BMr
        have HO := n_HO
        have HS := n_HS
        clear n_BMr n_HO n_HS hb
        refine hK.out _ _ ⟨((ac BMr.out 0).trans rfl), ((ac BMr.out 1).trans rfl)⟩ (fun hHeld => ?_)
        clear hK K
        refine noN (some 40) (h := ?_)
        refine dn (by kernel_rfl) ?_
        go_wp2_with (first | ((with_reducible refine aW (b := .append) (xs := #[.tmp 45, .tmp 47]) rfl ?_); at_builtin; refine Kd.R_append (Kd.int .i64) (w0 := wS) wS.heap.size rfl (.tmp 45) (.tmp 47) 24 3 (.int .i64 0) 8 rfl Tryz.underlying24 bR rfl (by decide) (by omega) u7 acc ex [.int .i64 ex] (fun _ => True) (fun _ => False) rfl rfl ?aP (fun _ hk => hk.elim) ?aF ?aO ?aB ?aS ?aL ?_; (case aP => exact rfl); (case aB => exact HS.out); (case aF => exact (fun _ _ => trivial)); (case aO => exact HO.out); (case aS => exact (aa HS.out)); (case aL => have := LM.out; omega); intro v48_ w8 ho hb hg hat; have n0_ := aQ hb; have n1_ := aQ ho; clear HS HO; have HS := n0_; have HO := n1_; clear n0_ n1_ ho hb hg hat))
        go_roundg (ys.length - (x + 1).toNat)
        case measure => have := HGG.out; have := HX.out; have := Q1.out; omega
        case rel => exact ⟨x + 1, (Go.bits .or .i64 s ji), acc ++ [ex], by rw [E1.out], rs_, ⟨by have := HX.out; have := Q1.out; omega⟩, ⟨Nat.le_refl _⟩, ⟨HI2.out⟩, ⟨HO.out⟩, ⟨HS.out⟩⟩
       ·rw [if_neg hac] at hI; cases hI
      | false =>
       rw [if_neg (by decide)] at hI
       have HI2 := Lib.hid hI
       clear hI
       go_wp2
       have n_BMr : Aside0 (wr.drew.heap[gm]? = some (.cells #[(.int .i64 a0_0), (.slice A0_1 l0_1.length c0_1)] 26 (0, 0))) := ⟨b7 BMr.out⟩
       have n_HO : Aside0 (Kd.R (Kd.int .i64) 3 wr.drew wS.heap.size (fun _ => True) u7 acc) := ⟨Kd.R_drew HO.out⟩
       have n_HS : Aside0 (Below wS.heap.size wS wr.drew) := ⟨a7 HS.out⟩
       clear BMr HO HS
       have BMr := n_BMr
       have HO := n_HO
       have HS := n_HS
       clear n_BMr n_HO n_HS
       refine cN (n := 6) (S := fun w' => w'.cell? ⟨gm, 0, none⟩ = some (.int .i64 a0_0) ∧ w'.cell? ⟨gm, 1, none⟩ = some (.slice A0_1 l0_1.length c0_1)) (ds := []) _ (by kernel_rfl) rfl rfl ⟨((ac BMr.out 0).trans rfl), ((ac BMr.out 1).trans rfl)⟩ (fun hHeld => ?_)
       generalize wr.drew = wD_ at BMr HO HS hHeld ⊢
       refine pN 1 (some 36) ?_
       refine pN 2 (some 37) ?_
       refine pN 3 (some 38) ?_
       refine pN 4 (some 39) ?_
       refine tN2 0 (some 35) hHeld ?_
       refine onN (i := 5) (N := some 40) (h := fun K hK => ?_)
       refine mn Tryz.func184 (by kernel_rfl) rfl #[.agg #[.int .i64 a0_0, .slice A0_1 l0_1.length c0_1], .int .i64 (Go.bits .or .i64 s ji)] (by rfl) rfl rfl (by (try simp only [List.map_toArray, List.map_cons, List.map_nil]); first | done | rfl) ?_
       with_reducible refine (aK.calls k a0_0 _ _ l0_1 _ false _ ?side1 ?side2 HBI.out).mono ?_
       (case side1 => exact (Kd.C_below HR.out (cU HB.out HS.out)))
       (case side2 => exact HC.out)
       rintro e w5_ ⟨rfl, hb⟩
       refine ⟨_, rfl, ?_⟩
       have n_BMr := aQ (bq (g := gm) (o := .cells #[(.int .i64 a0_0), (.slice A0_1 l0_1.length c0_1)] 26 (0, 0)) BMr.out hb)
       have n_HO := aQ (Kd.R_below HO.out hb)
       have n_HS := aQ (cU HS.out hb)
       clear BMr HO HS
       have BMr := n_BMr
       have HO := n_HO
       have HS := n_HS
       clear n_BMr n_HO n_HS hb
       refine hK.out _ _ ⟨((ac BMr.out 0).trans rfl), ((ac BMr.out 1).trans rfl)⟩ (fun hHeld => ?_)
       clear hK K
       refine noN (some 40) (h := ?_)
       refine dn (by kernel_rfl) ?_
       go_wp2
       go_roundg (ys.length - (x + 1).toNat)
       case measure => have := HGG.out; have := HX.out; have := Q1.out; omega
       case rel => exact ⟨x + 1, s, acc, by rw [E1.out], rfl, ⟨by have := HX.out; have := Q1.out; omega⟩, ⟨Nat.le_refl _⟩, ⟨HI2.out⟩, ⟨HO.out⟩, ⟨HS.out⟩⟩
     ·rw [if_neg h0] at hI; cases hI
    ·have l1_ : decide (x < (ys.length : Int)) = false := decide_eq_false hlt
     have hI := HI.out
     rw [dP ys x hlt] at hI
     simp only [dy, Option.some.injEq] at hI
     subst hI
     clear HI hlt
     go_wp2
     go_ret2
     exact ⟨_, rs_, by refine pRx ?_; exact Kd.R_lower HO.out (aa HB.out), cU HB.out HS.out⟩
   ·rw [if_neg hg] at h; cases h
  ·have c5 := Bool.eq_false_iff.mpr c4
   subst c5
   clear c4
   rw [if_neg (by decide)] at h
   simp only [Option.some.injEq, Prod.mk.injEq] at h
   obtain ⟨rfl, rfl⟩ := h
   go_enter Tryz.func114, Tryz.ntmps114
   go_wp2_with (first | ((with_reducible refine af (N := 2) rfl ?_); refine bx 2 #[(.int .i64 a0_0), (.slice A0_1 l0_1.length c0_1)] 26 ?_; intro gm hg wa_ hbox hb; have GBM := aQ ((by rw [hg]; exact aa (pB HB.out)) : w.heap.size ≤ gm); replace HB := bs HB hb; have BM := aQ hbox; clear hb hbox hg; have zBM0 : wa_.cell? ⟨gm, 0, none⟩ = some (.int .i64 a0_0) := (ac BM.out 0).trans rfl; have zBM1 : wa_.cell? ⟨gm, 1, none⟩ = some (.slice A0_1 l0_1.length c0_1) := (ac BM.out 1).trans rfl) | ((with_reducible refine af (N := 3) rfl ?_); refine bx 3 #[(.slice A1 l1.length c1)] 24 ?_; intro gw hg wb_ hbox hb; have NBMBW := aQ ((by rw [hg]; exact Nat.ne_of_lt (dd (g := gm) (o := .cells #[(.int .i64 a0_0), (.slice A0_1 l0_1.length c0_1)] 26 (0, 0)) (pk BM.out))) : gm ≠ gw); have GBW := aQ ((by rw [hg]; exact aa (pb HB)) : w.heap.size ≤ gw); have n_BM := bb BM hb; have n_HB := bs HB hb; clear HB; clear BM; have BM := n_BM; clear n_BM; have HB := n_HB; clear n_HB; have BW := aQ hbox; clear hb hbox hg; have zBM0 : wb_.cell? ⟨gm, 0, none⟩ = some (.int .i64 a0_0) := (ac BM.out 0).trans rfl; have zBM1 : wb_.cell? ⟨gm, 1, none⟩ = some (.slice A0_1 l0_1.length c0_1) := (ac BM.out 1).trans rfl; have zBW0 : wb_.cell? ⟨gw, 0, none⟩ = some (.slice A1 l1.length c1) := (ac BW.out 0).trans rfl) | (go_at_call 118; (with_reducible refine (a9.calls k a0_0 _ _ l0_1 true _ ?side1 ?side2 HT.out).mono ?_); (case side1 => exact (Kd.C_below HR.out (pb HB))); (case side2 => exact HC.out); rintro e wc_ ⟨rfl, hb⟩; have n_BM := bb BM hb; have n_BW := bb BW hb; have n_HB := bs HB hb; clear HB; clear BM; have BM := n_BM; clear n_BM; clear BW; have BW := n_BW; clear n_BW; have HB := n_HB; clear n_HB; clear hb; have zBM0 : wc_.cell? ⟨gm, 0, none⟩ = some (.int .i64 a0_0) := (ac BM.out 0).trans rfl; have zBM1 : wc_.cell? ⟨gm, 1, none⟩ = some (.slice A0_1 l0_1.length c0_1) := (ac BM.out 1).trans rfl; have zBW0 : wc_.cell? ⟨gw, 0, none⟩ = some (.slice A1 l1.length c1) := (ac BW.out 0).trans rfl) | (go_at_call 38; (with_reducible refine (aV.calls k a0_0 _ _ l1 false _ ?side3 ?side4 HU.out).mono ?_); (case side3 => repeat (first | exact (Kd.C_below HR2.out (pb HB)) | exact HR2.out)); (case side4 => exact HC2.out); rintro e wd_ ⟨rfl, ⟨nd, rfl⟩⟩; have zqBM0 : (wc_.drewN nd).cell? ⟨gm, 0, none⟩ = some (.int .i64 a0_0) := (ac BM.out 0).trans rfl; have zqBM1 : (wc_.drewN nd).cell? ⟨gm, 1, none⟩ = some (.slice A0_1 l0_1.length c0_1) := (ac BM.out 1).trans rfl; have zqBW0 : (wc_.drewN nd).cell? ⟨gw, 0, none⟩ = some (.slice A1 l1.length c1) := (ac BW.out 0).trans rfl))
   go_ret2
   exact ⟨_, rs_, Kd.R_nil _ _ _ _ _, (pb HB)⟩
 ·have c4 := Bool.eq_false_iff.mpr c3
  subst c4
  clear c3
  rw [if_neg (by decide)] at h
  simp only [Option.some.injEq, Prod.mk.injEq] at h
  obtain ⟨rfl, rfl⟩ := h
  go_enter Tryz.func114, Tryz.ntmps114
  go_wp2_with (first | ((with_reducible refine af (N := 2) rfl ?_); refine bx 2 #[(.int .i64 a0_0), (.slice A0_1 l0_1.length c0_1)] 26 ?_; intro gm hg wa_ hbox hb; have GBM := aQ ((by rw [hg]; exact aa (pB HB.out)) : w.heap.size ≤ gm); replace HB := bs HB hb; have BM := aQ hbox; clear hb hbox hg; have zBM0 : wa_.cell? ⟨gm, 0, none⟩ = some (.int .i64 a0_0) := (ac BM.out 0).trans rfl; have zBM1 : wa_.cell? ⟨gm, 1, none⟩ = some (.slice A0_1 l0_1.length c0_1) := (ac BM.out 1).trans rfl) | ((with_reducible refine af (N := 3) rfl ?_); refine bx 3 #[(.slice A1 l1.length c1)] 24 ?_; intro gw hg wb_ hbox hb; have NBMBW := aQ ((by rw [hg]; exact Nat.ne_of_lt (dd (g := gm) (o := .cells #[(.int .i64 a0_0), (.slice A0_1 l0_1.length c0_1)] 26 (0, 0)) (pk BM.out))) : gm ≠ gw); have GBW := aQ ((by rw [hg]; exact aa (pb HB)) : w.heap.size ≤ gw); have n_BM := bb BM hb; have n_HB := bs HB hb; clear HB; clear BM; have BM := n_BM; clear n_BM; have HB := n_HB; clear n_HB; have BW := aQ hbox; clear hb hbox hg; have zBM0 : wb_.cell? ⟨gm, 0, none⟩ = some (.int .i64 a0_0) := (ac BM.out 0).trans rfl; have zBM1 : wb_.cell? ⟨gm, 1, none⟩ = some (.slice A0_1 l0_1.length c0_1) := (ac BM.out 1).trans rfl; have zBW0 : wb_.cell? ⟨gw, 0, none⟩ = some (.slice A1 l1.length c1) := (ac BW.out 0).trans rfl) | (go_at_call 118; (with_reducible refine (a9.calls k a0_0 _ _ l0_1 false _ ?side1 ?side2 HT.out).mono ?_); (case side1 => exact (Kd.C_below HR.out (pb HB))); (case side2 => exact HC.out); rintro e wc_ ⟨rfl, hb⟩; have n_BM := bb BM hb; have n_BW := bb BW hb; have n_HB := bs HB hb; clear HB; clear BM; have BM := n_BM; clear n_BM; clear BW; have BW := n_BW; clear n_BW; have HB := n_HB; clear n_HB; clear hb; have zBM0 : wc_.cell? ⟨gm, 0, none⟩ = some (.int .i64 a0_0) := (ac BM.out 0).trans rfl; have zBM1 : wc_.cell? ⟨gm, 1, none⟩ = some (.slice A0_1 l0_1.length c0_1) := (ac BM.out 1).trans rfl; have zBW0 : wc_.cell? ⟨gw, 0, none⟩ = some (.slice A1 l1.length c1) := (ac BW.out 0).trans rfl))
  go_ret2
  exact ⟨_, rs_, Kd.R_nil _ _ _ _ _, (pb HB)⟩
end Go.Proofs.YtimkekeaeojpkaaGreat.A
namespace Go.Proofs.YtimkekeaeojpkaaGreat.A
open Go.RowKit Go.Proofs.YtimkekeaeojpkaaGreatW.PrintWords Go.Proofs.YtimkekeaeojpkaaGreatW.PrintLast Go.Proofs.YtimkekeaeojpkaaGreatW.PrintMore
attribute [local go_sem] cC cE cW cX co cp cD cG
set_option linter.unusedVariables false
set_option linter.unusedSimpArgs false
def bT.l0 : Nat → Int → List Int → Int → Int → Option (Int)
 | 0, _, _, _, _ => none
 | k + 1, x3, x6, x7, x8 => if x8 < x7 then (if 0 ≤ x8 then (if x8 < (x6.length : Int) then (if 0 ≤ (rd x6 x8) then (bT.l0 k (Go.bits .or .i64 x3 (shl .i64 1 (rd x6 x8))) x6 x7 (wrap64 (x8 + 1))) else (none)) else (none)) else (none)) else (some x3)
def bT.f (k : Nat) (l0 : List Int) : Option (Int) := bT.l0 k 0 l0 (l0.length : Int) 0
theorem bT.calls (k : Nat) (A0 : Option Addr) (c0 : Nat) (l0 : List Int) (r : Int) (w : World) (hr0 : Kd.C (Kd.int .i64) w A0 l0.length l0) (hc0 : l0.length ≤ c0) (h : bT.f k l0 = some r) :
  Calls Tryz.prog 115 #[.slice A0 l0.length c0] w fun e w' => e = .returned (.int .i64 r) ∧ Drawn0 w w' := by
 have HR0 := aQ hr0
 have HC0 := aQ hc0
 clear hr0 hc0
 have H : (bT.l0 k 0 l0 (l0.length : Int) 0) = some r := h
 clear h
 have H' := aQ H
 clear H
 go_enter Tryz.func115, Tryz.ntmps115
 go_wp2
 go_loopg [3, 8] k (fun kq v3 v8 w' => ∃ (x3_1 : Int) (x8_1 : Int), v3 = .int .i64 x3_1 ∧ v8 = .int .i64 x8_1 ∧ Aside0 (bT.l0 kq x3_1 l0 (l0.length : Int) x8_1 = some r) ∧ Aside0 (kq ≤ k) ∧ Drawn0 w w')
 case atStart => exact ⟨(0), (0), rs_, rs_, H', ⟨Nat.le_refl _⟩, rd_⟩
 clear H'
 obtain ⟨x3_1, x8_1, rfl, rfl, HA, HK1, ⟨m1, rfl⟩⟩ := hrel
 rcases gk with _ | k1
 ·exact absurd HA.out (by simp [bT.l0])
 have H := HA.out
 clear HA
 simp only [bT.l0] at H
 by_cases c2 : x8_1 < (l0.length : Int)
 ·rw [if_pos c2] at H
  have c2b0 := decide_eq_true c2
  clear c2
  replace H := gd H; obtain ⟨c3, H⟩ := H
  have c3b0 := decide_eq_true c3
  clear c3
  replace H := gd H; obtain ⟨c4, H⟩ := H
  have c4b0 := decide_eq_true c4
  clear c4
  replace H := gd H; obtain ⟨c5, H⟩ := H
  have c5b0 := eq_true c5
  have c5b1 := decide_eq_true c5
  clear c5
  obtain ⟨ji6, hji6⟩ : ∃ j_ : Int, (shl .i64 1 (rd l0 x8_1)) = j_ := ⟨_, rfl⟩
  replace H : (bT.l0 k1 (Go.bits .or .i64 x3_1 (ji6)) l0 (l0.length : Int) (wrap64 (x8_1 + 1))) = some r := by first | (rw [hji6] at H; exact H) | (simp only [hji6] at H ⊢; exact H)
  have hji6_ : (IntKind.i64.wrap (1 * 2 ^ min (rd l0 x8_1).toNat 64)) = ji6 := hji6
  have hji6z : (rd l0 x8_1) ≤ 64 → (IntKind.i64.wrap (1 * 2 ^ (rd l0 x8_1).toNat)) = ji6 := cP hji6
  have hji6u : (IntKind.i64.wrap (2 ^ min (rd l0 x8_1).toNat 64)) = ji6 := by have h_ := hji6_; rw [Int.one_mul] at h_; exact h_
  have hji6v : (rd l0 x8_1) ≤ 64 → (IntKind.i64.wrap (2 ^ (rd l0 x8_1).toNat)) = ji6 := fun hle_ => by have h_ := hji6z hle_; rw [Int.one_mul] at h_; exact h_
  have hji6y : (wrap64 (1 * 2 ^ min (rd l0 x8_1).toNat 64)) = ji6 := (i64_w _).symm.trans hji6_
  have hji6x : (rd l0 x8_1) ≤ 64 → (wrap64 (1 * 2 ^ (rd l0 x8_1).toNat)) = ji6 := fun h_ => (i64_w _).symm.trans (hji6z h_)
  have H' := aQ H
  clear H
  have pq0 : 0 ≤ (x8_1 : Int) := of_decide_eq_true as_
  have qq0 : x8_1 < (l0.length : Int) := of_decide_eq_true as_
  obtain ⟨adq0, eq0, hxq0_0⟩ := Kd.at_int HR0.out x8_1 pq0 qq0
  cases eq0
  replace pq0 := eq_true pq0
  replace qq0 := eq_true qq0
  go_wp2
  go_roundg k1
  case measure => have := HK1.out; omega
  case rel => exact ⟨(Go.bits .or .i64 x3_1 (ji6)), (wrap64 (x8_1 + 1)), (by first | rfl | (simp; done) | (simp only [← hji6] <;> (first | rfl | simp)) | (simp [*]; done)), rs_, H', ⟨by have := HK1.out; omega⟩, rd_⟩
 ·rw [if_neg c2] at H
  have c2b0 := decide_eq_false c2
  clear c2
  obtain rfl := Option.some.inj H
  go_wp2
  go_ret
  exact ⟨rs_, rd_⟩
def cz.f (k : Nat) (a0_0 : Int) (l0_1 : List Int) (l1 : List Int) : Option (Int × Bool) := (cA.f k a0_0 l0_1 l1).bind fun btq0 => ((bT.f k btq0.1).bind fun tq1 => (some (tq1, btq0.2)))
theorem cz.calls (k : Nat) (a0_0 : Int) (A0_1 : Option Addr) (c0_1 : Nat) (l0_1 : List Int) (A1 : Option Addr) (c1 : Nat) (l1 : List Int) (r1 : Int) (r2 : Bool) (w : World) (hr0_1 : Kd.C (Kd.int .i64) w A0_1 l0_1.length l0_1) (hc0_1 : l0_1.length ≤ c0_1) (hr1 : Kd.C (Kd.int .i64) w A1 l1.length l1) (hc1 : l1.length ≤ c1) (h : cz.f k a0_0 l0_1 l1 = some (r1, r2)) :
  Calls Tryz.prog 25 #[.agg #[.int .i64 a0_0, .slice A0_1 l0_1.length c0_1], .slice A1 l1.length c1] w fun e w' => e = .returned (.tuple #[.int .i64 r1, .bool r2]) ∧ Below w.heap.size w w' := by
 have hu26 := Tryz.underlying26
 have HR0_1 := aQ hr0_1
 have HC0_1 := aQ hc0_1
 clear hr0_1 hc0_1
 have HR1 := aQ hr1
 have HC1 := aQ hc1
 clear hr1 hc1
 have HB := aQ (Below.refl w.heap.size w)
 have H := h
 clear h
 unfold cz.f at H
 (try dsimp only at H)
 replace H := bo H; obtain ⟨⟨tq0, tq2⟩, A3, H⟩ := H
 (try dsimp only at H)
 replace H := bo H; obtain ⟨tq1, A4, H⟩ := H
 (try dsimp only at H)
 simp only [Option.some.injEq, Prod.mk.injEq] at H
 obtain ⟨rfl, rfl⟩ := H
 go_enter Tryz.func25, Tryz.ntmps25
 go_wp2_with (first | ((with_reducible refine af (N := 2) rfl ?_); refine bx 2 #[.int .i64 a0_0, .slice A0_1 l0_1.length c0_1] 26 ?_; intro gbq3 hg w5 hbox hb; have BKq3 := aQ (hbox); have GWq3 := gB HB hg; have GEq3 := gB HB hg; replace HB := bs HB hb; clear hb hbox hg; obtain ⟨hcz6_0, hcz6_1, hfz6_0, hfz6_1⟩ := c2 BKq3) | (refine gq 114 (some 11) Tryz.func114 #[.agg #[.int .i64 a0_0, .slice A0_1 l0_1.length c0_1], .slice A1 l1.length c1] ?_; (with_reducible refine (cA.calls k a0_0 _ _ l0_1 _ _ l1 tq0 tq2 _ ?side1 ?side2 ?side3 ?side4 A3.out).mono ?_); (case side1 => exact pC (Kd.C_below HR0_1.out HB.out)); (case side2 => exact HC0_1.out); (case side3 => exact pC (Kd.C_below HR1.out HB.out)); (case side4 => exact HC1.out); rintro e w7 ⟨vq4, rfl, ho0, hb⟩; refine ⟨_, rfl, ?_⟩; have HOq5 := aQ (Kd.R_lower ho0 (aa (pB1 HB.out GEq3.out))); replace BKq3 := bb BKq3 hb; replace HB := bs HB hb; (try clear hb); (try clear ho0); obtain ⟨Ao8, co8, eo8⟩ := Kd.R_slice HOq5.out; subst eo8) | (refine gq 115 (some 15) Tryz.func115 #[.slice Ao8 tq0.length co8] ?_; (with_reducible refine (bT.calls k _ _ tq0 tq1 _ ?side1 ?side2 A4.out).mono ?_); (case side1 => exact pC ((Kd.R_reads' HOq5.out).2.2)); (case side2 => exact (Kd.R_reads' HOq5.out).2.1); rintro e w' ⟨rfl, ⟨nd, rfl⟩⟩; refine ⟨_, rfl, ?_⟩))
 go_ret2
 exact ⟨re_, pB1 HB.out GEq3.out⟩
def aA.l0 : Nat → Int → List Int → Int → Option (Bool)
 | 0, _, _, _ => none
 | k + 1, x0, x1, x5 => if x5 < (x1.length : Int) then (if 0 ≤ x5 then ((a5.f (rd x1 x5) (-1000) 1000).bind fun tq0 => (if tq0 = true then (aA.l0 k x0 x1 (wrap64 (x5 + 1))) else (some false))) else (none)) else ((a5.f x0 0 8).bind fun tq1 => (if tq1 = true then (some ((x1.length : Int) == x0)) else (some false)))
def aA.f (k : Nat) (a0 : Int) (l1 : List Int) : Option (Bool) := aA.l0 k a0 l1 0
theorem aA.calls (k : Nat) (a0 : Int) (A1 : Option Addr) (c1 : Nat) (l1 : List Int) (r : Bool) (w : World) (hr1 : Kd.C (Kd.int .i64) w A1 l1.length l1) (hc1 : l1.length ≤ c1) (h : aA.f k a0 l1 = some r) :
  Calls Tryz.prog 39 #[.int .i64 a0, .slice A1 l1.length c1] w fun e w' => e = .returned (.bool r) ∧ Drawn0 w w' := by
 have HR1 := aQ hr1
 have HC1 := aQ hc1
 clear hr1 hc1
 have H : (aA.l0 k a0 l1 0) = some r := h
 clear h
 have H' := aQ H
 clear H
 go_enter Tryz.func39, Tryz.ntmps39
 go_wp2
 go_loopg [5] k (fun kq v5 w' => ∃ (x5_1 : Int), v5 = .int .i64 x5_1 ∧ Aside0 (aA.l0 kq a0 l1 x5_1 = some r) ∧ Aside0 (kq ≤ k) ∧ Drawn0 w w')
 case atStart => exact ⟨(0), rs_, H', ⟨Nat.le_refl _⟩, rd_⟩
 clear H'
 try clear c1
 obtain ⟨x5_1, rfl, HA, HK1, ⟨m1, rfl⟩⟩ := hrel
 rcases gk with _ | k1
 ·exact absurd HA.out (by simp [aA.l0])
 have H := HA.out
 clear HA
 simp only [aA.l0] at H
 by_cases c3 : x5_1 < (l1.length : Int)
 ·rw [if_pos c3] at H
  have c3b0 := decide_eq_true c3
  clear c3
  replace H := gd H; obtain ⟨c4, H⟩ := H
  have c4b0 := decide_eq_true c4
  clear c4
  replace H := bo H; obtain ⟨tq0, A5, H⟩ := H
  (try dsimp only at H)
  by_cases c6 : tq0 = true
  ·subst c6
   rw [if_pos rfl] at H
   have H' := aQ H
   clear H
   have pq2 : 0 ≤ (x5_1 : Int) := of_decide_eq_true as_
   have qq2 : x5_1 < (l1.length : Int) := of_decide_eq_true as_
   obtain ⟨adq2, eq2, hxq2_0⟩ := Kd.at_int HR1.out x5_1 pq2 qq2
   cases eq2
   replace pq2 := eq_true pq2
   replace qq2 := eq_true qq2
   go_wp2_with (first | (refine gq 116 (some 16) Tryz.func116 #[.int .i64 (rd l1 x5_1), .int .i64 (-1000), .int .i64 1000] ?_; (with_reducible refine (a5.calls (rd l1 x5_1) (-1000) 1000 true _ A5.out).mono ?_); rintro e w' ⟨rfl, ⟨nd, rfl⟩⟩; refine ⟨_, rfl, ?_⟩))
   go_roundg k1
   case measure => have := HK1.out; omega
   case rel => exact ⟨(wrap64 (x5_1 + 1)), rs_, H', ⟨by have := HK1.out; omega⟩, rd_⟩
  ·replace c6 := Bool.eq_false_iff.mpr c6
   subst c6
   have H1 : (some false) = some r := by rw [if_neg (show ¬ (false = true) by decide)] at H; exact H
   clear H
   have H := H1
   clear H1
   obtain rfl := Option.some.inj H
   have pq2 : 0 ≤ (x5_1 : Int) := of_decide_eq_true as_
   have qq2 : x5_1 < (l1.length : Int) := of_decide_eq_true as_
   obtain ⟨adq2, eq2, hxq2_0⟩ := Kd.at_int HR1.out x5_1 pq2 qq2
   cases eq2
   replace pq2 := eq_true pq2
   replace qq2 := eq_true qq2
   go_wp2_with (first | (refine gq 116 (some 16) Tryz.func116 #[.int .i64 (rd l1 x5_1), .int .i64 (-1000), .int .i64 1000] ?_; (with_reducible refine (a5.calls (rd l1 x5_1) (-1000) 1000 false _ A5.out).mono ?_); rintro e w' ⟨rfl, ⟨nd, rfl⟩⟩; refine ⟨_, rfl, ?_⟩))
   go_ret
   exact ⟨rs_, rd_⟩
 ·rw [if_neg c3] at H
  have c3b0 := decide_eq_false c3
  clear c3
  replace H := bo H; obtain ⟨tq1, A7, H⟩ := H
  (try dsimp only at H)
  by_cases c8 : tq1 = true
  ·subst c8
   rw [if_pos rfl] at H
   obtain rfl := Option.some.inj H
   go_wp2_with (first | (refine gq 116 (some 19) Tryz.func116 #[.int .i64 a0, .int .i64 0, .int .i64 8] ?_; (with_reducible refine (a5.calls a0 0 8 true _ A7.out).mono ?_); rintro e w' ⟨rfl, ⟨nd, rfl⟩⟩; refine ⟨_, rfl, ?_⟩))
   go_ret
   exact ⟨rs_, rd_⟩
  ·replace c8 := Bool.eq_false_iff.mpr c8
   subst c8
   have H1 : (some false) = some r := by rw [if_neg (show ¬ (false = true) by decide)] at H; exact H
   clear H
   have H := H1
   clear H1
   obtain rfl := Option.some.inj H
   go_wp2_with (first | (refine gq 116 (some 19) Tryz.func116 #[.int .i64 a0, .int .i64 0, .int .i64 8] ?_; (with_reducible refine (a5.calls a0 0 8 false _ A7.out).mono ?_); rintro e w' ⟨rfl, ⟨nd, rfl⟩⟩; refine ⟨_, rfl, ?_⟩))
   go_ret
   exact ⟨rs_, rd_⟩
def b4.f (k : Nat) (a0_0 : Int) (l0_1 : List Int) : Option (Int) := (aw.f k a0_0 l0_1).bind fun tq0 => (if tq0 = true then (if 0 < (l0_1.length : Int) then ((aY.f k (rd l0_1 0)).bind fun tq1 => (some tq1)) else (none)) else (some (-1)))
theorem b4.calls (k : Nat) (a0_0 : Int) (A0_1 : Option Addr) (c0_1 : Nat) (l0_1 : List Int) (r : Int) (w : World) (hr0_1 : Kd.C (Kd.int .i64) w A0_1 l0_1.length l0_1) (hc0_1 : l0_1.length ≤ c0_1) (h : b4.f k a0_0 l0_1 = some r) :
  Calls Tryz.prog 94 #[.agg #[.int .i64 a0_0, .slice A0_1 l0_1.length c0_1]] w fun e w' => e = .returned (.int .i64 r) ∧ Below w.heap.size w w' := by
 have hu26 := Tryz.underlying26
 have HR0_1 := aQ hr0_1
 have HC0_1 := aQ hc0_1
 clear hr0_1 hc0_1
 have HB := aQ (Below.refl w.heap.size w)
 have H := h
 clear h
 unfold b4.f at H
 (try dsimp only at H)
 replace H := bo H; obtain ⟨tq0, A2, H⟩ := H
 (try dsimp only at H)
 by_cases c3 : tq0 = true
 ·subst c3
  rw [if_pos rfl] at H
  replace H := gd H; obtain ⟨c4, H⟩ := H
  have c4b0 := decide_eq_true c4
  have c4b1 : decide (0 < l0_1.length) = true := decide_eq_true (by omega)
  clear c4
  replace H := bo H; obtain ⟨tq1, A5, H⟩ := H
  (try dsimp only at H)
  obtain rfl := Option.some.inj H
  go_enter Tryz.func94, Tryz.ntmps94
  go_wp2_with (first | ((with_reducible refine af (N := 1) rfl ?_); refine bx 1 #[.int .i64 a0_0, .slice A0_1 l0_1.length c0_1] 26 ?_; intro gbq2 hg w6 hbox hb; have BKq2 := aQ (hbox); have GWq2 := gB HB hg; have GEq2 := gB HB hg; replace HB := bs HB hb; clear hb hbox hg; obtain ⟨hcz7_0, hcz7_1, hfz7_0, hfz7_1⟩ := c2 BKq2) | (refine gq 59 (some 4) Tryz.func59 #[.agg #[.int .i64 a0_0, .slice A0_1 l0_1.length c0_1]] ?_; (with_reducible refine (aw.calls k a0_0 _ _ l0_1 true _ ?side1 ?side2 A2.out).mono ?_); (case side1 => exact pC (Kd.C_below HR0_1.out HB.out)); (case side2 => exact HC0_1.out); rintro e w8 ⟨rfl, hb⟩; refine ⟨_, rfl, ?_⟩; replace BKq2 := bb BKq2 hb; replace HB := bs HB hb; (try clear hb); obtain ⟨hcz9_0, hcz9_1, hfz9_0, hfz9_1⟩ := c2 BKq2; have pq3 : 0 ≤ (0 : Int) := (by omega); have qq3 : 0 < (l0_1.length : Int) := of_decide_eq_true as_; obtain ⟨adq3, eq3, hxq3_0⟩ := Kd.at_int HR0_1.out 0 pq3 qq3; cases eq3; have qiq3 : (0 < l0_1.length) = True := eq_true (by omega); (try rw [show ((0 : Int)).toNat = 0 from rfl] at hxq3_0); (try rw [Addr.add_zero'] at hxq3_0); replace hxq3_0 := (HB.out.cell (World.block_lt_of_cell? w _ hxq3_0)).trans hxq3_0; replace pq3 := eq_true pq3; replace qq3 := eq_true qq3) | (refine gq 22 (some 10) Tryz.func22 #[.int .i64 (rd l0_1 0)] ?_; (with_reducible refine (aY.calls k (rd l0_1 0) tq1 _ A5.out).mono ?_); rintro e w' ⟨rfl, ⟨nd, rfl⟩⟩; refine ⟨_, rfl, ?_⟩))
  go_ret
  exact ⟨re_, pB1 HB.out GEq2.out⟩
 ·replace c3 := Bool.eq_false_iff.mpr c3
  subst c3
  have H1 : (some (-1)) = some r := by rw [if_neg (show ¬ (false = true) by decide)] at H; exact H
  clear H
  have H := H1
  clear H1
  obtain rfl := Option.some.inj H
  go_enter Tryz.func94, Tryz.ntmps94
  go_wp2_with (first | ((with_reducible refine af (N := 1) rfl ?_); refine bx 1 #[.int .i64 a0_0, .slice A0_1 l0_1.length c0_1] 26 ?_; intro gbq2 hg w10 hbox hb; have BKq2 := aQ (hbox); have GWq2 := gB HB hg; have GEq2 := gB HB hg; replace HB := bs HB hb; clear hb hbox hg; obtain ⟨hcz11_0, hcz11_1, hfz11_0, hfz11_1⟩ := c2 BKq2) | (refine gq 59 (some 4) Tryz.func59 #[.agg #[.int .i64 a0_0, .slice A0_1 l0_1.length c0_1]] ?_; (with_reducible refine (aw.calls k a0_0 _ _ l0_1 false _ ?side1 ?side2 A2.out).mono ?_); (case side1 => exact pC (Kd.C_below HR0_1.out HB.out)); (case side2 => exact HC0_1.out); rintro e w12 ⟨rfl, hb⟩; refine ⟨_, rfl, ?_⟩; replace BKq2 := bb BKq2 hb; replace HB := bs HB hb; (try clear hb)))
  go_ret
  exact ⟨re_, pB1 HB.out GEq2.out⟩
def bV.l0 : Nat → Int → Int → Int → Int → List Int → Option (Int)
 | 0, _, _, _, _, _ => none
 | k + 1, x1, x5, x6, x138002000, x138002001 => if x6 < (x138002001.length : Int) then (if 0 ≤ x6 then ((aY.f k (Go.bits .and .i64 (rd x138002001 x6) x1)).bind fun tq0 => ((bM.f x5 tq0).bind fun tq1 => (bV.l0 k x1 tq1 (wrap64 (x6 + 1)) x138002000 x138002001))) else (none)) else (some x5)
def bV.f (k : Nat) (a0_0 : Int) (l0_1 : List Int) (a1 : Int) : Option (Int) := bV.l0 k a1 0 0 a0_0 l0_1
theorem bV.calls (k : Nat) (a0_0 : Int) (A0_1 : Option Addr) (c0_1 : Nat) (l0_1 : List Int) (a1 : Int) (r : Int) (w : World) (hr0_1 : Kd.C (Kd.int .i64) w A0_1 l0_1.length l0_1) (hc0_1 : l0_1.length ≤ c0_1) (h : bV.f k a0_0 l0_1 a1 = some r) :
  Calls Tryz.prog 137 #[.agg #[.int .i64 a0_0, .slice A0_1 l0_1.length c0_1], .int .i64 a1] w fun e w' => e = .returned (.int .i64 r) ∧ Below w.heap.size w w' := by
 have hu26 := Tryz.underlying26
 have HR0_1 := aQ hr0_1
 have HC0_1 := aQ hc0_1
 clear hr0_1 hc0_1
 have HB := aQ (Below.refl w.heap.size w)
 have H : (bV.l0 k a1 0 0 a0_0 l0_1) = some r := h
 clear h
 have H' := aQ H
 clear H
 go_enter Tryz.func137, Tryz.ntmps137
 go_wp2_with (first | ((with_reducible refine af (N := 2) rfl ?_); refine bx 2 #[.int .i64 a0_0, .slice A0_1 l0_1.length c0_1] 26 ?_; intro gbq2 hg w3 hbox hb; have BKq2 := aQ (hbox); have GWq2 := gB HB hg; have GEq2 := gB HB hg; replace HB := bs HB hb; clear hb hbox hg))
 go_loopg [5, 6] k (fun kq v5 v6 w' => ∃ (x5_1 : Int) (x6_1 : Int), v5 = .int .i64 x5_1 ∧ v6 = .int .i64 x6_1 ∧ Aside0 (bV.l0 kq a1 x5_1 x6_1 a0_0 l0_1 = some r) ∧ Aside0 (kq ≤ k) ∧ Aside0 (w'.heap[gbq2]? = some (.cells #[.int .i64 a0_0, (.slice A0_1 l0_1.length c0_1)] 26 (0, 0))) ∧ Aside0 (Below w.heap.size w w'))
 case atStart => exact ⟨(0), (0), rs_, rs_, H', ⟨Nat.le_refl _⟩, ⟨pk BKq2.out⟩, ⟨pB1 HB.out GEq2.out⟩⟩
 clear H'
 obtain ⟨x5_1, x6_1, rfl, rfl, HA, HK1, BKq2, HB⟩ := hrel
 rcases gk with _ | k1
 ·exact absurd HA.out (by simp [bV.l0])
 have H := HA.out
 clear HA
 simp only [bV.l0] at H
 by_cases c4 : x6_1 < (l0_1.length : Int)
 ·rw [if_pos c4] at H
  have c4b0 := decide_eq_true c4
  clear c4
  replace H := gd H; obtain ⟨c5, H⟩ := H
  have c5b0 := decide_eq_true c5
  clear c5
  replace H := bo H; obtain ⟨tq0, A6, H⟩ := H
  (try dsimp only at H)
  replace H := bo H; obtain ⟨tq1, A7, H⟩ := H
  (try dsimp only at H)
  have H' := aQ H
  clear H
  obtain ⟨hcz8_0, hcz8_1, hfz8_0, hfz8_1⟩ := c2 BKq2
  have pq3 : 0 ≤ (x6_1 : Int) := of_decide_eq_true as_
  have qq3 : x6_1 < (l0_1.length : Int) := of_decide_eq_true as_
  obtain ⟨adq3, eq3, hxq3_0⟩ := Kd.at_int HR0_1.out x6_1 pq3 qq3
  cases eq3
  replace hxq3_0 := (HB.out.cell (World.block_lt_of_cell? w _ hxq3_0)).trans hxq3_0
  replace pq3 := eq_true pq3
  replace qq3 := eq_true qq3
  go_wp2_with (first | (refine gq 22 (some 22) Tryz.func22 #[.int .i64 (Go.bits .and .i64 (rd l0_1 x6_1) a1)] ?_; (with_reducible refine (aY.calls k1 (Go.bits .and .i64 (rd l0_1 x6_1) a1) tq0 _ A6.out).mono ?_); rintro e w' ⟨rfl, ⟨nd, rfl⟩⟩; refine ⟨_, rfl, ?_⟩) | (refine gq 107 (some 23) Tryz.func107 #[.int .i64 x5_1, .int .i64 tq0] ?_; (with_reducible refine (bM.calls x5_1 tq0 tq1 _ A7.out).mono ?_); rintro e w' ⟨rfl, ⟨nd, rfl⟩⟩; refine ⟨_, rfl, ?_⟩))
  go_roundg k1
  case measure => have := HK1.out; omega
  case rel => exact ⟨(tq1), (wrap64 (x6_1 + 1)), rs_, rs_, H', ⟨by have := HK1.out; omega⟩, ⟨pk BKq2.out⟩, ⟨pB1 HB.out GEq2.out⟩⟩
 ·rw [if_neg c4] at H
  have c4b0 := decide_eq_false c4
  clear c4
  obtain rfl := Option.some.inj H
  obtain ⟨hcz9_0, hcz9_1, hfz9_0, hfz9_1⟩ := c2 BKq2
  go_wp2
  go_ret
  exact ⟨re_, pB1 HB.out GEq2.out⟩
end Go.Proofs.YtimkekeaeojpkaaGreat.A
namespace Go.Proofs.YtimkekeaeojpkaaGreat.A
open Go.RowKit Go.Proofs.YtimkekeaeojpkaaGreatW.PrintWords Go.Proofs.YtimkekeaeojpkaaGreatW.PrintLast Go.Proofs.YtimkekeaeojpkaaGreatW.PrintMore Go.Proofs.YtimkekeaeojpkaaGreat.Z
attribute [local go_sem] cC cE cW cX co cp cD cG
set_option linter.unusedVariables false
set_option linter.unusedSimpArgs false
mutual
def aC.l0 : Nat → List Int → List Int → Int → Option (List Int)
 | 0, _, _, _ => none
 | k + 1, x0, x3, x4 => if x4 < (x0.length : Int) then (aC.l1 k x0 x3 x4 (x3.length : Int)) else (some x3)
def aC.l1 : Nat → List Int → List Int → Int → Int → Option (List Int)
 | 0, _, _, _, _ => none
 | k + 1, x0, x3, x4, x5 => if x5 > 0 then (if 0 ≤ (wrap64 (x5 - 1)) then (if (wrap64 (x5 - 1)) < (x3.length : Int) then (if 0 ≤ (rd x3 (wrap64 (x5 - 1))) then (if (rd x3 (wrap64 (x5 - 1))) < (x0.length : Int) then (if 0 ≤ x4 then (if x4 < (x0.length : Int) then (if (rd x0 (rd x3 (wrap64 (x5 - 1)))) < (rd x0 x4) then (aC.l1 k x0 x3 x4 (wrap64 (x5 - 1))) else ((some (([] : List Int) : List Int)).bind fun yq0 => (if 0 ≤ x5 then (if x5 ≤ (x3.length : Int) then ((some (x3.drop (x5 : Int).toNat : List Int)).bind fun yq1 => (if yq0.length + yq1.length < 17592186044416 then ((some (yq0 ++ yq1 : List Int)).bind fun yq2 => ((some (x3.take (x5 : Int).toNat : List Int)).bind fun yq3 => (if yq3.length < 17592186044416 then ((some (yq3 ++ [x4] : List Int)).bind fun yq4 => (if yq4.length + yq2.length < 17592186044416 then (aC.l0 k x0 (yq4 ++ yq2) (wrap64 (x4 + 1))) else (none))) else (none)))) else (none))) else (none)) else (none)))) else (none)) else (none)) else (none)) else (none)) else (none)) else (none)) else ((some (([] : List Int) : List Int)).bind fun yq5 => (if 0 ≤ x5 then (if x5 ≤ (x3.length : Int) then ((some (x3.drop (x5 : Int).toNat : List Int)).bind fun yq6 => (if yq5.length + yq6.length < 17592186044416 then ((some (yq5 ++ yq6 : List Int)).bind fun yq7 => ((some (x3.take (x5 : Int).toNat : List Int)).bind fun yq8 => (if yq8.length < 17592186044416 then ((some (yq8 ++ [x4] : List Int)).bind fun yq9 => (if yq9.length + yq7.length < 17592186044416 then (aC.l0 k x0 (yq9 ++ yq7) (wrap64 (x4 + 1))) else (none))) else (none)))) else (none))) else (none)) else (none)))
end
def aC.f (k : Nat) (l0 : List Int) : Option (List Int) := aC.l0 k l0 (([] : List Int)) 0
theorem aC.calls (k : Nat) (A0 : Option Addr) (c0 : Nat) (l0 : List Int) (r : List Int) (w : World) (hr0 : Kd.C (Kd.int .i64) w A0 l0.length l0) (hc0 : l0.length ≤ c0) (h : aC.f k l0 = some r) :
  Calls Tryz.prog 210 #[.slice A0 l0.length c0] w fun e w' => ∃ v0_ : Value, e = .returned (v0_) ∧ Kd.R (Kd.int .i64) 3 w' w.heap.size (fun _ => True) v0_ r ∧ Below w.heap.size w w' := by
 have HR0 := aQ hr0
 have HC0 := aQ hc0
 clear hr0 hc0
 have HB := aQ (Below.refl w.heap.size w)
 have H : (aC.l0 k l0 (([] : List Int)) 0) = some r := h
 clear h
 obtain ⟨yqa, hyqa⟩ : ∃ y_ : List Int, y_ = (([] : List Int)) := ⟨_, rfl⟩
 replace H : (aC.l0 k l0 yqa 0) = some r := by first | (rw [hyqa]; with_reducible exact H) | (rw [hyqa]; exact H)
 have Nyqa := aQ hyqa
 clear hyqa
 have H' := aQ H
 clear H
 go_enter Tryz.func210, Tryz.ntmps210
 go_wp2_with (first | ((with_reducible refine af (N := 7) rfl ?_); refine Kd.R_lit (Kd.int .i64) _ 3 ?hg (N := 7) ?hd (xs := ([] : List Int)) (inner := []) (ok := fun _ => True) (okp := fun _ => True) ?hr ?hp (fun _ hk => hk) trivial (Below.refl _ _) (Nat.le_refl _) (by simp) ?_; (case hd => rfl); (case hg => rfl); (case hr => first | (go_simp; done) | (go_simp; rfl)); (case hp => exact (Reps.none _ _)); intro vqb w2 ho3 hb hg_ hnew_; clear hg_ hnew_; (first | rw [← Nyqa.out] at ho3 | (simp only [Int.reduceToNat] at ho3; rw [← Nyqa.out] at ho3)); have HOqc := aQ (Kd.R_lower ho3 (aa (pB HB.out))); replace HB := bs HB hb; clear hb ho3))
 repeat (go_quiet (first | ((with_reducible refine af (N := 7) rfl ?_); refine Kd.R_lit (Kd.int .i64) _ 3 ?hg (N := 7) ?hd (xs := ([] : List Int)) (inner := []) (ok := fun _ => True) (okp := fun _ => True) ?hr ?hp (fun _ hk => hk) trivial (Below.refl _ _) (Nat.le_refl _) (by simp) ?_; (case hd => rfl); (case hg => rfl); (case hr => first | (go_simp; done) | (go_simp; rfl)); (case hp => exact (Reps.none _ _)); intro vqb w2 ho3 hb hg_ hnew_; clear hg_ hnew_; (first | rw [← Nyqa.out] at ho3 | (simp only [Int.reduceToNat] at ho3; rw [← Nyqa.out] at ho3)); have HOqc := aQ (Kd.R_lower ho3 (aa (pB HB.out))); replace HB := bs HB hb; clear hb ho3)); try go_wp2_with (first | ((with_reducible refine af (N := 7) rfl ?_); refine Kd.R_lit (Kd.int .i64) _ 3 ?hg (N := 7) ?hd (xs := ([] : List Int)) (inner := []) (ok := fun _ => True) (okp := fun _ => True) ?hr ?hp (fun _ hk => hk) trivial (Below.refl _ _) (Nat.le_refl _) (by simp) ?_; (case hd => rfl); (case hg => rfl); (case hr => first | (go_simp; done) | (go_simp; rfl)); (case hp => exact (Reps.none _ _)); intro vqb w2 ho3 hb hg_ hnew_; clear hg_ hnew_; (first | rw [← Nyqa.out] at ho3 | (simp only [Int.reduceToNat] at ho3; rw [← Nyqa.out] at ho3)); have HOqc := aQ (Kd.R_lower ho3 (aa (pB HB.out))); replace HB := bs HB hb; clear hb ho3)))
 go_loopg [3, 4] k (fun kq v3 v4 w' => ∃ (x3_1 : List Int) (x4_1 : Int), v4 = .int .i64 x4_1 ∧ Aside0 (aC.l0 kq l0 x3_1 x4_1 = some r) ∧ Aside0 (kq ≤ k) ∧ Aside0 (Kd.R (Kd.int .i64) 3 w' w.heap.size (fun _ => True) v3 x3_1) ∧ Aside0 (Below w.heap.size w w'))
 case atStart => exact ⟨(yqa), (0), rs_, H', ⟨Nat.le_refl _⟩, ⟨pR HOqc.out⟩, ⟨pB HB.out⟩⟩
 clear H'
 obtain ⟨x3_1, x4_1, rfl, HA, HK1, HO_3, HB⟩ := hrel
 rcases gk with _ | k1
 ·exact absurd HA.out (by simp [aC.l0])
 have H := HA.out
 clear HA
 simp only [aC.l0] at H
 by_cases c4 : x4_1 < (l0.length : Int)
 ·rw [if_pos c4] at H
  have c4b0 := decide_eq_true c4
  clear c4
  have H' := aQ H
  clear H
  obtain ⟨Ao5, co5, eo5⟩ := Kd.R_slice HO_3.out
  subst eo5
  go_wp2
  repeat (go_quiet (fail); try go_wp2)
  go_loopg [5] k1 (fun kq v5 w' => ∃ (x5_2 : Int), v5 = .int .i64 x5_2 ∧ Aside0 (aC.l1 kq l0 x3_1 x4_1 x5_2 = some r) ∧ Aside0 (kq ≤ k1) ∧ Aside0 (Kd.R (Kd.int .i64) 3 w' w.heap.size (fun _ => True) (.slice Ao5 x3_1.length co5) x3_1) ∧ Aside0 (Below w.heap.size w w'))
  case atStart => exact ⟨((x3_1.length : Int)), rs_, H', ⟨Nat.le_refl _⟩, ⟨pR HO_3.out⟩, ⟨pB HB.out⟩⟩
  clear H'
  try clear c4
  try clear c4b0
  obtain ⟨x5_2, rfl, HA, HK2, HO_3, HB⟩ := hrel
  rcases gk with _ | k2
  ·exact absurd HA.out (by simp [aC.l1])
  have H := HA.out
  clear HA
  simp only [aC.l1] at H
  by_cases c6 : x5_2 > 0
  ·rw [if_pos c6] at H
   have c6b0 := decide_eq_true c6
   clear c6
   obtain ⟨ji7, hji7⟩ : ∃ j_ : Int, (wrap64 (x5_2 - 1)) = j_ := ⟨_, rfl⟩
   replace H : (if 0 ≤ (ji7) then (if (ji7) < (x3_1.length : Int) then (if 0 ≤ (rd x3_1 (ji7)) then (if (rd x3_1 (ji7)) < (l0.length : Int) then (if 0 ≤ x4_1 then (if x4_1 < (l0.length : Int) then (if (rd l0 (rd x3_1 (ji7))) < (rd l0 x4_1) then (aC.l1 k2 l0 x3_1 x4_1 ji7) else ((some (([] : List Int) : List Int)).bind fun yq0 => (if 0 ≤ x5_2 then (if x5_2 ≤ (x3_1.length : Int) then ((some (x3_1.drop (x5_2 : Int).toNat : List Int)).bind fun yq1 => (if yq0.length + yq1.length < 17592186044416 then ((some (yq0 ++ yq1 : List Int)).bind fun yq2 => ((some (x3_1.take (x5_2 : Int).toNat : List Int)).bind fun yq3 => (if yq3.length < 17592186044416 then ((some (yq3 ++ [x4_1] : List Int)).bind fun yq4 => (if yq4.length + yq2.length < 17592186044416 then (aC.l0 k2 l0 (yq4 ++ yq2) (wrap64 (x4_1 + 1))) else (none))) else (none)))) else (none))) else (none)) else (none)))) else (none)) else (none)) else (none)) else (none)) else (none)) else (none)) = some r := by first | (rw [hji7] at H; exact H) | (simp only [hji7] at H ⊢; exact H)
   have hji7w : (IntKind.i64.wrap (x5_2 - 1)) = ji7 := (i64_w _).trans hji7
   replace H := gd H; obtain ⟨c8, H⟩ := H
   have c8b0 := decide_eq_true c8
   clear c8
   replace H := gd H; obtain ⟨c9, H⟩ := H
   have c9b0 := decide_eq_true c9
   clear c9
   replace H := gd H; obtain ⟨c10, H⟩ := H
   have c10b0 := decide_eq_true c10
   clear c10
   replace H := gd H; obtain ⟨c11, H⟩ := H
   have c11b0 := decide_eq_true c11
   clear c11
   replace H := gd H; obtain ⟨c12, H⟩ := H
   have c12b0 := decide_eq_true c12
   clear c12
   replace H := gd H; obtain ⟨c13, H⟩ := H
   have c13b0 := decide_eq_true c13
   clear c13
   by_cases c14 : (rd l0 (rd x3_1 (ji7))) < (rd l0 x4_1)
   ·rw [if_pos c14] at H
    have c14b0 := decide_eq_true c14
    clear c14
    have H' := aQ H
    clear H
    have pqd : 0 ≤ ((ji7) : Int) := of_decide_eq_true as_
    have qqd : (ji7) < (x3_1.length : Int) := of_decide_eq_true as_
    obtain ⟨adqd, eqd, hxqd_0⟩ := Kd.at_int (Kd.R_reads' HO_3.out).2.2 (ji7) pqd qqd
    cases eqd
    replace pqd := eq_true pqd
    replace qqd := eq_true qqd
    have pqe : 0 ≤ ((rd x3_1 (ji7)) : Int) := of_decide_eq_true as_
    have qqe : (rd x3_1 (ji7)) < (l0.length : Int) := of_decide_eq_true as_
    obtain ⟨adqe, eqe, hxqe_0⟩ := Kd.at_int HR0.out (rd x3_1 (ji7)) pqe qqe
    cases eqe
    replace hxqe_0 := (HB.out.cell (World.block_lt_of_cell? w _ hxqe_0)).trans hxqe_0
    replace pqe := eq_true pqe
    replace qqe := eq_true qqe
    have pqf : 0 ≤ (x4_1 : Int) := of_decide_eq_true as_
    have qqf : x4_1 < (l0.length : Int) := of_decide_eq_true as_
    obtain ⟨adqf, eqf, hxqf_0⟩ := Kd.at_int HR0.out x4_1 pqf qqf
    obtain rfl : adqe = adqf := (by injection eqf)
    replace hxqf_0 := (HB.out.cell (World.block_lt_of_cell? w _ hxqf_0)).trans hxqf_0
    replace pqf := eq_true pqf
    replace qqf := eq_true qqf
    go_wp2
    repeat (go_quiet (fail); try go_wp2)
    go_roundg k2
    case measure => have := HK1.out; have := HK2.out; omega
    case rel => exact ⟨(ji7), (by first | rfl | (simp; done) | (simp only [← hji7] <;> (first | rfl | simp)) | (simp [*]; done)), H', ⟨by have := HK1.out; have := HK2.out; omega⟩, ⟨pR HO_3.out⟩, ⟨pB HB.out⟩⟩
   ·rw [if_neg c14] at H
    have c14b0 := decide_eq_false c14
    clear c14
    obtain ⟨yq0, hyq0⟩ : ∃ y_ : List Int, y_ = (([] : List Int)) := ⟨_, rfl⟩
    replace H : (if 0 ≤ x5_2 then (if x5_2 ≤ (x3_1.length : Int) then ((some (x3_1.drop (x5_2 : Int).toNat : List Int)).bind fun yq1 => (if yq0.length + yq1.length < 17592186044416 then ((some (yq0 ++ yq1 : List Int)).bind fun yq2 => ((some (x3_1.take (x5_2 : Int).toNat : List Int)).bind fun yq3 => (if yq3.length < 17592186044416 then ((some (yq3 ++ [x4_1] : List Int)).bind fun yq4 => (if yq4.length + yq2.length < 17592186044416 then (aC.l0 k2 l0 (yq4 ++ yq2) (wrap64 (x4_1 + 1))) else (none))) else (none)))) else (none))) else (none)) else (none)) = some r := by first | (rw [hyq0]; with_reducible exact H) | (rw [hyq0]; exact H)
    have Nyq0 := aQ hyq0
    clear hyq0
    replace H := gd H; obtain ⟨c15, H⟩ := H
    have c15b0 := eq_true c15
    have c15b1 := decide_eq_true c15
    clear c15
    replace H := gd H; obtain ⟨c16, H⟩ := H
    have c16b0 := eq_true c16
    have c16b1 := decide_eq_true c16
    clear c16
    obtain ⟨yq1, hyq1⟩ : ∃ y_ : List Int, y_ = (x3_1.drop (x5_2 : Int).toNat) := ⟨_, rfl⟩
    replace H : (if yq0.length + yq1.length < 17592186044416 then ((some (yq0 ++ yq1 : List Int)).bind fun yq2 => ((some (x3_1.take (x5_2 : Int).toNat : List Int)).bind fun yq3 => (if yq3.length < 17592186044416 then ((some (yq3 ++ [x4_1] : List Int)).bind fun yq4 => (if yq4.length + yq2.length < 17592186044416 then (aC.l0 k2 l0 (yq4 ++ yq2) (wrap64 (x4_1 + 1))) else (none))) else (none)))) else (none)) = some r := by first | (rw [hyq1]; with_reducible exact H) | (rw [hyq1]; exact H)
    have Nyq1 := aQ hyq1
    clear hyq1
    replace H := gd H; obtain ⟨c17, H⟩ := H
    have LMc17 := aQ c17
    clear c17
    obtain ⟨yq2, hyq2⟩ : ∃ y_ : List Int, y_ = (yq0 ++ yq1) := ⟨_, rfl⟩
    replace H : ((some (x3_1.take (x5_2 : Int).toNat : List Int)).bind fun yq3 => (if yq3.length < 17592186044416 then ((some (yq3 ++ [x4_1] : List Int)).bind fun yq4 => (if yq4.length + yq2.length < 17592186044416 then (aC.l0 k2 l0 (yq4 ++ yq2) (wrap64 (x4_1 + 1))) else (none))) else (none))) = some r := by first | (rw [hyq2]; with_reducible exact H) | (rw [hyq2]; exact H)
    have Nyq2 := aQ hyq2
    clear hyq2
    have c18b0 := eq_true (of_decide_eq_true as_ : x5_2 ≤ (x3_1.length : Int))
    obtain ⟨yq3, hyq3⟩ : ∃ y_ : List Int, y_ = (x3_1.take (x5_2 : Int).toNat) := ⟨_, rfl⟩
    replace H := yy hyq3 H
    (try dsimp only at H)
    have Nyq3 := aQ hyq3
    clear hyq3
    replace H := gd H; obtain ⟨c19, H⟩ := H
    have LMc19 := aQ c19
    clear c19
    obtain ⟨yq4, hyq4⟩ : ∃ y_ : List Int, y_ = (yq3 ++ [x4_1]) := ⟨_, rfl⟩
    replace H : (if yq4.length + yq2.length < 17592186044416 then (aC.l0 k2 l0 (yq4 ++ yq2) (wrap64 (x4_1 + 1))) else (none)) = some r := by first | (rw [hyq4]; with_reducible exact H) | (rw [hyq4]; exact H)
    have Nyq4 := aQ hyq4
    clear hyq4
    replace H := gd H; obtain ⟨c20, H⟩ := H
    have LMc20 := aQ c20
    clear c20
    obtain ⟨yqg, hyqg⟩ : ∃ y_ : List Int, y_ = (yq4 ++ yq2) := ⟨_, rfl⟩
    replace H : (aC.l0 k2 l0 yqg (wrap64 (x4_1 + 1))) = some r := by first | (rw [hyqg]; with_reducible exact H) | (rw [hyqg]; exact H)
    have Nyqg := aQ hyqg
    clear hyqg
    have H' := aQ H
    clear H
    have pqd : 0 ≤ ((ji7) : Int) := of_decide_eq_true as_
    have qqd : (ji7) < (x3_1.length : Int) := of_decide_eq_true as_
    obtain ⟨adqd, eqd, hxqd_0⟩ := Kd.at_int (Kd.R_reads' HO_3.out).2.2 (ji7) pqd qqd
    cases eqd
    replace pqd := eq_true pqd
    replace qqd := eq_true qqd
    have pqe : 0 ≤ ((rd x3_1 (ji7)) : Int) := of_decide_eq_true as_
    have qqe : (rd x3_1 (ji7)) < (l0.length : Int) := of_decide_eq_true as_
    obtain ⟨adqe, eqe, hxqe_0⟩ := Kd.at_int HR0.out (rd x3_1 (ji7)) pqe qqe
    cases eqe
    replace hxqe_0 := (HB.out.cell (World.block_lt_of_cell? w _ hxqe_0)).trans hxqe_0
    replace pqe := eq_true pqe
    replace qqe := eq_true qqe
    have pqf : 0 ≤ (x4_1 : Int) := of_decide_eq_true as_
    have qqf : x4_1 < (l0.length : Int) := of_decide_eq_true as_
    obtain ⟨adqf, eqf, hxqf_0⟩ := Kd.at_int HR0.out x4_1 pqf qqf
    obtain rfl : adqe = adqf := (by injection eqf)
    replace hxqf_0 := (HB.out.cell (World.block_lt_of_cell? w _ hxqf_0)).trans hxqf_0
    replace pqf := eq_true pqf
    replace qqf := eq_true qqf
    go_wp2_with (first | ((with_reducible refine af (N := 35) rfl ?_); refine Kd.R_lit (Kd.int .i64) _ 3 ?hg (N := 35) ?hd (xs := ([] : List Int)) (inner := []) (ok := fun _ => True) (okp := fun _ => True) ?hr ?hp (fun _ hk => hk) trivial (Below.refl _ _) (Nat.le_refl _) (by simp) ?_; (case hd => rfl); (case hg => rfl); (case hr => first | (go_simp; done) | (go_simp; rfl)); (case hp => exact (Reps.none _ _)); intro vqh w21 ho22 hb hg_ hnew_; clear hg_ hnew_; (first | rw [← Nyq0.out] at ho22 | (simp only [Int.reduceToNat] at ho22; rw [← Nyq0.out] at ho22)); have HOqi := aQ (Kd.R_lower (Kd.R_new' ho22 (Kd.R_lt (pR HO_3.out))) (aa (pB HB.out))); replace HO_3 := aQ (Kd.R_elder' (pR HO_3.out) (Kd.R_base ho22) hb); replace HB := bs HB hb; clear hb ho22; have q23 : (x5_2 : Int) ≤ ((x3_1.length : Int) : Int) := of_decide_eq_true as_; obtain ⟨i023, hi023, _, hsz23, _⟩ := info_parts bR; have hroom23 : x3_1.length ≤ co5 := (Kd.R_reads' HO_3.out).2.1; have hC23 : Kd.C (Kd.int .i64) _ (some adqd) x3_1.length x3_1 := (Kd.R_reads' HO_3.out).2.2; have q023 : (0 : Int) ≤ (x5_2 : Int) := of_decide_eq_true as_; have hcut23 := dK (P := Tryz.prog) 24 3 .i64 Tryz.underlying24 hi023 1 hsz23 (some adqd) x3_1.length co5 x5_2 q023 q23; have hr23 := Kd.C_drop (m := (x5_2 : Int).toNat) (c := co5) hC23 (by omega) hroom23; obtain ⟨A23, hA23⟩ : ∃ A1, A1 = (if co5 = (x5_2 : Int).toNat then (some adqd) else ((some adqd) : Option Addr).map (·.add ((x5_2 : Int).toNat * 1))) := ⟨_, rfl⟩; obtain ⟨c23, hc23⟩ : ∃ c1, c1 = co5 - (x5_2 : Int).toNat := ⟨_, rfl⟩; have hy23 : yq1.length = x3_1.length - (x5_2 : Int).toNat := (by rw [Nyq1.out, List.length_drop] <;> omega); rw [show (x3_1).drop (x5_2 : Int).toNat = yq1 from Nyq1.out.symm] at hr23; replace hr23 : Kd.C (Kd.int .i64) _ A23 yq1.length yq1 := (by rw [hA23]; exact hr23); rw [← hy23, ← hA23, ← hc23] at hcut23; have HRqj := aQ hr23; have HCqj := aQ (show yq1.length ≤ c23 from by rw [hy23, hc23]; exact Nat.sub_le_sub_right hroom23 _); clear hr23 hC23 hroom23 hi023 hsz23 hc23; have KY23 := aQ hy23; have KA23 := aQ hA23; clear hy23 hA23; have KL23 := aQ (show (x5_2 : Int).toNat ≤ x3_1.length from by omega); replace q23 := eq_true q23) | ((with_reducible refine aW (b := .append) (xs := #[.tmp 35, .tmp 38]) rfl ?_); at_builtin; refine Kd.R_append_rows (Kd.int .i64) (w0 := w) w.heap.size rfl (.tmp 35) (.tmp 38) 24 3 (.int .i64 0) 8 rfl Tryz.underlying24 bR rfl (by decide) (by omega) vqh yq0 yq1 _ _ _ (fun k_ => some k_ ≠ (.slice (some adqd) x3_1.length co5 : Value).ownBlock) (fun _ => False) rfl rfl ?aO ?aR (fun _ _ h => h) (fun _ h => h.elim) ?aF ?aB ?aS ?aL ?_; (case aR => exact pC ((by repeat (first | (with_reducible exact HRqj.out) | (with_reducible refine Kd.C_alloc ?_ _) | (with_reducible refine Kd.C_drewN ?_ _) | (with_reducible refine Kd.C_drew ?_) | exact HRqj.out)))); (case aB => exact (pB HB.out)); (case aF => exact (fun k_ hk => Kd.fresh' (Kd.R_lt (pR HO_3.out)) k_ hk)); (case aO => exact (by refine pRx ?_; exact Kd.R_mono HOqi.out (fun _ hk => hk.2))); (case aS => exact (aa (pB HB.out))); (case aL => have := LMc17.out; omega); intro vqk w24 ho hb hg hat; rw [← Nyq2.out] at ho; replace HB := aQ (hb); replace HRqj := aQ ((show Kd.C (Kd.int .i64) w24 A23 yq1.length yq1 from by rw [Nyq1.out, KA23.out]; exact Kd.C_drop (m := (x5_2 : Int).toNat) (c := co5) ((Kd.R_reads' (Kd.R_after (ok := (fun _ => True)) (pR HO_3.out) hg hat)).2.2) KL23.out ((Kd.R_reads' (Kd.R_after (ok := (fun _ => True)) (pR HO_3.out) hg hat)).2.1))); replace HO_3 := aQ (Kd.R_after (ok := (fun _ => True)) (pR HO_3.out) hg hat); have HOql := aQ (ho); clear HOqi; clear ho hb hg hat; have q25 : (x5_2 : Int) ≤ ((x3_1.length : Int) : Int) := of_decide_eq_true as_; obtain ⟨i025, hi025, _, hsz25, _⟩ := info_parts bR; have hcut25 := eA (P := Tryz.prog) 24 3 .i64 Tryz.underlying24 hi025 (some adqd) x3_1.length co5 x5_2 (of_decide_eq_true as_) q25 (Kd.R_reads' HO_3.out).2.1; have hr25 := Kd.R_take (m := (x5_2 : Int).toNat) HO_3.out (by omega); have hy25 : yq3.length = (x5_2 : Int).toNat := (by rw [Nyq3.out, List.length_take]; omega); rw [← Nyq3.out] at hr25; rw [← hy25] at hr25 hcut25; clear hy25 hi025 hsz25 HO_3; have HOqm := aQ hr25; clear hr25; replace q25 := eq_true q25) | ((with_reducible refine aW (b := .append) (xs := #[.tmp 42, .tmp 44]) rfl ?_); at_builtin; refine Kd.R_append (Kd.int .i64) (w0 := w) w.heap.size rfl (.tmp 42) (.tmp 44) 24 3 (.int .i64 0) 8 rfl Tryz.underlying24 bR rfl (by decide) (by omega) (.slice (some adqd) yq3.length co5) yq3 x4_1 [.int .i64 x4_1] (fun k_ => some k_ ≠ (vqk : Value).ownBlock) (fun _ => False) rfl rfl ?aP (fun _ hk => hk.elim) ?aF ?aO ?aB ?aS ?aL ?_; (case aP => exact rfl); (case aB => exact (pB HB.out)); (case aF => exact (fun k_ hk => Kd.fresh' (Kd.R_lt (pR HOql.out)) k_ hk)); (case aO => exact (by refine pRx ?_; exact Kd.R_mono HOqm.out (fun _ hk => hk.2))); (case aS => exact (aa (pB HB.out))); (case aL => have := LMc19.out; omega); intro vqn w26 ho hb hg hat; rw [← Nyq4.out] at ho; replace HOql := aQ (Kd.R_after (ok := (fun _ => True)) (by refine pRx ?_; exact Kd.R_mono HOql.out (fun _ hk => ⟨trivial, by first | exact hk | exact fun h_ => hk (h_.trans (eT _ _ _ _))⟩)) hg hat); replace HB := aQ (hb); have HOqo := aQ (ho); clear HOqm; clear ho hb hg hat; obtain ⟨Ao28, co28, eo28⟩ := Kd.R_slice HOql.out; subst eo28) | ((with_reducible refine aW (b := .append) (xs := #[.tmp 45, .tmp 46]) rfl ?_); at_builtin; refine Kd.R_append_rows (Kd.int .i64) (w0 := w) w.heap.size rfl (.tmp 45) (.tmp 46) 24 3 (.int .i64 0) 8 rfl Tryz.underlying24 bR rfl (by decide) (by omega) vqn yq4 yq2 _ _ _ (fun k_ => some k_ ≠ (.slice Ao28 yq2.length co28 : Value).ownBlock) (fun _ => False) rfl rfl ?aO ?aR (fun _ _ h => h) (fun _ h => h.elim) ?aF ?aB ?aS ?aL ?_; (case aR => exact pC ((Kd.R_reads' HOql.out).2.2)); (case aB => exact (pB HB.out)); (case aF => exact (fun k_ hk => Kd.fresh' (Kd.R_lt (pR HOql.out)) k_ hk)); (case aO => exact (pR HOqo.out)); (case aS => exact (aa (pB HB.out))); (case aL => have := LMc20.out; omega); intro vqp w27 ho hb hg hat; rw [← Nyqg.out] at ho; replace HOql := aQ (Kd.R_after (ok := (fun _ => True)) (pR HOql.out) hg hat); replace HB := aQ (hb); have HOqq := aQ (ho); clear HOqo; clear ho hb hg hat))
    repeat (go_quiet (first | ((with_reducible refine af (N := 35) rfl ?_); refine Kd.R_lit (Kd.int .i64) _ 3 ?hg (N := 35) ?hd (xs := ([] : List Int)) (inner := []) (ok := fun _ => True) (okp := fun _ => True) ?hr ?hp (fun _ hk => hk) trivial (Below.refl _ _) (Nat.le_refl _) (by simp) ?_; (case hd => rfl); (case hg => rfl); (case hr => first | (go_simp; done) | (go_simp; rfl)); (case hp => exact (Reps.none _ _)); intro vqh w21 ho22 hb hg_ hnew_; clear hg_ hnew_; (first | rw [← Nyq0.out] at ho22 | (simp only [Int.reduceToNat] at ho22; rw [← Nyq0.out] at ho22)); have HOqi := aQ (Kd.R_lower (Kd.R_new' ho22 (Kd.R_lt (pR HO_3.out))) (aa (pB HB.out))); replace HO_3 := aQ (Kd.R_elder' (pR HO_3.out) (Kd.R_base ho22) hb); replace HB := bs HB hb; clear hb ho22; have q23 : (x5_2 : Int) ≤ ((x3_1.length : Int) : Int) := of_decide_eq_true as_; obtain ⟨i023, hi023, _, hsz23, _⟩ := info_parts bR; have hroom23 : x3_1.length ≤ co5 := (Kd.R_reads' HO_3.out).2.1; have hC23 : Kd.C (Kd.int .i64) _ (some adqd) x3_1.length x3_1 := (Kd.R_reads' HO_3.out).2.2; have q023 : (0 : Int) ≤ (x5_2 : Int) := of_decide_eq_true as_; have hcut23 := dK (P := Tryz.prog) 24 3 .i64 Tryz.underlying24 hi023 1 hsz23 (some adqd) x3_1.length co5 x5_2 q023 q23; have hr23 := Kd.C_drop (m := (x5_2 : Int).toNat) (c := co5) hC23 (by omega) hroom23; obtain ⟨A23, hA23⟩ : ∃ A1, A1 = (if co5 = (x5_2 : Int).toNat then (some adqd) else ((some adqd) : Option Addr).map (·.add ((x5_2 : Int).toNat * 1))) := ⟨_, rfl⟩; obtain ⟨c23, hc23⟩ : ∃ c1, c1 = co5 - (x5_2 : Int).toNat := ⟨_, rfl⟩; have hy23 : yq1.length = x3_1.length - (x5_2 : Int).toNat := (by rw [Nyq1.out, List.length_drop] <;> omega); rw [show (x3_1).drop (x5_2 : Int).toNat = yq1 from Nyq1.out.symm] at hr23; replace hr23 : Kd.C (Kd.int .i64) _ A23 yq1.length yq1 := (by rw [hA23]; exact hr23); rw [← hy23, ← hA23, ← hc23] at hcut23; have HRqj := aQ hr23; have HCqj := aQ (show yq1.length ≤ c23 from by rw [hy23, hc23]; exact Nat.sub_le_sub_right hroom23 _); clear hr23 hC23 hroom23 hi023 hsz23 hc23; have KY23 := aQ hy23; have KA23 := aQ hA23; clear hy23 hA23; have KL23 := aQ (show (x5_2 : Int).toNat ≤ x3_1.length from by omega); replace q23 := eq_true q23) | ((with_reducible refine aW (b := .append) (xs := #[.tmp 35, .tmp 38]) rfl ?_); at_builtin; refine Kd.R_append_rows (Kd.int .i64) (w0 := w) w.heap.size rfl (.tmp 35) (.tmp 38) 24 3 (.int .i64 0) 8 rfl Tryz.underlying24 bR rfl (by decide) (by omega) vqh yq0 yq1 _ _ _ (fun k_ => some k_ ≠ (.slice (some adqd) x3_1.length co5 : Value).ownBlock) (fun _ => False) rfl rfl ?aO ?aR (fun _ _ h => h) (fun _ h => h.elim) ?aF ?aB ?aS ?aL ?_; (case aR => exact pC ((by repeat (first | (with_reducible exact HRqj.out) | (with_reducible refine Kd.C_alloc ?_ _) | (with_reducible refine Kd.C_drewN ?_ _) | (with_reducible refine Kd.C_drew ?_) | exact HRqj.out)))); (case aB => exact (pB HB.out)); (case aF => exact (fun k_ hk => Kd.fresh' (Kd.R_lt (pR HO_3.out)) k_ hk)); (case aO => exact (by refine pRx ?_; exact Kd.R_mono HOqi.out (fun _ hk => hk.2))); (case aS => exact (aa (pB HB.out))); (case aL => have := LMc17.out; omega); intro vqk w24 ho hb hg hat; rw [← Nyq2.out] at ho; replace HB := aQ (hb); replace HRqj := aQ ((show Kd.C (Kd.int .i64) w24 A23 yq1.length yq1 from by rw [Nyq1.out, KA23.out]; exact Kd.C_drop (m := (x5_2 : Int).toNat) (c := co5) ((Kd.R_reads' (Kd.R_after (ok := (fun _ => True)) (pR HO_3.out) hg hat)).2.2) KL23.out ((Kd.R_reads' (Kd.R_after (ok := (fun _ => True)) (pR HO_3.out) hg hat)).2.1))); replace HO_3 := aQ (Kd.R_after (ok := (fun _ => True)) (pR HO_3.out) hg hat); have HOql := aQ (ho); clear HOqi; clear ho hb hg hat; have q25 : (x5_2 : Int) ≤ ((x3_1.length : Int) : Int) := of_decide_eq_true as_; obtain ⟨i025, hi025, _, hsz25, _⟩ := info_parts bR; have hcut25 := eA (P := Tryz.prog) 24 3 .i64 Tryz.underlying24 hi025 (some adqd) x3_1.length co5 x5_2 (of_decide_eq_true as_) q25 (Kd.R_reads' HO_3.out).2.1; have hr25 := Kd.R_take (m := (x5_2 : Int).toNat) HO_3.out (by omega); have hy25 : yq3.length = (x5_2 : Int).toNat := (by rw [Nyq3.out, List.length_take]; omega); rw [← Nyq3.out] at hr25; rw [← hy25] at hr25 hcut25; clear hy25 hi025 hsz25 HO_3; have HOqm := aQ hr25; clear hr25; replace q25 := eq_true q25) | ((with_reducible refine aW (b := .append) (xs := #[.tmp 42, .tmp 44]) rfl ?_); at_builtin; refine Kd.R_append (Kd.int .i64) (w0 := w) w.heap.size rfl (.tmp 42) (.tmp 44) 24 3 (.int .i64 0) 8 rfl Tryz.underlying24 bR rfl (by decide) (by omega) (.slice (some adqd) yq3.length co5) yq3 x4_1 [.int .i64 x4_1] (fun k_ => some k_ ≠ (vqk : Value).ownBlock) (fun _ => False) rfl rfl ?aP (fun _ hk => hk.elim) ?aF ?aO ?aB ?aS ?aL ?_; (case aP => exact rfl); (case aB => exact (pB HB.out)); (case aF => exact (fun k_ hk => Kd.fresh' (Kd.R_lt (pR HOql.out)) k_ hk)); (case aO => exact (by refine pRx ?_; exact Kd.R_mono HOqm.out (fun _ hk => hk.2))); (case aS => exact (aa (pB HB.out))); (case aL => have := LMc19.out; omega); intro vqn w26 ho hb hg hat; rw [← Nyq4.out] at ho; replace HOql := aQ (Kd.R_after (ok := (fun _ => True)) (by refine pRx ?_; exact Kd.R_mono HOql.out (fun _ hk => ⟨trivial, by first | exact hk | exact fun h_ => hk (h_.trans (eT _ _ _ _))⟩)) hg hat); replace HB := aQ (hb); have HOqo := aQ (ho); clear HOqm; clear ho hb hg hat; obtain ⟨Ao28, co28, eo28⟩ := Kd.R_slice HOql.out; subst eo28) | ((with_reducible refine aW (b := .append) (xs := #[.tmp 45, .tmp 46]) rfl ?_); at_builtin; refine Kd.R_append_rows (Kd.int .i64) (w0 := w) w.heap.size rfl (.tmp 45) (.tmp 46) 24 3 (.int .i64 0) 8 rfl Tryz.underlying24 bR rfl (by decide) (by omega) vqn yq4 yq2 _ _ _ (fun k_ => some k_ ≠ (.slice Ao28 yq2.length co28 : Value).ownBlock) (fun _ => False) rfl rfl ?aO ?aR (fun _ _ h => h) (fun _ h => h.elim) ?aF ?aB ?aS ?aL ?_; (case aR => exact pC ((Kd.R_reads' HOql.out).2.2)); (case aB => exact (pB HB.out)); (case aF => exact (fun k_ hk => Kd.fresh' (Kd.R_lt (pR HOql.out)) k_ hk)); (case aO => exact (pR HOqo.out)); (case aS => exact (aa (pB HB.out))); (case aL => have := LMc20.out; omega); intro vqp w27 ho hb hg hat; rw [← Nyqg.out] at ho; replace HOql := aQ (Kd.R_after (ok := (fun _ => True)) (pR HOql.out) hg hat); replace HB := aQ (hb); have HOqq := aQ (ho); clear HOqo; clear ho hb hg hat)); try go_wp2_with (first | ((with_reducible refine af (N := 35) rfl ?_); refine Kd.R_lit (Kd.int .i64) _ 3 ?hg (N := 35) ?hd (xs := ([] : List Int)) (inner := []) (ok := fun _ => True) (okp := fun _ => True) ?hr ?hp (fun _ hk => hk) trivial (Below.refl _ _) (Nat.le_refl _) (by simp) ?_; (case hd => rfl); (case hg => rfl); (case hr => first | (go_simp; done) | (go_simp; rfl)); (case hp => exact (Reps.none _ _)); intro vqh w21 ho22 hb hg_ hnew_; clear hg_ hnew_; (first | rw [← Nyq0.out] at ho22 | (simp only [Int.reduceToNat] at ho22; rw [← Nyq0.out] at ho22)); have HOqi := aQ (Kd.R_lower (Kd.R_new' ho22 (Kd.R_lt (pR HO_3.out))) (aa (pB HB.out))); replace HO_3 := aQ (Kd.R_elder' (pR HO_3.out) (Kd.R_base ho22) hb); replace HB := bs HB hb; clear hb ho22; have q23 : (x5_2 : Int) ≤ ((x3_1.length : Int) : Int) := of_decide_eq_true as_; obtain ⟨i023, hi023, _, hsz23, _⟩ := info_parts bR; have hroom23 : x3_1.length ≤ co5 := (Kd.R_reads' HO_3.out).2.1; have hC23 : Kd.C (Kd.int .i64) _ (some adqd) x3_1.length x3_1 := (Kd.R_reads' HO_3.out).2.2; have q023 : (0 : Int) ≤ (x5_2 : Int) := of_decide_eq_true as_; have hcut23 := dK (P := Tryz.prog) 24 3 .i64 Tryz.underlying24 hi023 1 hsz23 (some adqd) x3_1.length co5 x5_2 q023 q23; have hr23 := Kd.C_drop (m := (x5_2 : Int).toNat) (c := co5) hC23 (by omega) hroom23; obtain ⟨A23, hA23⟩ : ∃ A1, A1 = (if co5 = (x5_2 : Int).toNat then (some adqd) else ((some adqd) : Option Addr).map (·.add ((x5_2 : Int).toNat * 1))) := ⟨_, rfl⟩; obtain ⟨c23, hc23⟩ : ∃ c1, c1 = co5 - (x5_2 : Int).toNat := ⟨_, rfl⟩; have hy23 : yq1.length = x3_1.length - (x5_2 : Int).toNat := (by rw [Nyq1.out, List.length_drop] <;> omega); rw [show (x3_1).drop (x5_2 : Int).toNat = yq1 from Nyq1.out.symm] at hr23; replace hr23 : Kd.C (Kd.int .i64) _ A23 yq1.length yq1 := (by rw [hA23]; exact hr23); rw [← hy23, ← hA23, ← hc23] at hcut23; have HRqj := aQ hr23; have HCqj := aQ (show yq1.length ≤ c23 from by rw [hy23, hc23]; exact Nat.sub_le_sub_right hroom23 _); clear hr23 hC23 hroom23 hi023 hsz23 hc23; have KY23 := aQ hy23; have KA23 := aQ hA23; clear hy23 hA23; have KL23 := aQ (show (x5_2 : Int).toNat ≤ x3_1.length from by omega); replace q23 := eq_true q23) | ((with_reducible refine aW (b := .append) (xs := #[.tmp 35, .tmp 38]) rfl ?_); at_builtin; refine Kd.R_append_rows (Kd.int .i64) (w0 := w) w.heap.size rfl (.tmp 35) (.tmp 38) 24 3 (.int .i64 0) 8 rfl Tryz.underlying24 bR rfl (by decide) (by omega) vqh yq0 yq1 _ _ _ (fun k_ => some k_ ≠ (.slice (some adqd) x3_1.length co5 : Value).ownBlock) (fun _ => False) rfl rfl ?aO ?aR (fun _ _ h => h) (fun _ h => h.elim) ?aF ?aB ?aS ?aL ?_; (case aR => exact pC ((by repeat (first | (with_reducible exact HRqj.out) | (with_reducible refine Kd.C_alloc ?_ _) | (with_reducible refine Kd.C_drewN ?_ _) | (with_reducible refine Kd.C_drew ?_) | exact HRqj.out)))); (case aB => exact (pB HB.out)); (case aF => exact (fun k_ hk => Kd.fresh' (Kd.R_lt (pR HO_3.out)) k_ hk)); (case aO => exact (by refine pRx ?_; exact Kd.R_mono HOqi.out (fun _ hk => hk.2))); (case aS => exact (aa (pB HB.out))); (case aL => have := LMc17.out; omega); intro vqk w24 ho hb hg hat; rw [← Nyq2.out] at ho; replace HB := aQ (hb); replace HRqj := aQ ((show Kd.C (Kd.int .i64) w24 A23 yq1.length yq1 from by rw [Nyq1.out, KA23.out]; exact Kd.C_drop (m := (x5_2 : Int).toNat) (c := co5) ((Kd.R_reads' (Kd.R_after (ok := (fun _ => True)) (pR HO_3.out) hg hat)).2.2) KL23.out ((Kd.R_reads' (Kd.R_after (ok := (fun _ => True)) (pR HO_3.out) hg hat)).2.1))); replace HO_3 := aQ (Kd.R_after (ok := (fun _ => True)) (pR HO_3.out) hg hat); have HOql := aQ (ho); clear HOqi; clear ho hb hg hat; have q25 : (x5_2 : Int) ≤ ((x3_1.length : Int) : Int) := of_decide_eq_true as_; obtain ⟨i025, hi025, _, hsz25, _⟩ := info_parts bR; have hcut25 := eA (P := Tryz.prog) 24 3 .i64 Tryz.underlying24 hi025 (some adqd) x3_1.length co5 x5_2 (of_decide_eq_true as_) q25 (Kd.R_reads' HO_3.out).2.1; have hr25 := Kd.R_take (m := (x5_2 : Int).toNat) HO_3.out (by omega); have hy25 : yq3.length = (x5_2 : Int).toNat := (by rw [Nyq3.out, List.length_take]; omega); rw [← Nyq3.out] at hr25; rw [← hy25] at hr25 hcut25; clear hy25 hi025 hsz25 HO_3; have HOqm := aQ hr25; clear hr25; replace q25 := eq_true q25) | ((with_reducible refine aW (b := .append) (xs := #[.tmp 42, .tmp 44]) rfl ?_); at_builtin; refine Kd.R_append (Kd.int .i64) (w0 := w) w.heap.size rfl (.tmp 42) (.tmp 44) 24 3 (.int .i64 0) 8 rfl Tryz.underlying24 bR rfl (by decide) (by omega) (.slice (some adqd) yq3.length co5) yq3 x4_1 [.int .i64 x4_1] (fun k_ => some k_ ≠ (vqk : Value).ownBlock) (fun _ => False) rfl rfl ?aP (fun _ hk => hk.elim) ?aF ?aO ?aB ?aS ?aL ?_; (case aP => exact rfl); (case aB => exact (pB HB.out)); (case aF => exact (fun k_ hk => Kd.fresh' (Kd.R_lt (pR HOql.out)) k_ hk)); (case aO => exact (by refine pRx ?_; exact Kd.R_mono HOqm.out (fun _ hk => hk.2))); (case aS => exact (aa (pB HB.out))); (case aL => have := LMc19.out; omega); intro vqn w26 ho hb hg hat; rw [← Nyq4.out] at ho; replace HOql := aQ (Kd.R_after (ok := (fun _ => True)) (by refine pRx ?_; exact Kd.R_mono HOql.out (fun _ hk => ⟨trivial, by first | exact hk | exact fun h_ => hk (h_.trans (eT _ _ _ _))⟩)) hg hat); replace HB := aQ (hb); have HOqo := aQ (ho); clear HOqm; clear ho hb hg hat; obtain ⟨Ao28, co28, eo28⟩ := Kd.R_slice HOql.out; subst eo28) | ((with_reducible refine aW (b := .append) (xs := #[.tmp 45, .tmp 46]) rfl ?_); at_builtin; refine Kd.R_append_rows (Kd.int .i64) (w0 := w) w.heap.size rfl (.tmp 45) (.tmp 46) 24 3 (.int .i64 0) 8 rfl Tryz.underlying24 bR rfl (by decide) (by omega) vqn yq4 yq2 _ _ _ (fun k_ => some k_ ≠ (.slice Ao28 yq2.length co28 : Value).ownBlock) (fun _ => False) rfl rfl ?aO ?aR (fun _ _ h => h) (fun _ h => h.elim) ?aF ?aB ?aS ?aL ?_; (case aR => exact pC ((Kd.R_reads' HOql.out).2.2)); (case aB => exact (pB HB.out)); (case aF => exact (fun k_ hk => Kd.fresh' (Kd.R_lt (pR HOql.out)) k_ hk)); (case aO => exact (pR HOqo.out)); (case aS => exact (aa (pB HB.out))); (case aL => have := LMc20.out; omega); intro vqp w27 ho hb hg hat; rw [← Nyqg.out] at ho; replace HOql := aQ (Kd.R_after (ok := (fun _ => True)) (pR HOql.out) hg hat); replace HB := aQ (hb); have HOqq := aQ (ho); clear HOqo; clear ho hb hg hat)))
    go_roundg k2
    case measure => have := HK1.out; have := HK2.out; omega
    case rel => exact ⟨(yqg), (wrap64 (x4_1 + 1)), rs_, H', ⟨by have := HK1.out; have := HK2.out; omega⟩, ⟨by refine pRx ?_; exact Kd.R_mono HOqq.out (fun _ hk => trivial)⟩, ⟨pB HB.out⟩⟩
  ·rw [if_neg c6] at H
   have c6b0 := decide_eq_false c6
   clear c6
   obtain ⟨yq5, hyq5⟩ : ∃ y_ : List Int, y_ = (([] : List Int)) := ⟨_, rfl⟩
   replace H : (if 0 ≤ x5_2 then (if x5_2 ≤ (x3_1.length : Int) then ((some (x3_1.drop (x5_2 : Int).toNat : List Int)).bind fun yq6 => (if yq5.length + yq6.length < 17592186044416 then ((some (yq5 ++ yq6 : List Int)).bind fun yq7 => ((some (x3_1.take (x5_2 : Int).toNat : List Int)).bind fun yq8 => (if yq8.length < 17592186044416 then ((some (yq8 ++ [x4_1] : List Int)).bind fun yq9 => (if yq9.length + yq7.length < 17592186044416 then (aC.l0 k2 l0 (yq9 ++ yq7) (wrap64 (x4_1 + 1))) else (none))) else (none)))) else (none))) else (none)) else (none)) = some r := by first | (rw [hyq5]; with_reducible exact H) | (rw [hyq5]; exact H)
   have Nyq5 := aQ hyq5
   clear hyq5
   replace H := gd H; obtain ⟨c29, H⟩ := H
   have c29b0 := eq_true c29
   have c29b1 := decide_eq_true c29
   clear c29
   replace H := gd H; obtain ⟨c30, H⟩ := H
   have c30b0 := eq_true c30
   have c30b1 := decide_eq_true c30
   clear c30
   obtain ⟨yq6, hyq6⟩ : ∃ y_ : List Int, y_ = (x3_1.drop (x5_2 : Int).toNat) := ⟨_, rfl⟩
   replace H : (if yq5.length + yq6.length < 17592186044416 then ((some (yq5 ++ yq6 : List Int)).bind fun yq7 => ((some (x3_1.take (x5_2 : Int).toNat : List Int)).bind fun yq8 => (if yq8.length < 17592186044416 then ((some (yq8 ++ [x4_1] : List Int)).bind fun yq9 => (if yq9.length + yq7.length < 17592186044416 then (aC.l0 k2 l0 (yq9 ++ yq7) (wrap64 (x4_1 + 1))) else (none))) else (none)))) else (none)) = some r := by first | (rw [hyq6]; with_reducible exact H) | (rw [hyq6]; exact H)
   have Nyq6 := aQ hyq6
   clear hyq6
   replace H := gd H; obtain ⟨c31, H⟩ := H
   have LMc31 := aQ c31
   clear c31
   obtain ⟨yq7, hyq7⟩ : ∃ y_ : List Int, y_ = (yq5 ++ yq6) := ⟨_, rfl⟩
   replace H : ((some (x3_1.take (x5_2 : Int).toNat : List Int)).bind fun yq8 => (if yq8.length < 17592186044416 then ((some (yq8 ++ [x4_1] : List Int)).bind fun yq9 => (if yq9.length + yq7.length < 17592186044416 then (aC.l0 k2 l0 (yq9 ++ yq7) (wrap64 (x4_1 + 1))) else (none))) else (none))) = some r := by first | (rw [hyq7]; with_reducible exact H) | (rw [hyq7]; exact H)
   have Nyq7 := aQ hyq7
   clear hyq7
   have c32b0 := eq_true (of_decide_eq_true as_ : x5_2 ≤ (x3_1.length : Int))
   obtain ⟨yq8, hyq8⟩ : ∃ y_ : List Int, y_ = (x3_1.take (x5_2 : Int).toNat) := ⟨_, rfl⟩
   replace H := yy hyq8 H
   (try dsimp only at H)
   have Nyq8 := aQ hyq8
   clear hyq8
   replace H := gd H; obtain ⟨c33, H⟩ := H
   have LMc33 := aQ c33
   clear c33
   obtain ⟨yq9, hyq9⟩ : ∃ y_ : List Int, y_ = (yq8 ++ [x4_1]) := ⟨_, rfl⟩
   replace H : (if yq9.length + yq7.length < 17592186044416 then (aC.l0 k2 l0 (yq9 ++ yq7) (wrap64 (x4_1 + 1))) else (none)) = some r := by first | (rw [hyq9]; with_reducible exact H) | (rw [hyq9]; exact H)
   have Nyq9 := aQ hyq9
   clear hyq9
   replace H := gd H; obtain ⟨c34, H⟩ := H
   have LMc34 := aQ c34
   clear c34
   obtain ⟨yqr, hyqr⟩ : ∃ y_ : List Int, y_ = (yq9 ++ yq7) := ⟨_, rfl⟩
   replace H : (aC.l0 k2 l0 yqr (wrap64 (x4_1 + 1))) = some r := by first | (rw [hyqr]; with_reducible exact H) | (rw [hyqr]; exact H)
   have Nyqr := aQ hyqr
   clear hyqr
   have H' := aQ H
   clear H
   go_wp2_with (first | ((with_reducible refine af (N := 35) rfl ?_); refine Kd.R_lit (Kd.int .i64) _ 3 ?hg (N := 35) ?hd (xs := ([] : List Int)) (inner := []) (ok := fun _ => True) (okp := fun _ => True) ?hr ?hp (fun _ hk => hk) trivial (Below.refl _ _) (Nat.le_refl _) (by simp) ?_; (case hd => rfl); (case hg => rfl); (case hr => first | (go_simp; done) | (go_simp; rfl)); (case hp => exact (Reps.none _ _)); intro vqs w35 ho36 hb hg_ hnew_; clear hg_ hnew_; (first | rw [← Nyq5.out] at ho36 | (simp only [Int.reduceToNat] at ho36; rw [← Nyq5.out] at ho36)); have HOqt := aQ (Kd.R_lower (Kd.R_new' ho36 (Kd.R_lt (pR HO_3.out))) (aa (pB HB.out))); replace HO_3 := aQ (Kd.R_elder' (pR HO_3.out) (Kd.R_base ho36) hb); replace HB := bs HB hb; clear hb ho36; have q37 : (x5_2 : Int) ≤ ((x3_1.length : Int) : Int) := of_decide_eq_true as_; obtain ⟨i037, hi037, _, hsz37, _⟩ := info_parts bR; have hroom37 : x3_1.length ≤ co5 := (Kd.R_reads' HO_3.out).2.1; have hC37 : Kd.C (Kd.int .i64) _ Ao5 x3_1.length x3_1 := (Kd.R_reads' HO_3.out).2.2; have q037 : (0 : Int) ≤ (x5_2 : Int) := of_decide_eq_true as_; have hcut37 := dK (P := Tryz.prog) 24 3 .i64 Tryz.underlying24 hi037 1 hsz37 Ao5 x3_1.length co5 x5_2 q037 q37; have hr37 := Kd.C_drop (m := (x5_2 : Int).toNat) (c := co5) hC37 (by omega) hroom37; obtain ⟨A37, hA37⟩ : ∃ A1, A1 = (if co5 = (x5_2 : Int).toNat then Ao5 else (Ao5 : Option Addr).map (·.add ((x5_2 : Int).toNat * 1))) := ⟨_, rfl⟩; obtain ⟨c37, hc37⟩ : ∃ c1, c1 = co5 - (x5_2 : Int).toNat := ⟨_, rfl⟩; have hy37 : yq6.length = x3_1.length - (x5_2 : Int).toNat := (by rw [Nyq6.out, List.length_drop] <;> omega); rw [show (x3_1).drop (x5_2 : Int).toNat = yq6 from Nyq6.out.symm] at hr37; replace hr37 : Kd.C (Kd.int .i64) _ A37 yq6.length yq6 := (by rw [hA37]; exact hr37); rw [← hy37, ← hA37, ← hc37] at hcut37; have HRqu := aQ hr37; have HCqu := aQ (show yq6.length ≤ c37 from by rw [hy37, hc37]; exact Nat.sub_le_sub_right hroom37 _); clear hr37 hC37 hroom37 hi037 hsz37 hc37; have KY37 := aQ hy37; have KA37 := aQ hA37; clear hy37 hA37; have KL37 := aQ (show (x5_2 : Int).toNat ≤ x3_1.length from by omega); replace q37 := eq_true q37) | ((with_reducible refine aW (b := .append) (xs := #[.tmp 35, .tmp 38]) rfl ?_); at_builtin; refine Kd.R_append_rows (Kd.int .i64) (w0 := w) w.heap.size rfl (.tmp 35) (.tmp 38) 24 3 (.int .i64 0) 8 rfl Tryz.underlying24 bR rfl (by decide) (by omega) vqs yq5 yq6 _ _ _ (fun k_ => some k_ ≠ (.slice Ao5 x3_1.length co5 : Value).ownBlock) (fun _ => False) rfl rfl ?aO ?aR (fun _ _ h => h) (fun _ h => h.elim) ?aF ?aB ?aS ?aL ?_; (case aR => exact pC ((by repeat (first | (with_reducible exact HRqu.out) | (with_reducible refine Kd.C_alloc ?_ _) | (with_reducible refine Kd.C_drewN ?_ _) | (with_reducible refine Kd.C_drew ?_) | exact HRqu.out)))); (case aB => exact (pB HB.out)); (case aF => exact (fun k_ hk => Kd.fresh' (Kd.R_lt (pR HO_3.out)) k_ hk)); (case aO => exact (by refine pRx ?_; exact Kd.R_mono HOqt.out (fun _ hk => hk.2))); (case aS => exact (aa (pB HB.out))); (case aL => have := LMc31.out; omega); intro vqv w38 ho hb hg hat; rw [← Nyq7.out] at ho; replace HB := aQ (hb); replace HRqu := aQ ((show Kd.C (Kd.int .i64) w38 A37 yq6.length yq6 from by rw [Nyq6.out, KA37.out]; exact Kd.C_drop (m := (x5_2 : Int).toNat) (c := co5) ((Kd.R_reads' (Kd.R_after (ok := (fun _ => True)) (pR HO_3.out) hg hat)).2.2) KL37.out ((Kd.R_reads' (Kd.R_after (ok := (fun _ => True)) (pR HO_3.out) hg hat)).2.1))); replace HO_3 := aQ (Kd.R_after (ok := (fun _ => True)) (pR HO_3.out) hg hat); have HOqw := aQ (ho); clear HOqt; clear ho hb hg hat; have q39 : (x5_2 : Int) ≤ ((x3_1.length : Int) : Int) := of_decide_eq_true as_; obtain ⟨i039, hi039, _, hsz39, _⟩ := info_parts bR; have hcut39 := eA (P := Tryz.prog) 24 3 .i64 Tryz.underlying24 hi039 Ao5 x3_1.length co5 x5_2 (of_decide_eq_true as_) q39 (Kd.R_reads' HO_3.out).2.1; have hr39 := Kd.R_take (m := (x5_2 : Int).toNat) HO_3.out (by omega); have hy39 : yq8.length = (x5_2 : Int).toNat := (by rw [Nyq8.out, List.length_take]; omega); rw [← Nyq8.out] at hr39; rw [← hy39] at hr39 hcut39; clear hy39 hi039 hsz39 HO_3; have HOqx := aQ hr39; clear hr39; replace q39 := eq_true q39) | ((with_reducible refine aW (b := .append) (xs := #[.tmp 42, .tmp 44]) rfl ?_); at_builtin; refine Kd.R_append (Kd.int .i64) (w0 := w) w.heap.size rfl (.tmp 42) (.tmp 44) 24 3 (.int .i64 0) 8 rfl Tryz.underlying24 bR rfl (by decide) (by omega) (.slice Ao5 yq8.length co5) yq8 x4_1 [.int .i64 x4_1] (fun k_ => some k_ ≠ (vqv : Value).ownBlock) (fun _ => False) rfl rfl ?aP (fun _ hk => hk.elim) ?aF ?aO ?aB ?aS ?aL ?_; (case aP => exact rfl); (case aB => exact (pB HB.out)); (case aF => exact (fun k_ hk => Kd.fresh' (Kd.R_lt (pR HOqw.out)) k_ hk)); (case aO => exact (by refine pRx ?_; exact Kd.R_mono HOqx.out (fun _ hk => hk.2))); (case aS => exact (aa (pB HB.out))); (case aL => have := LMc33.out; omega); intro vqy w40 ho hb hg hat; rw [← Nyq9.out] at ho; replace HOqw := aQ (Kd.R_after (ok := (fun _ => True)) (by refine pRx ?_; exact Kd.R_mono HOqw.out (fun _ hk => ⟨trivial, by first | exact hk | exact fun h_ => hk (h_.trans (eT _ _ _ _))⟩)) hg hat); replace HB := aQ (hb); have HOqz := aQ (ho); clear HOqx; clear ho hb hg hat; obtain ⟨Ao42, co42, eo42⟩ := Kd.R_slice HOqw.out; subst eo42) | ((with_reducible refine aW (b := .append) (xs := #[.tmp 45, .tmp 46]) rfl ?_); at_builtin; refine Kd.R_append_rows (Kd.int .i64) (w0 := w) w.heap.size rfl (.tmp 45) (.tmp 46) 24 3 (.int .i64 0) 8 rfl Tryz.underlying24 bR rfl (by decide) (by omega) vqy yq9 yq7 _ _ _ (fun k_ => some k_ ≠ (.slice Ao42 yq7.length co42 : Value).ownBlock) (fun _ => False) rfl rfl ?aO ?aR (fun _ _ h => h) (fun _ h => h.elim) ?aF ?aB ?aS ?aL ?_; (case aR => exact pC ((Kd.R_reads' HOqw.out).2.2)); (case aB => exact (pB HB.out)); (case aF => exact (fun k_ hk => Kd.fresh' (Kd.R_lt (pR HOqw.out)) k_ hk)); (case aO => exact (pR HOqz.out)); (case aS => exact (aa (pB HB.out))); (case aL => have := LMc34.out; omega); intro vq10 w41 ho hb hg hat; rw [← Nyqr.out] at ho; replace HOqw := aQ (Kd.R_after (ok := (fun _ => True)) (pR HOqw.out) hg hat); replace HB := aQ (hb); have HOq11 := aQ (ho); clear HOqz; clear ho hb hg hat))
   repeat (go_quiet (first | ((with_reducible refine af (N := 35) rfl ?_); refine Kd.R_lit (Kd.int .i64) _ 3 ?hg (N := 35) ?hd (xs := ([] : List Int)) (inner := []) (ok := fun _ => True) (okp := fun _ => True) ?hr ?hp (fun _ hk => hk) trivial (Below.refl _ _) (Nat.le_refl _) (by simp) ?_; (case hd => rfl); (case hg => rfl); (case hr => first | (go_simp; done) | (go_simp; rfl)); (case hp => exact (Reps.none _ _)); intro vqs w35 ho36 hb hg_ hnew_; clear hg_ hnew_; (first | rw [← Nyq5.out] at ho36 | (simp only [Int.reduceToNat] at ho36; rw [← Nyq5.out] at ho36)); have HOqt := aQ (Kd.R_lower (Kd.R_new' ho36 (Kd.R_lt (pR HO_3.out))) (aa (pB HB.out))); replace HO_3 := aQ (Kd.R_elder' (pR HO_3.out) (Kd.R_base ho36) hb); replace HB := bs HB hb; clear hb ho36; have q37 : (x5_2 : Int) ≤ ((x3_1.length : Int) : Int) := of_decide_eq_true as_; obtain ⟨i037, hi037, _, hsz37, _⟩ := info_parts bR; have hroom37 : x3_1.length ≤ co5 := (Kd.R_reads' HO_3.out).2.1; have hC37 : Kd.C (Kd.int .i64) _ Ao5 x3_1.length x3_1 := (Kd.R_reads' HO_3.out).2.2; have q037 : (0 : Int) ≤ (x5_2 : Int) := of_decide_eq_true as_; have hcut37 := dK (P := Tryz.prog) 24 3 .i64 Tryz.underlying24 hi037 1 hsz37 Ao5 x3_1.length co5 x5_2 q037 q37; have hr37 := Kd.C_drop (m := (x5_2 : Int).toNat) (c := co5) hC37 (by omega) hroom37; obtain ⟨A37, hA37⟩ : ∃ A1, A1 = (if co5 = (x5_2 : Int).toNat then Ao5 else (Ao5 : Option Addr).map (·.add ((x5_2 : Int).toNat * 1))) := ⟨_, rfl⟩; obtain ⟨c37, hc37⟩ : ∃ c1, c1 = co5 - (x5_2 : Int).toNat := ⟨_, rfl⟩; have hy37 : yq6.length = x3_1.length - (x5_2 : Int).toNat := (by rw [Nyq6.out, List.length_drop] <;> omega); rw [show (x3_1).drop (x5_2 : Int).toNat = yq6 from Nyq6.out.symm] at hr37; replace hr37 : Kd.C (Kd.int .i64) _ A37 yq6.length yq6 := (by rw [hA37]; exact hr37); rw [← hy37, ← hA37, ← hc37] at hcut37; have HRqu := aQ hr37; have HCqu := aQ (show yq6.length ≤ c37 from by rw [hy37, hc37]; exact Nat.sub_le_sub_right hroom37 _); clear hr37 hC37 hroom37 hi037 hsz37 hc37; have KY37 := aQ hy37; have KA37 := aQ hA37; clear hy37 hA37; have KL37 := aQ (show (x5_2 : Int).toNat ≤ x3_1.length from by omega); replace q37 := eq_true q37) | ((with_reducible refine aW (b := .append) (xs := #[.tmp 35, .tmp 38]) rfl ?_); at_builtin; refine Kd.R_append_rows (Kd.int .i64) (w0 := w) w.heap.size rfl (.tmp 35) (.tmp 38) 24 3 (.int .i64 0) 8 rfl Tryz.underlying24 bR rfl (by decide) (by omega) vqs yq5 yq6 _ _ _ (fun k_ => some k_ ≠ (.slice Ao5 x3_1.length co5 : Value).ownBlock) (fun _ => False) rfl rfl ?aO ?aR (fun _ _ h => h) (fun _ h => h.elim) ?aF ?aB ?aS ?aL ?_; (case aR => exact pC ((by repeat (first | (with_reducible exact HRqu.out) | (with_reducible refine Kd.C_alloc ?_ _) | (with_reducible refine Kd.C_drewN ?_ _) | (with_reducible refine Kd.C_drew ?_) | exact HRqu.out)))); (case aB => exact (pB HB.out)); (case aF => exact (fun k_ hk => Kd.fresh' (Kd.R_lt (pR HO_3.out)) k_ hk)); (case aO => exact (by refine pRx ?_; exact Kd.R_mono HOqt.out (fun _ hk => hk.2))); (case aS => exact (aa (pB HB.out))); (case aL => have := LMc31.out; omega); intro vqv w38 ho hb hg hat; rw [← Nyq7.out] at ho; replace HB := aQ (hb); replace HRqu := aQ ((show Kd.C (Kd.int .i64) w38 A37 yq6.length yq6 from by rw [Nyq6.out, KA37.out]; exact Kd.C_drop (m := (x5_2 : Int).toNat) (c := co5) ((Kd.R_reads' (Kd.R_after (ok := (fun _ => True)) (pR HO_3.out) hg hat)).2.2) KL37.out ((Kd.R_reads' (Kd.R_after (ok := (fun _ => True)) (pR HO_3.out) hg hat)).2.1))); replace HO_3 := aQ (Kd.R_after (ok := (fun _ => True)) (pR HO_3.out) hg hat); have HOqw := aQ (ho); clear HOqt; clear ho hb hg hat; have q39 : (x5_2 : Int) ≤ ((x3_1.length : Int) : Int) := of_decide_eq_true as_; obtain ⟨i039, hi039, _, hsz39, _⟩ := info_parts bR; have hcut39 := eA (P := Tryz.prog) 24 3 .i64 Tryz.underlying24 hi039 Ao5 x3_1.length co5 x5_2 (of_decide_eq_true as_) q39 (Kd.R_reads' HO_3.out).2.1; have hr39 := Kd.R_take (m := (x5_2 : Int).toNat) HO_3.out (by omega); have hy39 : yq8.length = (x5_2 : Int).toNat := (by rw [Nyq8.out, List.length_take]; omega); rw [← Nyq8.out] at hr39; rw [← hy39] at hr39 hcut39; clear hy39 hi039 hsz39 HO_3; have HOqx := aQ hr39; clear hr39; replace q39 := eq_true q39) | ((with_reducible refine aW (b := .append) (xs := #[.tmp 42, .tmp 44]) rfl ?_); at_builtin; refine Kd.R_append (Kd.int .i64) (w0 := w) w.heap.size rfl (.tmp 42) (.tmp 44) 24 3 (.int .i64 0) 8 rfl Tryz.underlying24 bR rfl (by decide) (by omega) (.slice Ao5 yq8.length co5) yq8 x4_1 [.int .i64 x4_1] (fun k_ => some k_ ≠ (vqv : Value).ownBlock) (fun _ => False) rfl rfl ?aP (fun _ hk => hk.elim) ?aF ?aO ?aB ?aS ?aL ?_; (case aP => exact rfl); (case aB => exact (pB HB.out)); (case aF => exact (fun k_ hk => Kd.fresh' (Kd.R_lt (pR HOqw.out)) k_ hk)); (case aO => exact (by refine pRx ?_; exact Kd.R_mono HOqx.out (fun _ hk => hk.2))); (case aS => exact (aa (pB HB.out))); (case aL => have := LMc33.out; omega); intro vqy w40 ho hb hg hat; rw [← Nyq9.out] at ho; replace HOqw := aQ (Kd.R_after (ok := (fun _ => True)) (by refine pRx ?_; exact Kd.R_mono HOqw.out (fun _ hk => ⟨trivial, by first | exact hk | exact fun h_ => hk (h_.trans (eT _ _ _ _))⟩)) hg hat); replace HB := aQ (hb); have HOqz := aQ (ho); clear HOqx; clear ho hb hg hat; obtain ⟨Ao42, co42, eo42⟩ := Kd.R_slice HOqw.out; subst eo42) | ((with_reducible refine aW (b := .append) (xs := #[.tmp 45, .tmp 46]) rfl ?_); at_builtin; refine Kd.R_append_rows (Kd.int .i64) (w0 := w) w.heap.size rfl (.tmp 45) (.tmp 46) 24 3 (.int .i64 0) 8 rfl Tryz.underlying24 bR rfl (by decide) (by omega) vqy yq9 yq7 _ _ _ (fun k_ => some k_ ≠ (.slice Ao42 yq7.length co42 : Value).ownBlock) (fun _ => False) rfl rfl ?aO ?aR (fun _ _ h => h) (fun _ h => h.elim) ?aF ?aB ?aS ?aL ?_; (case aR => exact pC ((Kd.R_reads' HOqw.out).2.2)); (case aB => exact (pB HB.out)); (case aF => exact (fun k_ hk => Kd.fresh' (Kd.R_lt (pR HOqw.out)) k_ hk)); (case aO => exact (pR HOqz.out)); (case aS => exact (aa (pB HB.out))); (case aL => have := LMc34.out; omega); intro vq10 w41 ho hb hg hat; rw [← Nyqr.out] at ho; replace HOqw := aQ (Kd.R_after (ok := (fun _ => True)) (pR HOqw.out) hg hat); replace HB := aQ (hb); have HOq11 := aQ (ho); clear HOqz; clear ho hb hg hat)); try go_wp2_with (first | ((with_reducible refine af (N := 35) rfl ?_); refine Kd.R_lit (Kd.int .i64) _ 3 ?hg (N := 35) ?hd (xs := ([] : List Int)) (inner := []) (ok := fun _ => True) (okp := fun _ => True) ?hr ?hp (fun _ hk => hk) trivial (Below.refl _ _) (Nat.le_refl _) (by simp) ?_; (case hd => rfl); (case hg => rfl); (case hr => first | (go_simp; done) | (go_simp; rfl)); (case hp => exact (Reps.none _ _)); intro vqs w35 ho36 hb hg_ hnew_; clear hg_ hnew_; (first | rw [← Nyq5.out] at ho36 | (simp only [Int.reduceToNat] at ho36; rw [← Nyq5.out] at ho36)); have HOqt := aQ (Kd.R_lower (Kd.R_new' ho36 (Kd.R_lt (pR HO_3.out))) (aa (pB HB.out))); replace HO_3 := aQ (Kd.R_elder' (pR HO_3.out) (Kd.R_base ho36) hb); replace HB := bs HB hb; clear hb ho36; have q37 : (x5_2 : Int) ≤ ((x3_1.length : Int) : Int) := of_decide_eq_true as_; obtain ⟨i037, hi037, _, hsz37, _⟩ := info_parts bR; have hroom37 : x3_1.length ≤ co5 := (Kd.R_reads' HO_3.out).2.1; have hC37 : Kd.C (Kd.int .i64) _ Ao5 x3_1.length x3_1 := (Kd.R_reads' HO_3.out).2.2; have q037 : (0 : Int) ≤ (x5_2 : Int) := of_decide_eq_true as_; have hcut37 := dK (P := Tryz.prog) 24 3 .i64 Tryz.underlying24 hi037 1 hsz37 Ao5 x3_1.length co5 x5_2 q037 q37; have hr37 := Kd.C_drop (m := (x5_2 : Int).toNat) (c := co5) hC37 (by omega) hroom37; obtain ⟨A37, hA37⟩ : ∃ A1, A1 = (if co5 = (x5_2 : Int).toNat then Ao5 else (Ao5 : Option Addr).map (·.add ((x5_2 : Int).toNat * 1))) := ⟨_, rfl⟩; obtain ⟨c37, hc37⟩ : ∃ c1, c1 = co5 - (x5_2 : Int).toNat := ⟨_, rfl⟩; have hy37 : yq6.length = x3_1.length - (x5_2 : Int).toNat := (by rw [Nyq6.out, List.length_drop] <;> omega); rw [show (x3_1).drop (x5_2 : Int).toNat = yq6 from Nyq6.out.symm] at hr37; replace hr37 : Kd.C (Kd.int .i64) _ A37 yq6.length yq6 := (by rw [hA37]; exact hr37); rw [← hy37, ← hA37, ← hc37] at hcut37; have HRqu := aQ hr37; have HCqu := aQ (show yq6.length ≤ c37 from by rw [hy37, hc37]; exact Nat.sub_le_sub_right hroom37 _); clear hr37 hC37 hroom37 hi037 hsz37 hc37; have KY37 := aQ hy37; have KA37 := aQ hA37; clear hy37 hA37; have KL37 := aQ (show (x5_2 : Int).toNat ≤ x3_1.length from by omega); replace q37 := eq_true q37) | ((with_reducible refine aW (b := .append) (xs := #[.tmp 35, .tmp 38]) rfl ?_); at_builtin; refine Kd.R_append_rows (Kd.int .i64) (w0 := w) w.heap.size rfl (.tmp 35) (.tmp 38) 24 3 (.int .i64 0) 8 rfl Tryz.underlying24 bR rfl (by decide) (by omega) vqs yq5 yq6 _ _ _ (fun k_ => some k_ ≠ (.slice Ao5 x3_1.length co5 : Value).ownBlock) (fun _ => False) rfl rfl ?aO ?aR (fun _ _ h => h) (fun _ h => h.elim) ?aF ?aB ?aS ?aL ?_; (case aR => exact pC ((by repeat (first | (with_reducible exact HRqu.out) | (with_reducible refine Kd.C_alloc ?_ _) | (with_reducible refine Kd.C_drewN ?_ _) | (with_reducible refine Kd.C_drew ?_) | exact HRqu.out)))); (case aB => exact (pB HB.out)); (case aF => exact (fun k_ hk => Kd.fresh' (Kd.R_lt (pR HO_3.out)) k_ hk)); (case aO => exact (by refine pRx ?_; exact Kd.R_mono HOqt.out (fun _ hk => hk.2))); (case aS => exact (aa (pB HB.out))); (case aL => have := LMc31.out; omega); intro vqv w38 ho hb hg hat; rw [← Nyq7.out] at ho; replace HB := aQ (hb); replace HRqu := aQ ((show Kd.C (Kd.int .i64) w38 A37 yq6.length yq6 from by rw [Nyq6.out, KA37.out]; exact Kd.C_drop (m := (x5_2 : Int).toNat) (c := co5) ((Kd.R_reads' (Kd.R_after (ok := (fun _ => True)) (pR HO_3.out) hg hat)).2.2) KL37.out ((Kd.R_reads' (Kd.R_after (ok := (fun _ => True)) (pR HO_3.out) hg hat)).2.1))); replace HO_3 := aQ (Kd.R_after (ok := (fun _ => True)) (pR HO_3.out) hg hat); have HOqw := aQ (ho); clear HOqt; clear ho hb hg hat; have q39 : (x5_2 : Int) ≤ ((x3_1.length : Int) : Int) := of_decide_eq_true as_; obtain ⟨i039, hi039, _, hsz39, _⟩ := info_parts bR; have hcut39 := eA (P := Tryz.prog) 24 3 .i64 Tryz.underlying24 hi039 Ao5 x3_1.length co5 x5_2 (of_decide_eq_true as_) q39 (Kd.R_reads' HO_3.out).2.1; have hr39 := Kd.R_take (m := (x5_2 : Int).toNat) HO_3.out (by omega); have hy39 : yq8.length = (x5_2 : Int).toNat := (by rw [Nyq8.out, List.length_take]; omega); rw [← Nyq8.out] at hr39; rw [← hy39] at hr39 hcut39; clear hy39 hi039 hsz39 HO_3; have HOqx := aQ hr39; clear hr39; replace q39 := eq_true q39) | ((with_reducible refine aW (b := .append) (xs := #[.tmp 42, .tmp 44]) rfl ?_); at_builtin; refine Kd.R_append (Kd.int .i64) (w0 := w) w.heap.size rfl (.tmp 42) (.tmp 44) 24 3 (.int .i64 0) 8 rfl Tryz.underlying24 bR rfl (by decide) (by omega) (.slice Ao5 yq8.length co5) yq8 x4_1 [.int .i64 x4_1] (fun k_ => some k_ ≠ (vqv : Value).ownBlock) (fun _ => False) rfl rfl ?aP (fun _ hk => hk.elim) ?aF ?aO ?aB ?aS ?aL ?_; (case aP => exact rfl); (case aB => exact (pB HB.out)); (case aF => exact (fun k_ hk => Kd.fresh' (Kd.R_lt (pR HOqw.out)) k_ hk)); (case aO => exact (by refine pRx ?_; exact Kd.R_mono HOqx.out (fun _ hk => hk.2))); (case aS => exact (aa (pB HB.out))); (case aL => have := LMc33.out; omega); intro vqy w40 ho hb hg hat; rw [← Nyq9.out] at ho; replace HOqw := aQ (Kd.R_after (ok := (fun _ => True)) (by refine pRx ?_; exact Kd.R_mono HOqw.out (fun _ hk => ⟨trivial, by first | exact hk | exact fun h_ => hk (h_.trans (eT _ _ _ _))⟩)) hg hat); replace HB := aQ (hb); have HOqz := aQ (ho); clear HOqx; clear ho hb hg hat; obtain ⟨Ao42, co42, eo42⟩ := Kd.R_slice HOqw.out; subst eo42) | ((with_reducible refine aW (b := .append) (xs := #[.tmp 45, .tmp 46]) rfl ?_); at_builtin; refine Kd.R_append_rows (Kd.int .i64) (w0 := w) w.heap.size rfl (.tmp 45) (.tmp 46) 24 3 (.int .i64 0) 8 rfl Tryz.underlying24 bR rfl (by decide) (by omega) vqy yq9 yq7 _ _ _ (fun k_ => some k_ ≠ (.slice Ao42 yq7.length co42 : Value).ownBlock) (fun _ => False) rfl rfl ?aO ?aR (fun _ _ h => h) (fun _ h => h.elim) ?aF ?aB ?aS ?aL ?_; (case aR => exact pC ((Kd.R_reads' HOqw.out).2.2)); (case aB => exact (pB HB.out)); (case aF => exact (fun k_ hk => Kd.fresh' (Kd.R_lt (pR HOqw.out)) k_ hk)); (case aO => exact (pR HOqz.out)); (case aS => exact (aa (pB HB.out))); (case aL => have := LMc34.out; omega); intro vq10 w41 ho hb hg hat; rw [← Nyqr.out] at ho; replace HOqw := aQ (Kd.R_after (ok := (fun _ => True)) (pR HOqw.out) hg hat); replace HB := aQ (hb); have HOq11 := aQ (ho); clear HOqz; clear ho hb hg hat)))
   go_roundg k2
   case measure => have := HK1.out; have := HK2.out; omega
   case rel => exact ⟨(yqr), (wrap64 (x4_1 + 1)), rs_, H', ⟨by have := HK1.out; have := HK2.out; omega⟩, ⟨by refine pRx ?_; exact Kd.R_mono HOq11.out (fun _ hk => trivial)⟩, ⟨pB HB.out⟩⟩
 ·rw [if_neg c4] at H
  have c4b0 := decide_eq_false c4
  clear c4
  obtain rfl := Option.some.inj H
  go_wp2
  repeat (go_quiet (fail); try go_wp2)
  go_ret
  exact ⟨_, by first | rfl | (simp [errW_none, aj] <;> rfl) | (simp [*, errW_none, aj] <;> rfl), by refine pRx ?_; exact HO_3.out, pB HB.out⟩
end Go.Proofs.YtimkekeaeojpkaaGreat.A
namespace Go.Proofs.YtimkekeaeojpkaaGreat.A
open Go.RowKit Go.Proofs.YtimkekeaeojpkaaGreatW.PrintWords Go.Proofs.YtimkekeaeojpkaaGreatW.PrintLast Go.Proofs.YtimkekeaeojpkaaGreatW.PrintMore
attribute [local go_sem] cC cE cW cX co cp cD cG
set_option linter.unusedVariables false
set_option linter.unusedSimpArgs false
def bl.l0 : Nat → List Int → Int → List Int → Int → Int → List Int → Option (List Int)
 | 0, _, _, _, _, _, _ => none
 | k + 1, x5, x6, x7, x8, x118002000, x118002001 => if x8 < (x7.length : Int) then (if 0 ≤ x8 then (if 0 ≤ (IntKind.u64.wrap (rd x7 x8)) then ((bV.f k x118002000 x118002001 (Go.bits .or .i64 x6 (shl .i64 1 (IntKind.u64.wrap (rd x7 x8))))).bind fun tq0 => ((aY.f k (Go.bits .or .i64 x6 (shl .i64 1 (IntKind.u64.wrap (rd x7 x8))))).bind fun tq1 => (if tq0 = tq1 then (if x5.length < 17592186044416 then (bl.l0 k (x5 ++ [rd x7 x8]) (Go.bits .or .i64 x6 (shl .i64 1 (IntKind.u64.wrap (rd x7 x8)))) x7 (wrap64 (x8 + 1)) x118002000 x118002001) else (none)) else (bl.l0 k x5 x6 x7 (wrap64 (x8 + 1)) x118002000 x118002001)))) else (none)) else (none)) else (some x5)
def bl.f (k : Nat) (a0_0 : Int) (l0_1 : List Int) (l1 : List Int) : Option (List Int) := (aC.f k l1).bind fun tq2 => (bl.l0 k (([] : List Int)) 0 tq2 0 a0_0 l0_1)
theorem bl.calls (k : Nat) (a0_0 : Int) (A0_1 : Option Addr) (c0_1 : Nat) (l0_1 : List Int) (A1 : Option Addr) (c1 : Nat) (l1 : List Int) (r : List Int) (w : World) (hr0_1 : Kd.C (Kd.int .i64) w A0_1 l0_1.length l0_1) (hc0_1 : l0_1.length ≤ c0_1) (hr1 : Kd.C (Kd.int .i64) w A1 l1.length l1) (hc1 : l1.length ≤ c1) (h : bl.f k a0_0 l0_1 l1 = some r) :
  Calls Tryz.prog 117 #[.agg #[.int .i64 a0_0, .slice A0_1 l0_1.length c0_1], .slice A1 l1.length c1] w fun e w' => ∃ v0_ : Value, e = .returned (v0_) ∧ Kd.R (Kd.int .i64) 3 w' w.heap.size (fun _ => True) v0_ r ∧ Below w.heap.size w w' := by
 have hu26 := Tryz.underlying26
 have HR0_1 := aQ hr0_1
 have HC0_1 := aQ hc0_1
 clear hr0_1 hc0_1
 have HR1 := aQ hr1
 have HC1 := aQ hc1
 clear hr1 hc1
 have HB := aQ (Below.refl w.heap.size w)
 have H := h
 clear h
 unfold bl.f at H
 (try dsimp only at H)
 obtain ⟨yq3, hyq3⟩ : ∃ y_ : List Int, y_ = (([] : List Int)) := ⟨_, rfl⟩
 replace H : ((aC.f k l1).bind fun tq2 => (bl.l0 k yq3 0 tq2 0 a0_0 l0_1)) = some r := by first | (rw [hyq3]; with_reducible exact H) | (rw [hyq3]; exact H)
 have Nyq3 := aQ hyq3
 clear hyq3
 replace H := bo H; obtain ⟨tq2, A3, H⟩ := H
 (try dsimp only at H)
 have H' := aQ H
 clear H
 go_enter Tryz.func117, Tryz.ntmps117
 go_wp2_with (first | ((with_reducible refine af (N := 2) rfl ?_); refine bx 2 #[.int .i64 a0_0, .slice A0_1 l0_1.length c0_1] 26 ?_; intro gbq4 hg w4 hbox hb; have BKq4 := aQ (hbox); have GWq4 := gB HB hg; have GEq4 := gB HB hg; replace HB := bs HB hb; clear hb hbox hg) | ((with_reducible refine af (N := 10) rfl ?_); refine Kd.R_lit (Kd.int .i64) _ 3 ?hg (N := 10) ?hd (xs := ([] : List Int)) (inner := []) (ok := fun _ => True) (okp := fun _ => True) ?hr ?hp (fun _ hk => hk) trivial (Below.refl _ _) (Nat.le_refl _) (by simp) ?_; (case hd => rfl); (case hg => rfl); (case hr => first | (go_simp; done) | (go_simp; rfl)); (case hp => exact (Reps.none _ _)); intro vq5 w5 ho6 hb hg_ hnew_; clear hg_ hnew_; (first | rw [← Nyq3.out] at ho6 | (simp only [Int.reduceToNat] at ho6; rw [← Nyq3.out] at ho6)); have HOq6 := aQ (Kd.R_lower ho6 (aa (pB1 HB.out GEq4.out))); replace BKq4 := bb BKq4 hb; replace HB := bs HB hb; clear hb ho6) | (refine gq 210 (some 12) Tryz.func210 #[.slice A1 l1.length c1] ?_; (with_reducible refine (aC.calls k _ _ l1 tq2 _ ?side1 ?side2 A3.out).mono ?_); (case side1 => exact pC (Kd.C_below HR1.out HB.out)); (case side2 => exact HC1.out); rintro e w7 ⟨vq7, rfl, ho0, hb⟩; refine ⟨_, rfl, ?_⟩; have HOq8 := aQ (Kd.R_lower (Kd.R_new' ho0 (Kd.R_lt (pR HOq6.out))) (aa (pB1 HB.out GEq4.out))); replace HOq6 := aQ (Kd.R_elder' (pR HOq6.out) (Kd.R_base ho0) hb); replace BKq4 := bb BKq4 hb; replace HB := bs HB hb; (try clear hb); (try clear ho0)))
 go_loopg [5, 6, 8] k (fun kq v5 v6 v8 w' => ∃ (x5_1 : List Int) (x6_1 : Int) (x8_1 : Int), v6 = .int .i64 x6_1 ∧ v8 = .int .i64 x8_1 ∧ Aside0 (bl.l0 kq x5_1 x6_1 tq2 x8_1 a0_0 l0_1 = some r) ∧ Aside0 (kq ≤ k) ∧ Aside0 (Kd.R (Kd.int .i64) 3 w' w.heap.size (fun k_ => some k_ ≠ (vq7 : Value).ownBlock) v5 x5_1) ∧ Aside0 (Kd.R (Kd.int .i64) 3 w' w.heap.size (fun k_ => some k_ ≠ (v5 : Value).ownBlock) vq7 tq2) ∧ Aside0 (w'.heap[gbq4]? = some (.cells #[.int .i64 a0_0, (.slice A0_1 l0_1.length c0_1)] 26 (0, 0))) ∧ Aside0 (Below w.heap.size w w'))
 case atStart => exact ⟨(yq3), (0), (0), rs_, rs_, H', ⟨Nat.le_refl _⟩, ⟨by refine pRx ?_; exact Kd.R_mono HOq6.out (fun _ hk => hk.2)⟩, ⟨by refine pRx ?_; exact Kd.R_mono HOq8.out (fun _ hk => hk.2)⟩, ⟨pk BKq4.out⟩, ⟨pB1 HB.out GEq4.out⟩⟩
 clear H'
 try clear c1
 obtain ⟨x5_1, x6_1, x8_1, rfl, rfl, HA, HK1, HO_5, HO_7, BKq4, HB⟩ := hrel
 rcases gk with _ | k1
 ·exact absurd HA.out (by simp [bl.l0])
 have H := HA.out
 clear HA
 simp only [bl.l0] at H
 by_cases c8 : x8_1 < (tq2.length : Int)
 ·rw [if_pos c8] at H
  have c8b0 := decide_eq_true c8
  clear c8
  replace H := gd H; obtain ⟨c9, H⟩ := H
  have c9b0 := decide_eq_true c9
  clear c9
  obtain ⟨ji10, hji10⟩ : ∃ j_ : Int, (IntKind.u64.wrap (rd tq2 x8_1)) = j_ := ⟨_, rfl⟩
  replace H : (if 0 ≤ (ji10) then ((bV.f k1 a0_0 l0_1 (Go.bits .or .i64 x6_1 (shl .i64 1 (ji10)))).bind fun tq0 => ((aY.f k1 (Go.bits .or .i64 x6_1 (shl .i64 1 (ji10)))).bind fun tq1 => (if tq0 = tq1 then (if x5_1.length < 17592186044416 then (bl.l0 k1 (x5_1 ++ [rd tq2 x8_1]) (Go.bits .or .i64 x6_1 (shl .i64 1 (ji10))) tq2 (wrap64 (x8_1 + 1)) a0_0 l0_1) else (none)) else (bl.l0 k1 x5_1 x6_1 tq2 (wrap64 (x8_1 + 1)) a0_0 l0_1)))) else (none)) = some r := by first | (rw [hji10] at H; exact H) | (simp only [hji10] at H ⊢; exact H)
  replace H := gd H; obtain ⟨c11, H⟩ := H
  have c11b0 := eq_true c11
  have c11b1 := decide_eq_true c11
  clear c11
  obtain ⟨ji12, hji12⟩ : ∃ j_ : Int, (shl .i64 1 (ji10)) = j_ := ⟨_, rfl⟩
  replace H : ((bV.f k1 a0_0 l0_1 (Go.bits .or .i64 x6_1 (ji12))).bind fun tq0 => ((aY.f k1 (Go.bits .or .i64 x6_1 (ji12))).bind fun tq1 => (if tq0 = tq1 then (if x5_1.length < 17592186044416 then (bl.l0 k1 (x5_1 ++ [rd tq2 x8_1]) (Go.bits .or .i64 x6_1 (ji12)) tq2 (wrap64 (x8_1 + 1)) a0_0 l0_1) else (none)) else (bl.l0 k1 x5_1 x6_1 tq2 (wrap64 (x8_1 + 1)) a0_0 l0_1)))) = some r := by first | (rw [hji12] at H; exact H) | (simp only [hji12] at H ⊢; exact H)
  have hji12_ : (IntKind.i64.wrap (1 * 2 ^ min (ji10).toNat 64)) = ji12 := hji12
  have hji12z : (ji10) ≤ 64 → (IntKind.i64.wrap (1 * 2 ^ (ji10).toNat)) = ji12 := cP hji12
  have hji12u : (IntKind.i64.wrap (2 ^ min (ji10).toNat 64)) = ji12 := by have h_ := hji12_; rw [Int.one_mul] at h_; exact h_
  have hji12v : (ji10) ≤ 64 → (IntKind.i64.wrap (2 ^ (ji10).toNat)) = ji12 := fun hle_ => by have h_ := hji12z hle_; rw [Int.one_mul] at h_; exact h_
  have hji12y : (wrap64 (1 * 2 ^ min (ji10).toNat 64)) = ji12 := (i64_w _).symm.trans hji12_
  have hji12x : (ji10) ≤ 64 → (wrap64 (1 * 2 ^ (ji10).toNat)) = ji12 := fun h_ => (i64_w _).symm.trans (hji12z h_)
  replace H := bo H; obtain ⟨tq0, A13, H⟩ := H
  (try dsimp only at H)
  replace H := bo H; obtain ⟨tq1, A14, H⟩ := H
  (try dsimp only at H)
  by_cases c15 : tq0 = tq1
  ·rw [if_pos c15] at H
   have c15b0 : (tq0 == tq1) = true := beq_iff_eq.mpr c15
   have c15b1 : (tq0 != tq1) = false := bne_eq_false_iff_eq.mpr c15
   clear c15
   replace H := gd H; obtain ⟨c16, H⟩ := H
   have LMc16 := aQ c16
   clear c16
   obtain ⟨yq9, hyq9⟩ : ∃ y_ : List Int, y_ = (x5_1 ++ [rd tq2 x8_1]) := ⟨_, rfl⟩
   replace H : (bl.l0 k1 yq9 (Go.bits .or .i64 x6_1 (ji12)) tq2 (wrap64 (x8_1 + 1)) a0_0 l0_1) = some r := by first | (rw [hyq9]; with_reducible exact H) | (rw [hyq9]; exact H)
   have Nyq9 := aQ hyq9
   clear hyq9
   have H' := aQ H
   clear H
   obtain ⟨Ao17, co17, eo17⟩ := Kd.R_slice HO_7.out
   subst eo17
   have pqa : 0 ≤ (x8_1 : Int) := of_decide_eq_true as_
   have qqa : x8_1 < (tq2.length : Int) := of_decide_eq_true as_
   obtain ⟨adqa, eqa, hxqa_0⟩ := Kd.at_int (Kd.R_reads' HO_7.out).2.2 x8_1 pqa qqa
   cases eqa
   replace pqa := eq_true pqa
   replace qqa := eq_true qqa
   obtain ⟨hcz18_0, hcz18_1, hfz18_0, hfz18_1⟩ := c2 BKq4
   go_wp2_with (first | ((with_reducible refine bi (f := 137) rfl ?_); refine fo (some 29) rfl rfl Tryz.func137 (by kernel_rfl) rfl #[.agg #[.int .i64 a0_0, .slice A0_1 l0_1.length c0_1], .int .i64 (Go.bits .or .i64 x6_1 (ji12))] rfl (by (try simp only [List.map_toArray, List.map_cons, List.map_nil]); first | done | (simp only [hji12]; rfl) | rfl | (simp only [List.length_drop, List.length_take]; rfl)) ?_; (with_reducible refine (bV.calls k1 a0_0 _ _ l0_1 (Go.bits .or .i64 x6_1 (ji12)) tq0 _ ?side1 ?side2 A13.out).mono ?_); (case side1 => exact pC (Kd.C_below HR0_1.out HB.out)); (case side2 => exact HC0_1.out); rintro e w19 ⟨rfl, hb⟩; refine ⟨_, rfl, ?_⟩; replace HO_5 := aQ (Kd.R_below (pR HO_5.out) hb); replace HO_7 := aQ (Kd.R_below (pR HO_7.out) hb); replace BKq4 := bb BKq4 hb; replace HB := bs HB hb; (try clear hb)) | ((with_reducible refine bi (f := 22) rfl ?_); refine fo (some 31) rfl rfl Tryz.func22 (by kernel_rfl) rfl #[.int .i64 (Go.bits .or .i64 x6_1 (ji12))] rfl (by (try simp only [List.map_toArray, List.map_cons, List.map_nil]); first | done | (simp only [hji12]; rfl) | rfl | (simp only [List.length_drop, List.length_take]; rfl)) ?_; (with_reducible refine (aY.calls k1 (Go.bits .or .i64 x6_1 (ji12)) tq1 _ A14.out).mono ?_); rintro e w' ⟨rfl, ⟨nd, rfl⟩⟩; refine ⟨_, rfl, ?_⟩; have pqb : 0 ≤ (x8_1 : Int) := of_decide_eq_true as_; have qqb : x8_1 < (tq2.length : Int) := of_decide_eq_true as_; obtain ⟨adqb, eqb, hxqb_0⟩ := Kd.at_int (Kd.R_reads' HO_7.out).2.2 x8_1 pqb qqb; obtain rfl : adqa = adqb := (by injection eqb); replace pqb := eq_true pqb; replace qqb := eq_true qqb) | ((with_reducible refine aW (b := .append) (xs := #[.tmp 34, .tmp 39]) rfl ?_); at_builtin; refine Kd.R_append (Kd.int .i64) (w0 := w) w.heap.size rfl (.tmp 34) (.tmp 39) 24 3 (.int .i64 0) 8 rfl Tryz.underlying24 bR rfl (by decide) (by omega) u5 x5_1 (rd tq2 x8_1) [.int .i64 (rd tq2 x8_1)] (fun k_ => some k_ ≠ (.slice (some adqa) tq2.length co17 : Value).ownBlock) (fun _ => False) rfl rfl ?aP (fun _ hk => hk.elim) ?aF ?aO ?aB ?aS ?aL ?_; (case aP => exact rfl); (case aB => exact (pB1 HB.out GEq4.out)); (case aF => exact (fun k_ hk => Kd.fresh' (Kd.R_lt (pR HO_7.out)) k_ hk)); (case aO => exact (pR HO_5.out)); (case aS => exact (aa (pB1 HB.out GEq4.out))); (case aL => have := LMc16.out; omega); intro vqc w20 ho hb hg hat; rw [← Nyq9.out] at ho; replace HO_7 := aQ (Kd.R_after (ok := (fun _ => True)) (by refine pRx ?_; exact Kd.R_mono HO_7.out (fun _ hk => ⟨trivial, hk⟩)) hg hat); replace BKq4 := aQ (cQ (g := gbq4) (o := .cells #[.int .i64 a0_0, .slice A0_1 l0_1.length c0_1] 26 (0, 0)) (pk BKq4.out) hg (Kd.R_ne HO_5.out BKq4.out (by decide))); replace HB := aQ (hb); have HOqd := aQ (ho); clear HO_5; clear ho hb hg hat))
   go_roundg k1
   case measure => have := HK1.out; omega
   case rel => exact ⟨(yq9), (Go.bits .or .i64 x6_1 (ji12)), (wrap64 (x8_1 + 1)), (by first | rfl | (simp; done) | (simp only [← hji12] <;> (first | rfl | simp)) | (simp [*]; done)), rs_, H', ⟨by have := HK1.out; omega⟩, ⟨pR HOqd.out⟩, ⟨by refine pRx ?_; exact Kd.R_mono HO_7.out (fun _ hk => hk.2)⟩, ⟨pk BKq4.out⟩, ⟨pB1 HB.out GEq4.out⟩⟩
  ·rw [if_neg c15] at H
   have c15b0 : (tq0 == tq1) = false := beq_eq_false_iff_ne.mpr c15
   have c15b1 : (tq0 != tq1) = true := bne_iff_ne.mpr c15
   have H' := aQ H
   clear H
   obtain ⟨Ao21, co21, eo21⟩ := Kd.R_slice HO_7.out
   subst eo21
   have pqa : 0 ≤ (x8_1 : Int) := of_decide_eq_true as_
   have qqa : x8_1 < (tq2.length : Int) := of_decide_eq_true as_
   obtain ⟨adqa, eqa, hxqa_0⟩ := Kd.at_int (Kd.R_reads' HO_7.out).2.2 x8_1 pqa qqa
   cases eqa
   replace pqa := eq_true pqa
   replace qqa := eq_true qqa
   obtain ⟨hcz22_0, hcz22_1, hfz22_0, hfz22_1⟩ := c2 BKq4
   go_wp2_with (first | ((with_reducible refine bi (f := 137) rfl ?_); refine fo (some 29) rfl rfl Tryz.func137 (by kernel_rfl) rfl #[.agg #[.int .i64 a0_0, .slice A0_1 l0_1.length c0_1], .int .i64 (Go.bits .or .i64 x6_1 (ji12))] rfl (by (try simp only [List.map_toArray, List.map_cons, List.map_nil]); first | done | (simp only [hji12]; rfl) | rfl | (simp only [List.length_drop, List.length_take]; rfl)) ?_; (with_reducible refine (bV.calls k1 a0_0 _ _ l0_1 (Go.bits .or .i64 x6_1 (ji12)) tq0 _ ?side1 ?side2 A13.out).mono ?_); (case side1 => exact pC (Kd.C_below HR0_1.out HB.out)); (case side2 => exact HC0_1.out); rintro e w23 ⟨rfl, hb⟩; refine ⟨_, rfl, ?_⟩; replace HO_5 := aQ (Kd.R_below (pR HO_5.out) hb); replace HO_7 := aQ (Kd.R_below (pR HO_7.out) hb); replace BKq4 := bb BKq4 hb; replace HB := bs HB hb; (try clear hb)) | ((with_reducible refine bi (f := 22) rfl ?_); refine fo (some 31) rfl rfl Tryz.func22 (by kernel_rfl) rfl #[.int .i64 (Go.bits .or .i64 x6_1 (ji12))] rfl (by (try simp only [List.map_toArray, List.map_cons, List.map_nil]); first | done | (simp only [hji12]; rfl) | rfl | (simp only [List.length_drop, List.length_take]; rfl)) ?_; (with_reducible refine (aY.calls k1 (Go.bits .or .i64 x6_1 (ji12)) tq1 _ A14.out).mono ?_); rintro e w' ⟨rfl, ⟨nd, rfl⟩⟩; refine ⟨_, rfl, ?_⟩))
   go_roundg k1
   case measure => have := HK1.out; omega
   case rel => exact ⟨(x5_1), (x6_1), (wrap64 (x8_1 + 1)), rs_, rs_, H', ⟨by have := HK1.out; omega⟩, ⟨pR HO_5.out⟩, ⟨pR HO_7.out⟩, ⟨pk BKq4.out⟩, ⟨pB1 HB.out GEq4.out⟩⟩
 ·rw [if_neg c8] at H
  have c8b0 := decide_eq_false c8
  clear c8
  obtain rfl := Option.some.inj H
  obtain ⟨Ao24, co24, eo24⟩ := Kd.R_slice HO_7.out
  subst eo24
  go_wp2
  go_ret
  exact ⟨_, by first | rfl | (simp [errW_none, aj] <;> rfl) | (simp [*, errW_none, aj] <;> rfl), by refine pRx ?_; exact Kd.R_mono HO_5.out (fun _ hk => trivial), pB1 HB.out GEq4.out⟩
mutual
def aE.j0 : Nat → List Int → Int → Bool → Int → List Int → Option (Int × Bool)
 | 0, _, _, _, _, _ => none
 | k + 1, x1, x2, x22, x30002000, x30002001 => if x22 = true then (some (0, false)) else ((bl.f k x30002000 x30002001 x1).bind fun tq0 => (aE.l0 k x2 tq0 0 0))
def aE.l0 : Nat → Int → List Int → Int → Int → Option (Int × Bool)
 | 0, _, _, _, _ => none
 | k + 1, x2, x8, x9, x10 => if x10 < x2 then (if 0 ≤ x10 then (if x10 < (x8.length : Int) then (if 0 ≤ (IntKind.u64.wrap (rd x8 x10)) then (aE.l0 k x2 x8 (Go.bits .or .i64 x9 (shl .i64 1 (IntKind.u64.wrap (rd x8 x10)))) (wrap64 (x10 + 1))) else (none)) else (none)) else (none)) else (some (x9, true))
end
def aE.f (k : Nat) (a0_0 : Int) (l0_1 : List Int) (l1 : List Int) (a2 : Int) : Option (Int × Bool) := (aA.f k a0_0 l1).bind fun tq1 => (if tq1 = true then ((b4.f k a0_0 l0_1).bind fun tq2 => ((a5.f a2 0 tq2).bind fun tq3 => (aE.j0 k l1 a2 (!tq3) a0_0 l0_1))) else (aE.j0 k l1 a2 true a0_0 l0_1))
theorem aE.calls (k : Nat) (a0_0 : Int) (A0_1 : Option Addr) (c0_1 : Nat) (l0_1 : List Int) (A1 : Option Addr) (c1 : Nat) (l1 : List Int) (a2 : Int) (r1 : Int) (r2 : Bool) (w : World) (hr0_1 : Kd.C (Kd.int .i64) w A0_1 l0_1.length l0_1) (hc0_1 : l0_1.length ≤ c0_1) (hr1 : Kd.C (Kd.int .i64) w A1 l1.length l1) (hc1 : l1.length ≤ c1) (h : aE.f k a0_0 l0_1 l1 a2 = some (r1, r2)) :
  Calls Tryz.prog 29 #[.agg #[.int .i64 a0_0, .slice A0_1 l0_1.length c0_1], .slice A1 l1.length c1, .int .i64 a2] w fun e w' => e = .returned (.tuple #[.int .i64 r1, .bool r2]) ∧ Below w.heap.size w w' := by
 have hu26 := Tryz.underlying26
 have HR0_1 := aQ hr0_1
 have HC0_1 := aQ hc0_1
 clear hr0_1 hc0_1
 have HR1 := aQ hr1
 have HC1 := aQ hc1
 clear hr1 hc1
 have HB := aQ (Below.refl w.heap.size w)
 have H := h
 clear h
 unfold aE.f at H
 (try dsimp only at H)
 have HC4 := aQ H
 clear H
 go_enter Tryz.func29, Tryz.ntmps29
 go_upto_region 1 with (first | ((with_reducible refine af (N := 3) rfl ?_); refine bx 3 #[.int .i64 a0_0, .slice A0_1 l0_1.length c0_1] 26 ?_; intro gbq4 hg w5 hbox hb; have BKq4 := aQ (hbox); have GWq4 := gB HB hg; have GEq4 := gB HB hg; replace HB := bs HB hb; clear hb hbox hg))
 (try simp only [Act.put, List.setIfInBounds_toArray, List.set_cons_zero, List.set_cons_succ])
 go_cut [22] (fun v22 wc => ∃ (kq : Nat) (x22_3 : Bool), v22 = .bool x22_3 ∧ Aside0 (aE.j0 kq l1 a2 x22_3 a0_0 l0_1 = some (r1, r2)) ∧ Aside0 (kq ≤ k) ∧ Aside0 (wc.heap[gbq4]? = some (.cells #[.int .i64 a0_0, (.slice A0_1 l0_1.length c0_1)] 26 (0, 0))) ∧ Aside0 (Below w.heap.size w wc))
 case first =>
  have H := HC4.out
  clear HC4
  replace H := bo H; obtain ⟨tq1, A6, H⟩ := H
  (try dsimp only at H)
  by_cases c7 : tq1 = true
  ·subst c7
   rw [if_pos rfl] at H
   replace H := bo H; obtain ⟨tq2, A8, H⟩ := H
   (try dsimp only at H)
   replace H := bo H; obtain ⟨tq3, A9, H⟩ := H
   (try dsimp only at H)
   have H' := aQ H
   clear H
   obtain ⟨hcz10_0, hcz10_1, hfz10_0, hfz10_1⟩ := c2 BKq4
   go_wp2_with (first | (refine gq 39 (some 14) Tryz.func39 #[.int .i64 a0_0, .slice A1 l1.length c1] ?_; (with_reducible refine (aA.calls k a0_0 _ _ l1 true _ ?side1 ?side2 A6.out).mono ?_); (case side1 => exact pC (Kd.C_below HR1.out HB.out)); (case side2 => exact HC1.out); rintro e w' ⟨rfl, ⟨nd, rfl⟩⟩; refine ⟨_, rfl, ?_⟩) | (go_at_call 94; (with_reducible refine (b4.calls k a0_0 _ _ l0_1 tq2 _ ?side1 ?side2 A8.out).mono ?_); (case side1 => exact pC ((Kd.C_below HR0_1.out (pB1 HB.out GEq4.out)))); (case side2 => exact HC0_1.out); rintro e w11 ⟨rfl, hb⟩; replace BKq4 := bb BKq4 hb; replace HB := bs HB hb; (try clear hb)) | (go_at_call 116; (with_reducible refine (a5.calls a2 0 tq2 tq3 _ A9.out).mono ?_); rintro e w' ⟨rfl, ⟨nd, rfl⟩⟩))
   go_meet
   case rel => exact ⟨_, (!tq3), rs_, H', ⟨by first | omega | exact Nat.le_refl _⟩, ⟨pk BKq4.out⟩, ⟨pB1 HB.out GEq4.out⟩⟩
  ·replace c7 := Bool.eq_false_iff.mpr c7
   subst c7
   have H1 : (aE.j0 k l1 a2 true a0_0 l0_1) = some (r1, r2) := by rw [if_neg (show ¬ (false = true) by decide)] at H; exact H
   clear H
   have H := H1
   clear H1
   have H' := aQ H
   clear H
   obtain ⟨hcz12_0, hcz12_1, hfz12_0, hfz12_1⟩ := c2 BKq4
   go_wp2_with (first | (refine gq 39 (some 14) Tryz.func39 #[.int .i64 a0_0, .slice A1 l1.length c1] ?_; (with_reducible refine (aA.calls k a0_0 _ _ l1 false _ ?side1 ?side2 A6.out).mono ?_); (case side1 => exact pC (Kd.C_below HR1.out HB.out)); (case side2 => exact HC1.out); rintro e w' ⟨rfl, ⟨nd, rfl⟩⟩; refine ⟨_, rfl, ?_⟩))
   go_meet
   case rel => exact ⟨_, (true), rs_, H', ⟨by first | omega | exact Nat.le_refl _⟩, ⟨pk BKq4.out⟩, ⟨pB1 HB.out GEq4.out⟩⟩
 case rest =>
  clear HC4
  try clear c1
  obtain ⟨kq, x22_3, rfl, HA, HJ3, BKq4, HB⟩ := hcut
  cases kq with
  | zero => exact absurd HA.out (by simp [aE.j0])
  | succ kj3 =>
   have H := HA.out
   clear HA
   simp only [aE.j0] at H
   by_cases c13 : x22_3 = true
   ·subst c13
    rw [if_pos rfl] at H
    simp only [Option.some.injEq, Prod.mk.injEq] at H
    obtain ⟨rfl, rfl⟩ := H
    go_wp2
    go_ret2
    exact ⟨re_, pB1 HB.out GEq4.out⟩
   ·replace c13 := Bool.eq_false_iff.mpr c13
    subst c13
    have H1 : ((bl.f kj3 a0_0 l0_1 l1).bind fun tq0 => (aE.l0 kj3 a2 tq0 0 0)) = some (r1, r2) := by rw [if_neg (show ¬ (false = true) by decide)] at H; exact H
    clear H
    have H := H1
    clear H1
    replace H := bo H; obtain ⟨tq0, A14, H⟩ := H
    (try dsimp only at H)
    have H' := aQ H
    clear H
    obtain ⟨hcz15_0, hcz15_1, hfz15_0, hfz15_1⟩ := c2 BKq4
    go_wp2_with (first | (refine gq 117 (some 25) Tryz.func117 #[.agg #[.int .i64 a0_0, .slice A0_1 l0_1.length c0_1], .slice A1 l1.length c1] ?_; (with_reducible refine (bl.calls kj3 a0_0 _ _ l0_1 _ _ l1 tq0 _ ?side1 ?side2 ?side3 ?side4 A14.out).mono ?_); (case side1 => exact pC (Kd.C_below HR0_1.out HB.out)); (case side2 => exact HC0_1.out); (case side3 => exact pC (Kd.C_below HR1.out HB.out)); (case side4 => exact HC1.out); rintro e w16 ⟨vq5, rfl, ho0, hb⟩; refine ⟨_, rfl, ?_⟩; have HOq6 := aQ (Kd.R_lower ho0 (aa (pB1 HB.out GEq4.out))); replace BKq4 := bb BKq4 hb; replace HB := bs HB hb; (try clear hb); (try clear ho0)))
    go_loopg [9, 10] kj3 (fun kq v9 v10 w' => ∃ (x9_2 : Int) (x10_2 : Int), v9 = .int .i64 x9_2 ∧ v10 = .int .i64 x10_2 ∧ Aside0 (aE.l0 kq a2 tq0 x9_2 x10_2 = some (r1, r2)) ∧ Aside0 (kq ≤ kj3) ∧ Aside0 (Kd.R (Kd.int .i64) 3 w' w.heap.size (fun _ => True) vq5 tq0) ∧ Aside0 (w'.heap[gbq4]? = some (.cells #[.int .i64 a0_0, (.slice A0_1 l0_1.length c0_1)] 26 (0, 0))) ∧ Aside0 (Below w.heap.size w w'))
    case atStart => exact ⟨(0), (0), rs_, rs_, H', ⟨Nat.le_refl _⟩, ⟨pR HOq6.out⟩, ⟨pk BKq4.out⟩, ⟨pB1 HB.out GEq4.out⟩⟩
    clear H'
    try clear c1
    try clear c2
    try clear c13
    try clear hcz15_0
    try clear hcz15_1
    try clear hfz15_0
    try clear hfz15_1
    obtain ⟨x9_2, x10_2, rfl, rfl, HA, HK2, HO_8, BKq4, HB⟩ := hrel
    rcases gk with _ | k2
    ·exact absurd HA.out (by simp [aE.l0])
    have H := HA.out
    clear HA
    simp only [aE.l0] at H
    by_cases c17 : x10_2 < a2
    ·rw [if_pos c17] at H
     have c17b0 := decide_eq_true c17
     clear c17
     replace H := gd H; obtain ⟨c18, H⟩ := H
     have c18b0 := decide_eq_true c18
     clear c18
     replace H := gd H; obtain ⟨c19, H⟩ := H
     have c19b0 := decide_eq_true c19
     clear c19
     obtain ⟨ji20, hji20⟩ : ∃ j_ : Int, (IntKind.u64.wrap (rd tq0 x10_2)) = j_ := ⟨_, rfl⟩
     replace H : (if 0 ≤ (ji20) then (aE.l0 k2 a2 tq0 (Go.bits .or .i64 x9_2 (shl .i64 1 (ji20))) (wrap64 (x10_2 + 1))) else (none)) = some (r1, r2) := by first | (rw [hji20] at H; exact H) | (simp only [hji20] at H ⊢; exact H)
     replace H := gd H; obtain ⟨c21, H⟩ := H
     have c21b0 := eq_true c21
     have c21b1 := decide_eq_true c21
     clear c21
     obtain ⟨ji22, hji22⟩ : ∃ j_ : Int, (shl .i64 1 (ji20)) = j_ := ⟨_, rfl⟩
     replace H : (aE.l0 k2 a2 tq0 (Go.bits .or .i64 x9_2 (ji22)) (wrap64 (x10_2 + 1))) = some (r1, r2) := by first | (rw [hji22] at H; exact H) | (simp only [hji22] at H ⊢; exact H)
     have hji22_ : (IntKind.i64.wrap (1 * 2 ^ min (ji20).toNat 64)) = ji22 := hji22
     have hji22z : (ji20) ≤ 64 → (IntKind.i64.wrap (1 * 2 ^ (ji20).toNat)) = ji22 := cP hji22
     have hji22u : (IntKind.i64.wrap (2 ^ min (ji20).toNat 64)) = ji22 := by have h_ := hji22_; rw [Int.one_mul] at h_; exact h_
     have hji22v : (ji20) ≤ 64 → (IntKind.i64.wrap (2 ^ (ji20).toNat)) = ji22 := fun hle_ => by have h_ := hji22z hle_; rw [Int.one_mul] at h_; exact h_
     have hji22y : (wrap64 (1 * 2 ^ min (ji20).toNat 64)) = ji22 := (i64_w _).symm.trans hji22_
     have hji22x : (ji20) ≤ 64 → (wrap64 (1 * 2 ^ (ji20).toNat)) = ji22 := fun h_ => (i64_w _).symm.trans (hji22z h_)
     have H' := aQ H
     clear H
     obtain ⟨Ao23, co23, eo23⟩ := Kd.R_slice HO_8.out
     subst eo23
     have pq7 : 0 ≤ (x10_2 : Int) := of_decide_eq_true as_
     have qq7 : x10_2 < (tq0.length : Int) := of_decide_eq_true as_
     obtain ⟨adq7, eq7, hxq7_0⟩ := Kd.at_int (Kd.R_reads' HO_8.out).2.2 x10_2 pq7 qq7
     cases eq7
     replace pq7 := eq_true pq7
     replace qq7 := eq_true qq7
     go_wp2
     go_roundg k2
     case measure => have := HJ3.out; have := HK2.out; omega
     case rel => exact ⟨(Go.bits .or .i64 x9_2 (ji22)), (wrap64 (x10_2 + 1)), (by first | rfl | (simp; done) | (simp only [← hji22] <;> (first | rfl | simp)) | (simp [*]; done)), rs_, H', ⟨by have := HJ3.out; have := HK2.out; omega⟩, ⟨pR HO_8.out⟩, ⟨pk BKq4.out⟩, ⟨pB1 HB.out GEq4.out⟩⟩
    ·rw [if_neg c17] at H
     have c17b0 := decide_eq_false c17
     clear c17
     simp only [Option.some.injEq, Prod.mk.injEq] at H
     obtain ⟨rfl, rfl⟩ := H
     go_wp2
     go_ret2
     exact ⟨re_, pB1 HB.out GEq4.out⟩
def bg.f (k : Nat) (a0_0 : Int) (l0_1 : List Int) (l1 : List Int) : Option (Int × Bool) := (b4.f k a0_0 l0_1).bind fun tq0 => ((aE.f k a0_0 l0_1 l1 tq0).bind fun btq1 => (some (btq1.1, btq1.2)))
def bg.T1 : Bool × List (List Nat × List Nat) := (true, [([], []), ([], []), ([], []), ([2], [2]), ([0, 1, 3, 3], [0, 1, 3]), ([4], [4]), ([5], [5]), ([5], [5]), ([6, 4, 0, 1, 2, 3, 4, 5, 6], [6]), ([7, 8, 0, 1, 2, 3, 4, 5, 6, 7, 8], [7])])
def bg.B1 : List Nat := [0, 0, 0, 4, 15, 31, 63, 63, 127, 511]
theorem bg.tab1 : rtab .any (eV Tryz.f26 1) = bg.T1 := by kernel_rfl
theorem bg.bits1 : cY bg.T1.2 bg.B1 = true := by kernel_rfl
theorem bg.calls (k : Nat) (a0_0 : Int) (A0_1 : Option Addr) (c0_1 : Nat) (l0_1 : List Int) (A1 : Option Addr) (c1 : Nat) (l1 : List Int) (r1 : Int) (r2 : Bool) (w : World) (hr0_1 : Kd.C (Kd.int .i64) w A0_1 l0_1.length l0_1) (hc0_1 : l0_1.length ≤ c0_1) (hr1 : Kd.C (Kd.int .i64) w A1 l1.length l1) (hc1 : l1.length ≤ c1) (h : bg.f k a0_0 l0_1 l1 = some (r1, r2)) :
  Calls Tryz.prog 26 #[.agg #[.int .i64 a0_0, .slice A0_1 l0_1.length c0_1], .slice A1 l1.length c1] w fun e w' => e = .returned (.tuple #[.int .i64 r1, .bool r2]) ∧ Below w.heap.size w w' := by
 have hu26 := Tryz.underlying26
 have HR0_1 := aQ hr0_1
 have HC0_1 := aQ hc0_1
 clear hr0_1 hc0_1
 have HR1 := aQ hr1
 have HC1 := aQ hc1
 clear hr1 hc1
 have HB := aQ (Below.refl w.heap.size w)
 have H := h
 clear h
 unfold bg.f at H
 (try dsimp only at H)
 replace H := bo H; obtain ⟨tq0, A3, H⟩ := H
 (try dsimp only at H)
 replace H := bo H; obtain ⟨⟨tq1, tq2⟩, A4, H⟩ := H
 (try dsimp only at H)
 simp only [Option.some.injEq, Prod.mk.injEq] at H
 obtain ⟨rfl, rfl⟩ := H
 go_enter Tryz.func26, Tryz.ntmps26
 try go_wp2_with (first | ((with_reducible refine af (N := 2) rfl ?_); refine bx 2 #[.int .i64 a0_0, .slice A0_1 l0_1.length c0_1] 26 ?_; intro gbq3 hg w5 hbox hb; have BKq3 := aQ (hbox); have GWq3 := gB HB hg; have GEq3 := gB HB hg; replace HB := bs HB hb; clear hb hbox hg))
 replace BKq3 := aQ (b7 BKq3.out); replace HB := aQ (a7 HB.out)
 refine cN (n := 10) (S := fun w' => w'.cell? ⟨gbq3, 0, none⟩ = some (.int .i64 a0_0) ∧ w'.cell? ⟨gbq3, 1, none⟩ = some (.slice A0_1 l0_1.length c0_1)) (ds := []) _ (by kernel_rfl) rfl rfl ⟨(ac BKq3.out 0).trans rfl, (ac BKq3.out 1).trans rfl⟩ (fun hHeld => ?_); refine b0 bg.tab1 bg.bits1 (fun HT_ HW_ => ?_)
 generalize w5.drew = w6 at BKq3 HB hHeld ⊢
 refine pA 1 (some 10) HT_ ?_
 refine tA2 0 (some 9) HT_ HW_ hHeld ?_
 refine tA2 2 (some 11) HT_ HW_ hHeld ?_
 refine onA (i := 3) (N := some 12) HT_ (h := fun K hK => ?_)
 refine gs Tryz.func94 #[.agg #[.int .i64 a0_0, .slice A0_1 l0_1.length c0_1]] ?_
 with_reducible refine (b4.calls k a0_0 _ _ l0_1 tq0 _ ?side1 ?side2 A3.out).mono ?_
 (case side1 => exact pC (Kd.C_below HR0_1.out HB.out))
 (case side2 => exact HC0_1.out)
 rintro e w7 ⟨rfl, hb⟩
 refine ⟨_, rfl, ?_⟩
 replace BKq3 := bb BKq3 hb; replace HB := bs HB hb
 (try clear hb)
 (try clear hb2)
 (try clear hk)
 (try clear hi)
 refine hK.out _ _ ⟨(ac BKq3.out 0).trans rfl, (ac BKq3.out 1).trans rfl⟩ (fun hHeld => ?_)
 clear hK K
 refine noN (some 12) (h := ?_)
 refine onA (i := 4) (N := some 13) HT_ (h := fun K hK => ?_)
 refine gs Tryz.func29 #[.agg #[.int .i64 a0_0, .slice A0_1 l0_1.length c0_1], .slice A1 l1.length c1, .int .i64 tq0] ?_
 with_reducible refine (aE.calls k a0_0 _ _ l0_1 _ _ l1 tq0 tq1 tq2 _ ?side1 ?side2 ?side3 ?side4 A4.out).mono ?_
 (case side1 => exact pC (Kd.C_below HR0_1.out HB.out))
 (case side2 => exact HC0_1.out)
 (case side3 => exact pC (Kd.C_below HR1.out HB.out))
 (case side4 => exact HC1.out)
 rintro e w8 ⟨rfl, hb⟩
 refine ⟨_, rfl, ?_⟩
 replace BKq3 := bb BKq3 hb; replace HB := bs HB hb
 (try clear hb)
 (try clear hb2)
 (try clear hk)
 (try clear hi)
 refine hK.out _ _ ⟨(ac BKq3.out 0).trans rfl, (ac BKq3.out 1).trans rfl⟩ (fun hHeld => ?_)
 clear hK K
 refine noN (some 13) (h := ?_)
 refine pA 5 (some 8) HT_ ?_
 refine pA 6 (some 14) HT_ ?_
 refine pA 7 (some 15) HT_ ?_
 refine pA 8 (some 6) HT_ ?_
 refine pA 9 (some 7) HT_ ?_
 refine dn (cB HT_.out (by kernel_rfl)) ?_
 try go_wp2
 go_ret2
 exact ⟨re_, pB1 HB.out GEq3.out⟩
def cb.f (k : Nat) (l0 : List Int) : Option (Int × List Int × List Int × Int) := (bn.f k l0).bind fun btq0 => (some (btq0.1, btq0.2.1, btq0.2.2.1, btq0.2.2.2))
theorem cb.calls (k : Nat) (A0 : Option Addr) (c0 : Nat) (l0 : List Int) (r1 : Int) (r2 : List Int) (r3 : List Int) (r4 : Int) (w : World) (hr0 : Kd.C (Kd.int .u8) w A0 l0.length l0) (hc0 : l0.length ≤ c0) (h : cb.f k l0 = some (r1, r2, r3, r4)) :
  Calls Tryz.prog 27 #[.slice A0 l0.length c0] w fun e w' => ∃ v1_ v2_ : Value, e = .returned (.tuple #[.agg #[.int .i64 r1, v1_], v2_, .int .i64 r4]) ∧ Kd.R (Kd.int .i64) 3 w' w.heap.size (fun k_ => some k_ ≠ (v2_ : Value).ownBlock) v1_ r2 ∧ Kd.R (Kd.int .i64) 3 w' w.heap.size (fun k_ => some k_ ≠ (v1_ : Value).ownBlock) v2_ r3 ∧ Below w.heap.size w w' := by
 have hu26 := Tryz.underlying26
 have HR0 := aQ hr0
 have HC0 := aQ hc0
 clear hr0 hc0
 have HB := aQ (Below.refl w.heap.size w)
 have H := h
 clear h
 unfold cb.f at H
 (try dsimp only at H)
 replace H := bo H; obtain ⟨⟨tq0, tq1, tq2, tq3⟩, A2, H⟩ := H
 (try dsimp only at H)
 simp only [Option.some.injEq, Prod.mk.injEq] at H
 obtain ⟨rfl, rfl, rfl, rfl⟩ := H
 go_enter Tryz.func27, Tryz.ntmps27
 go_wp2_with (first | ((with_reducible refine af (N := 2) rfl ?_); refine bx 2 #[.int .i64 0, .slice none 0 0] 26 ?_; intro gbq4 hg w3 hbox hb; have BKq4 := aQ (hbox); have GWq4 := gB HB hg; have GEq4 := gB HB hg; replace HB := bs HB hb; clear hb hbox hg) | (refine gq 113 (some 10) Tryz.func113 #[.slice A0 l0.length c0] ?_; (with_reducible refine (bn.calls k _ _ l0 tq0 tq1 tq2 tq3 _ ?side1 ?side2 A2.out).mono ?_); (case side1 => exact pC (Kd.C_below HR0.out HB.out)); (case side2 => exact HC0.out); rintro e w4 ⟨vq5, vq6, rfl, ho0, ho1, hb⟩; refine ⟨_, rfl, ?_⟩; have HOq7 := aQ (Kd.R_lower ho0 (aa (pB1 HB.out GEq4.out))); have HOq8 := aQ (Kd.R_lower ho1 (aa (pB1 HB.out GEq4.out))); replace BKq4 := bb BKq4 hb; replace HB := bs HB hb; (try clear hb); (try clear ho0); (try clear ho1)) | ((with_reducible refine af (N := 5) rfl ?_); refine bx 5 #[.int .i64 0, .slice none 0 0] 26 ?_; intro gbq9 hg w5 hbox hb; replace HOq7 := aQ (Kd.R_below (pR HOq7.out) hb); replace HOq8 := aQ (Kd.R_below (pR HOq8.out) hb); have BKq9 := aQ (hbox); have GWq9 := gB HB hg; have GEq9 := gB HB hg; replace HB := bs HB hb; have NBq4_q9 := nl BKq4 hg; have NBq9_q4 := ng BKq4 hg; replace BKq4 := bb BKq4 hb; clear hb hbox hg; have hnb6 := NBq9_q4.out; have hnc6 := NBq4_q9.out; obtain ⟨hcz7_0, hcz7_1, hfz7_0, hfz7_1⟩ := c2 BKq9; obtain ⟨Ao8, co8, eo8⟩ := Kd.R_slice HOq7.out; subst eo8; obtain ⟨hcz9_0, hcz9_1, hfz9_0, hfz9_1⟩ := c2 BKq4))
 refine bodyPost_ret (dw rfl _ _ gbq4 26 #[.int .i64 tq0, .slice Ao8 tq1.length co8] (0, 0) _ rfl (by refine pkx ?_; refine al (cs := #[.int .i64 tq0, .slice none 0 0]) ?_ 1 _ rfl; refine pkx ?_; refine al (cs := #[.int .i64 0, .slice none 0 0]) ?_ 0 _ rfl; refine pkx ?_; refine aU ?_ NBq4_q9.out _; refine pkx ?_; refine aU ?_ NBq4_q9.out _; refine pkx ?_; exact BKq4.out) Tryz.underlying26 rfl (by kernel_rfl)) rfl ?_
 exact ⟨_, _, by first | rfl | (simp [errW_none, aj] <;> rfl) | (simp [*, errW_none, aj] <;> rfl), by refine pRx ?_; exact Kd.R_mono (Kd.R_far (p := ⟨gbq4, 1, none⟩) (Kd.R_far (p := ⟨gbq4, 0, none⟩) (Kd.R_far (p := ⟨gbq9, 1, none⟩) (Kd.R_far (p := ⟨gbq9, 0, none⟩) (Kd.R_types (Kd.R_types HOq7.out BKq9.out (by decide)) BKq4.out (by decide)) (fun _ hk => hk.1.2) (.int .i64 tq0)) (fun _ hk => hk.1.2) (.slice Ao8 tq1.length co8)) (fun _ hk => hk.2) (.int .i64 tq0)) (fun _ hk => hk.2) (.slice Ao8 tq1.length co8)) (fun _ hk => hk.1.1), by refine pRx ?_; exact Kd.R_mono (Kd.R_far (p := ⟨gbq4, 1, none⟩) (Kd.R_far (p := ⟨gbq4, 0, none⟩) (Kd.R_far (p := ⟨gbq9, 1, none⟩) (Kd.R_far (p := ⟨gbq9, 0, none⟩) (Kd.R_types (Kd.R_types HOq8.out BKq9.out (by decide)) BKq4.out (by decide)) (fun _ hk => hk.1.2) (.int .i64 tq0)) (fun _ hk => hk.1.2) (.slice Ao8 tq1.length co8)) (fun _ hk => hk.2) (.int .i64 tq0)) (fun _ hk => hk.2) (.slice Ao8 tq1.length co8)) (fun _ hk => hk.1.1), pB2 HB.out GEq4.out GEq9.out⟩
def cy.f (k : Nat) (a0_0 : Int) (l0_1 : List Int) (l1 : List Int) (a2 : Int) : Option (Int × Bool) := (cA.f k a0_0 l0_1 l1).bind fun btq0 => (if btq0.2 = true then (if a2 < 0 then (some (0, false)) else (if a2 > (btq0.1.length : Int) then (some (0, false)) else (if 0 ≤ a2 then (if a2 ≤ (btq0.1.length : Int) then ((bT.f k (btq0.1.take (a2 : Int).toNat)).bind fun tq1 => (some (tq1, true))) else (none)) else (none)))) else (some (0, false)))
theorem cy.calls (k : Nat) (a0_0 : Int) (A0_1 : Option Addr) (c0_1 : Nat) (l0_1 : List Int) (A1 : Option Addr) (c1 : Nat) (l1 : List Int) (a2 : Int) (r1 : Int) (r2 : Bool) (w : World) (hr0_1 : Kd.C (Kd.int .i64) w A0_1 l0_1.length l0_1) (hc0_1 : l0_1.length ≤ c0_1) (hr1 : Kd.C (Kd.int .i64) w A1 l1.length l1) (hc1 : l1.length ≤ c1) (h : cy.f k a0_0 l0_1 l1 a2 = some (r1, r2)) :
  Calls Tryz.prog 28 #[.agg #[.int .i64 a0_0, .slice A0_1 l0_1.length c0_1], .slice A1 l1.length c1, .int .i64 a2] w fun e w' => e = .returned (.tuple #[.int .i64 r1, .bool r2]) ∧ Below w.heap.size w w' := by
 have hu26 := Tryz.underlying26
 have HR0_1 := aQ hr0_1
 have HC0_1 := aQ hc0_1
 clear hr0_1 hc0_1
 have HR1 := aQ hr1
 have HC1 := aQ hc1
 clear hr1 hc1
 have HB := aQ (Below.refl w.heap.size w)
 have H := h
 clear h
 unfold cy.f at H
 (try dsimp only at H)
 replace H := bo H; obtain ⟨⟨tq0, tq2⟩, A4, H⟩ := H
 (try dsimp only at H)
 by_cases c5 : tq2 = true
 ·subst c5
  rw [if_pos rfl] at H
  by_cases c6 : a2 < 0
  ·rw [if_pos c6] at H
   have c6b0 := decide_eq_true c6
   clear c6
   simp only [Option.some.injEq, Prod.mk.injEq] at H
   obtain ⟨rfl, rfl⟩ := H
   go_enter Tryz.func28, Tryz.ntmps28
   go_wp2_with (first | ((with_reducible refine af (N := 3) rfl ?_); (try (refine ck (by rfl) ?_; dsimp only)); refine bx 3 #[.int .i64 a0_0, .slice A0_1 l0_1.length c0_1] 26 ?_; intro gbq3 hg w7 hbox hb; have BKq3 := aQ (hbox); have GWq3 := gB HB hg; have GEq3 := gB HB hg; replace HB := bs HB hb; clear hb hbox hg; obtain ⟨hcz8_0, hcz8_1, hfz8_0, hfz8_1⟩ := c2 BKq3) | (refine gq 114 (some 13) Tryz.func114 #[.agg #[.int .i64 a0_0, .slice A0_1 l0_1.length c0_1], .slice A1 l1.length c1] ?_; (with_reducible refine (cA.calls k a0_0 _ _ l0_1 _ _ l1 tq0 true _ ?side1 ?side2 ?side3 ?side4 A4.out).mono ?_); (case side1 => exact pC (Kd.C_below HR0_1.out HB.out)); (case side2 => exact HC0_1.out); (case side3 => exact pC (Kd.C_below HR1.out HB.out)); (case side4 => exact HC1.out); rintro e w9 ⟨vq4, rfl, ho0, hb⟩; refine ⟨_, rfl, ?_⟩; have HOq5 := aQ (Kd.R_lower ho0 (aa (pB1 HB.out GEq3.out))); replace BKq3 := bb BKq3 hb; replace HB := bs HB hb; (try clear hb); (try clear ho0)))
   go_ret2
   exact ⟨re_, pB1 HB.out GEq3.out⟩
  ·rw [if_neg c6] at H
   have c6b0 := decide_eq_false c6
   clear c6
   by_cases c10 : a2 > (tq0.length : Int)
   ·rw [if_pos c10] at H
    have c10b0 := decide_eq_true c10
    clear c10
    simp only [Option.some.injEq, Prod.mk.injEq] at H
    obtain ⟨rfl, rfl⟩ := H
    go_enter Tryz.func28, Tryz.ntmps28
    go_wp2_with (first | ((with_reducible refine af (N := 3) rfl ?_); (try (refine ck (by rfl) ?_; dsimp only)); refine bx 3 #[.int .i64 a0_0, .slice A0_1 l0_1.length c0_1] 26 ?_; intro gbq3 hg w11 hbox hb; have BKq3 := aQ (hbox); have GWq3 := gB HB hg; have GEq3 := gB HB hg; replace HB := bs HB hb; clear hb hbox hg; obtain ⟨hcz12_0, hcz12_1, hfz12_0, hfz12_1⟩ := c2 BKq3) | (refine gq 114 (some 13) Tryz.func114 #[.agg #[.int .i64 a0_0, .slice A0_1 l0_1.length c0_1], .slice A1 l1.length c1] ?_; (with_reducible refine (cA.calls k a0_0 _ _ l0_1 _ _ l1 tq0 true _ ?side1 ?side2 ?side3 ?side4 A4.out).mono ?_); (case side1 => exact pC (Kd.C_below HR0_1.out HB.out)); (case side2 => exact HC0_1.out); (case side3 => exact pC (Kd.C_below HR1.out HB.out)); (case side4 => exact HC1.out); rintro e w13 ⟨vq4, rfl, ho0, hb⟩; refine ⟨_, rfl, ?_⟩; have HOq5 := aQ (Kd.R_lower ho0 (aa (pB1 HB.out GEq3.out))); replace BKq3 := bb BKq3 hb; replace HB := bs HB hb; (try clear hb); (try clear ho0); obtain ⟨Ao14, co14, eo14⟩ := Kd.R_slice HOq5.out; subst eo14))
    go_ret2
    exact ⟨re_, pB1 HB.out GEq3.out⟩
   ·rw [if_neg c10] at H
    have c10b0 := decide_eq_false c10
    clear c10
    replace H := gd H; obtain ⟨c15, H⟩ := H
    have c15b0 := eq_true c15
    have c15b1 := decide_eq_true c15
    clear c15
    replace H := gd H; obtain ⟨c16, H⟩ := H
    have c16b0 := eq_true c16
    have c16b1 := decide_eq_true c16
    clear c16
    obtain ⟨yq6, hyq6⟩ : ∃ y_ : List Int, y_ = (tq0.take (a2 : Int).toNat) := ⟨_, rfl⟩
    replace H : ((bT.f k yq6).bind fun tq1 => (some (tq1, true))) = some (r1, r2) := by first | (rw [hyq6]; with_reducible exact H) | (rw [hyq6]; exact H)
    have Nyq6 := aQ hyq6
    clear hyq6
    replace H := bo H; obtain ⟨tq1, A17, H⟩ := H
    (try dsimp only at H)
    simp only [Option.some.injEq, Prod.mk.injEq] at H
    obtain ⟨rfl, rfl⟩ := H
    go_enter Tryz.func28, Tryz.ntmps28
    go_wp2_with (first | ((with_reducible refine af (N := 3) rfl ?_); (try (refine ck (by rfl) ?_; dsimp only)); refine bx 3 #[.int .i64 a0_0, .slice A0_1 l0_1.length c0_1] 26 ?_; intro gbq3 hg w18 hbox hb; have BKq3 := aQ (hbox); have GWq3 := gB HB hg; have GEq3 := gB HB hg; replace HB := bs HB hb; clear hb hbox hg; obtain ⟨hcz19_0, hcz19_1, hfz19_0, hfz19_1⟩ := c2 BKq3) | (refine gq 114 (some 13) Tryz.func114 #[.agg #[.int .i64 a0_0, .slice A0_1 l0_1.length c0_1], .slice A1 l1.length c1] ?_; (with_reducible refine (cA.calls k a0_0 _ _ l0_1 _ _ l1 tq0 true _ ?side1 ?side2 ?side3 ?side4 A4.out).mono ?_); (case side1 => exact pC (Kd.C_below HR0_1.out HB.out)); (case side2 => exact HC0_1.out); (case side3 => exact pC (Kd.C_below HR1.out HB.out)); (case side4 => exact HC1.out); rintro e w20 ⟨vq4, rfl, ho0, hb⟩; refine ⟨_, rfl, ?_⟩; have HOq5 := aQ (Kd.R_lower ho0 (aa (pB1 HB.out GEq3.out))); replace BKq3 := bb BKq3 hb; replace HB := bs HB hb; (try clear hb); (try clear ho0); obtain ⟨Ao21, co21, eo21⟩ := Kd.R_slice HOq5.out; subst eo21; have q22 : (a2 : Int) ≤ ((tq0.length : Int) : Int) := of_decide_eq_true as_; obtain ⟨i022, hi022, _, hsz22, _⟩ := info_parts bR; have hroom22 : tq0.length ≤ co21 := (Kd.R_reads' HOq5.out).2.1; have hC22 : Kd.C (Kd.int .i64) _ Ao21 tq0.length tq0 := (Kd.R_reads' HOq5.out).2.2; have hcut22 := eA (P := Tryz.prog) 24 3 .i64 Tryz.underlying24 hi022 Ao21 tq0.length co21 a2 (of_decide_eq_true as_) q22 hroom22; have hr22 := Kd.C_take (m := (a2 : Int).toNat) hC22 (by omega); have hy22 : yq6.length = (a2 : Int).toNat := (by rw [Nyq6.out, List.length_take]; omega); rw [← Nyq6.out] at hr22; rw [← hy22] at hcut22; have HRq7 := aQ hr22; have HCq7 := aQ (show yq6.length ≤ co21 from by omega); clear hr22 hC22 hroom22 hi022 hsz22; have KY22 := aQ hy22; clear hy22; have KL22 := aQ (show (a2 : Int).toNat ≤ tq0.length from by omega); replace q22 := eq_true q22) | (refine gq 115 (some 31) Tryz.func115 #[.slice Ao21 yq6.length co21] ?_; (with_reducible refine (bT.calls k _ _ yq6 tq1 _ ?side1 ?side2 A17.out).mono ?_); (case side1 => exact pC ((by repeat (first | (with_reducible exact HRq7.out) | (with_reducible refine Kd.C_alloc ?_ _) | (with_reducible refine Kd.C_drewN ?_ _) | (with_reducible refine Kd.C_drew ?_) | exact HRq7.out)))); (case side2 => exact HCq7.out); rintro e w' ⟨rfl, ⟨nd, rfl⟩⟩; refine ⟨_, rfl, ?_⟩))
    go_ret2
    exact ⟨re_, pB1 HB.out GEq3.out⟩
 ·replace c5 := Bool.eq_false_iff.mpr c5
  subst c5
  have H1 : (some (0, false)) = some (r1, r2) := by rw [if_neg (show ¬ (false = true) by decide)] at H; exact H
  clear H
  have H := H1
  clear H1
  simp only [Option.some.injEq, Prod.mk.injEq] at H
  obtain ⟨rfl, rfl⟩ := H
  go_enter Tryz.func28, Tryz.ntmps28
  go_wp2_with (first | ((with_reducible refine af (N := 3) rfl ?_); (try (refine ck (by rfl) ?_; dsimp only)); refine bx 3 #[.int .i64 a0_0, .slice A0_1 l0_1.length c0_1] 26 ?_; intro gbq3 hg w23 hbox hb; have BKq3 := aQ (hbox); have GWq3 := gB HB hg; have GEq3 := gB HB hg; replace HB := bs HB hb; clear hb hbox hg; obtain ⟨hcz24_0, hcz24_1, hfz24_0, hfz24_1⟩ := c2 BKq3) | (refine gq 114 (some 13) Tryz.func114 #[.agg #[.int .i64 a0_0, .slice A0_1 l0_1.length c0_1], .slice A1 l1.length c1] ?_; (with_reducible refine (cA.calls k a0_0 _ _ l0_1 _ _ l1 tq0 false _ ?side1 ?side2 ?side3 ?side4 A4.out).mono ?_); (case side1 => exact pC (Kd.C_below HR0_1.out HB.out)); (case side2 => exact HC0_1.out); (case side3 => exact pC (Kd.C_below HR1.out HB.out)); (case side4 => exact HC1.out); rintro e w25 ⟨vq4, rfl, ho0, hb⟩; refine ⟨_, rfl, ?_⟩; have HOq5 := aQ (Kd.R_lower ho0 (aa (pB1 HB.out GEq3.out))); replace BKq3 := bb BKq3 hb; replace HB := bs HB hb; (try clear hb); (try clear ho0)))
  go_ret2
  exact ⟨re_, pB1 HB.out GEq3.out⟩
end Go.Proofs.YtimkekeaeojpkaaGreat.A
