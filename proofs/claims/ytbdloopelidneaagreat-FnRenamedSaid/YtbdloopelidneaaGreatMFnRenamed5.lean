/- Machine side of the law FnRenamed: Go functions as Lean functions, and proofs that calls come to what these tell. Conditions: those in each theorem. -/
import Derived.Test.YtbdloopelidneaaGreatMFnRenamed0
import Derived.Test.YtbdloopelidneaaGreatMFnRenamedq0
import Derived.Test.YtbdloopelidneaaGreatMFnRenamed1
import Derived.Test.YtbdloopelidneaaGreatMFnRenamed4
set_option maxHeartbeats 8000000
set_option maxRecDepth 100000
namespace Go.Proofs.YtbdloopelidneaaGreat.A
open Go.RowKit Go.Proofs.YtbdloopelidneaaGreatW.PrintWords Go.Proofs.YtbdloopelidneaaGreatW.PrintLast Go.Proofs.YtbdloopelidneaaGreatW.PrintMore Tryz
attribute [local go_sem] cy ct cP cN b7 b9 cu cv
set_option linter.unusedVariables false
set_option linter.unusedSimpArgs false
def aD.l0 : Nat → List Int → Int → Int → Int → Option (Int)
 | 0, _, _, _, _ => none
 | k + 1, x0, x1, x7, x8 => if x8 < x7 then (if 0 ≤ x8 then (if x8 < (x0.length : Int) then (if x1 = (rd x0 x8) then (some x8) else (aD.l0 k x0 x1 x7 (wrap64 (x8 + 1)))) else (none)) else (none)) else (some (-1))
def aD.f (k : Nat) (l0 : List Int) (a1 : Int) : Option (Int) := aD.l0 k l0 a1 (l0.length : Int) 0
theorem aD.r7 : ∀ k, (∀ y0 y1 y2 y3, LeO (aD.l0 k y0 y1 y2 y3) (aD.l0 (k + 1) y0 y1 y2 y3))
 | 0 => fun _ _ _ _ r h => by simp [aD.l0] at h
 | k + 1 => by
  have ih0 := aD.r7 k
  ·intro y0 y1 y2 y3; unfold aD.l0; exact mn_
theorem aD.mono : ∀ a0 a1 k, LeO (aD.f k a0 a1) (aD.f (k + 1) a0 a1) := by
 intro a0 a1 k; have ih0 := aD.r7 k; unfold aD.f; exact mn_
theorem aD.n0 (k : Nat) (A0 : Option Addr) (c0 : Nat) (l0 : List Int) (a1 : Int) (r : Int) (w : World) (hr0 : Kd.C (Kd.int .i64) w A0 l0.length l0) (hc0 : l0.length ≤ c0) (h : aD.f k l0 a1 = some r) :
  CD Tryz.prog 134 #[.slice A0 l0.length c0, .int .i64 a1] w (.int .i64 r) := by
 have HR0 := aQ hr0; have HC0 := aQ hc0; clear hr0 hc0; have H : (aD.l0 k l0 a1 (l0.length : Int) 0) = some r := h; clear h; have H' := aQ H; clear H; go_enter func134, ntmps134; go_wp2
 go_loopg [8] k (fun kq v8 w' => ∃ (x8_1 : Int), v8 = .int .i64 x8_1 ∧ Aside0 (aD.l0 kq l0 a1 (l0.length : Int) x8_1 = some r) ∧ Aside0 (kq ≤ k) ∧ Drawn0 w w')
 case atStart => exact ⟨(0), rs_, H', ⟨Nat.le_refl _⟩, rd_⟩
 clear H'; obtain ⟨x8_1, rfl, HA, HK1, ⟨m1, rfl⟩⟩ := hrel; rcases gk with _ | k1
 ·exact absurd HA.out (by simp [aD.l0])
 have H := HA.out; clear HA; simp only [aD.l0] at H; replace H := ckD H; obtain ⟨c3b0, H⟩ | ⟨c3b0, H⟩ := H
 ·replace H := gdD H; obtain ⟨c4b0, H⟩ := H; replace H := gdD H; obtain ⟨c5b0, H⟩ := H; replace H := ckE H; obtain ⟨c6b0, c6b1, H⟩ | ⟨c6, c6b0, c6b1, H⟩ := H
  ·obtain rfl := oj H; have pq0 : 0 ≤ (x8_1 : Int) := of_decide_eq_true as_; have qq0 : x8_1 < (l0.length : Int) := of_decide_eq_true as_; obtain ⟨adq0, eq0, hxq0_0⟩ := Kd.o5 HR0.out x8_1 pq0 qq0; cases eq0; replace pq0 := eq_true pq0; replace qq0 := eq_true qq0; go_wp2
   go_ret
   exact ⟨rs_, rd_⟩
  ·have H' := aQ H; clear H; have pq0 : 0 ≤ (x8_1 : Int) := of_decide_eq_true as_; have qq0 : x8_1 < (l0.length : Int) := of_decide_eq_true as_; obtain ⟨adq0, eq0, hxq0_0⟩ := Kd.o5 HR0.out x8_1 pq0 qq0; cases eq0; replace pq0 := eq_true pq0; replace qq0 := eq_true qq0; go_wp2
   go_roundg k1
   case measure => exact omeg HK1
   case rel => exact ⟨(wrap64 (x8_1 + 1)), rs_, H', ⟨omeg HK1⟩, rd_⟩
 ·obtain rfl := oj H; go_wp2
  go_ret
  exact ⟨rs_, rd_⟩
def bj.f (k : Nat) (l0 : List Int) (a1 : Int) : Option (Bool) := (aD.f k l0 a1).bind fun tq0 => (some (decide (tq0 ≥ 0)))
theorem bj.mono : ∀ a0 a1 k, LeO (bj.f k a0 a1) (bj.f (k + 1) a0 a1) := by
 intro a0 a1 k; unfold bj.f
 repeat' first | (with_reducible first | exact aD.mono _ _ _ | exact LeO.refl _ | exact LeO.none _ | refine LeO.ite ?_ ?_ | refine LeO.bind ?_ (fun _ => ?_)) | exact LeO.none _ | refine LeO.ite ?_ ?_ | refine LeO.bind ?_ (fun _ => ?_)
theorem bj.n0 (k : Nat) (A0 : Option Addr) (c0 : Nat) (l0 : List Int) (a1 : Int) (r : Bool) (w : World) (hr0 : Kd.C (Kd.int .i64) w A0 l0.length l0) (hc0 : l0.length ≤ c0) (h : bj.f k l0 a1 = some r) :
  CD Tryz.prog 112 #[.slice A0 l0.length c0, .int .i64 a1] w (.bool r) := by
 have HR0 := aQ hr0; have HC0 := aQ hc0; clear hr0 hc0; have H := h; clear h; unfold bj.f at H; (try dsimp only at H); replace H := bo H; obtain ⟨tq0, A3, H⟩ := H; obtain rfl := oj H; go_enter func112, ntmps112; go_wp2_with (first | (refine gt 134 ?_; refine gcD (some 7) func134 (aD.n0 k _ _ l0 a1 tq0 _ (pC HR0.out) HC0.out A3.out) ?_; intro nd))
 go_ret
 exact ⟨rs_, rd_⟩
def dm.f (k : Nat) (l0 : List Int) (a1 : Int) : Option (Bool) := (bj.f k l0 a1).bind fun tq0 => (some tq0)
theorem dm.mono : ∀ a0 a1 k, LeO (dm.f k a0 a1) (dm.f (k + 1) a0 a1) := by
 intro a0 a1 k; unfold dm.f
 repeat' first | (with_reducible first | exact bj.mono _ _ _ | exact LeO.refl _ | exact LeO.none _ | refine LeO.ite ?_ ?_ | refine LeO.bind ?_ (fun _ => ?_)) | exact LeO.none _ | refine LeO.ite ?_ ?_ | refine LeO.bind ?_ (fun _ => ?_)
theorem dm.n0 (k : Nat) (A0 : Option Addr) (c0 : Nat) (l0 : List Int) (a1 : Int) (r : Bool) (w : World) (hr0 : Kd.C (Kd.int .i64) w A0 l0.length l0) (hc0 : l0.length ≤ c0) (h : dm.f k l0 a1 = some r) :
  CD Tryz.prog 49 #[.slice A0 l0.length c0, .int .i64 a1] w (.bool r) := by
 have HR0 := aQ hr0; have HC0 := aQ hc0; clear hr0 hc0; have H := h; clear h; unfold dm.f at H; (try dsimp only at H); replace H := bo H; obtain ⟨tq0, A3, H⟩ := H; obtain rfl := oj H; go_enter func49, ntmps49; go_wp2_with (first | (refine gt 112 ?_; refine gcD (some 7) func112 (bj.n0 k _ _ l0 a1 tq0 _ (pC HR0.out) HC0.out A3.out) ?_; intro nd))
 go_ret
 exact ⟨rs_, rd_⟩
end Go.Proofs.YtbdloopelidneaaGreat.A
namespace Go.Proofs.YtbdloopelidneaaGreat.A
open Go.RowKit Go.Proofs.YtbdloopelidneaaGreatW.PrintWords Go.Proofs.YtbdloopelidneaaGreatW.PrintLast Go.Proofs.YtbdloopelidneaaGreatW.PrintMore Go.Proofs.YtbdloopelidneaaGreat.Z Tryz
attribute [local go_sem] cy ct cP cN b7 b9 cu cv
set_option linter.unusedVariables false
set_option linter.unusedSimpArgs false
def ao.c (k : Nat) (l : List Int) (a e f : Int) : Option Bool := if 0 ≤ e ∧ e < 8 then (if 0 ≤ f ∧ f < 8 then dm.f k l (Go.bits .or .i64 (Go.bits .andNot .i64 a (IntKind.i64.wrap (2 ^ e.toNat))) (IntKind.i64.wrap (2 ^ f.toNat))) else none) else none
set_option maxHeartbeats 2000000 in
theorem fM (k : Nat) (n : Int) (A : Option Addr) (c : Nat) (l : List Int) (a e f : Int) (b : Bool) (gm ga ge : Nat) (w : World)
  (hr : Kd.C (Kd.int .i64) w A l.length l) (hc : l.length ≤ c)
  (hm : w.heap[gm]? = some (.cells #[.int .i64 n, .slice A l.length c] 26 (0, 0))) (ha : w.heap[ga]? = some (.cells #[.int .i64 a] 3 (0, 0))) (he : w.heap[ge]? = some (.cells #[.int .i64 e] 3 (0, 0)))
  (h : ao.c k l a e f = some b) :
  CB Tryz.prog 139 #[.int .i64 f, .pointer (some ⟨gm, 0, none⟩), .pointer (some ⟨ga, 0, none⟩), .pointer (some ⟨ge, 0, none⟩)] w (.bool b) := by
 unfold ao.c at h; by_cases h1 : 0 ≤ e ∧ e < 8
 ·rw [if_pos h1] at h; by_cases h2 : 0 ≤ f ∧ f < 8
  ·rw [if_pos h2] at h; have hu := underlying26; have hcm : w.cell? ⟨gm, 1, none⟩ = some (.slice A l.length c) := (ab hm 1).trans rfl; have hca : w.cell? ⟨ga, 0, none⟩ = some (.int .i64 a) := (ab ha 0).trans rfl; have hce : w.cell? ⟨ge, 0, none⟩ = some (.int .i64 e) := (ab he 0).trans rfl; obtain ⟨he0, he8⟩ := h1; obtain ⟨hf0, hf8⟩ := h2; have H := Lib.hid h; have HR := Lib.hid hr; have HCC := Lib.hid hc; clear hm ha he h hr hc; go_enter func139, ntmps139; go_wp2
   go_quiet (first | (go_at_call 49; (with_reducible refine (dm.n0 k _ _ l _ b _ ?side1 ?side2 H.out).mono ?_); (case side1 => exact pC HR.out); (case side2 => exact HCC.out); rintro e w' ⟨rfl, ⟨nd, rfl⟩⟩; (try exact dq_)))
   go_wp2
   go_ret
   exact ⟨rfl, by repeat (first | exact Below.refl _ _ | apply bC | apply ai)⟩
  ·rw [if_neg h2] at h; cases h
 ·rw [if_neg h1] at h; cases h
def ao.l2 (k : Nat) (l : List Int) (a b : Int) : List Int → Option (Option Int)
 | [] => some none
 | e :: es => (aT.f k (Go.bits .andNot .i64 b a)).bind fun fs => (anyO (fun f => ao.c k l a e f) fs).bind fun t => if t = true then ao.l2 k l a b es else some (some e)
def ao.l1 (k : Nat) (l : List Int) (a : Int) : List Int → Option (Option (Int × Int))
 | [] => some none
 | b :: bs => (aT.f k (Go.bits .andNot .i64 a b)).bind fun es => (ao.l2 k l a b es).bind fun t => match t with
  | none => ao.l1 k l a bs
  | some e => some (some (b, e))
def ao.l0 (k : Nat) (l : List Int) : List Int → Option (Option (Int × Int × Int))
 | [] => some none
 | a :: la => (ao.l1 k l a l).bind fun t => match t with
  | none => ao.l0 k l la
  | some (b, e) => some (some (a, b, e))
def ao.f (k : Nat) (a0_0 : Int) (l0_1 : List Int) : Option (Int × Int × Int × Bool) := (bU.f k a0_0 l0_1).bind fun t => if t = true then ((ao.l0 k l0_1 l0_1).bind fun u => match u with
  | none => some (0, 0, 0, false)
  | some (a, b, e) => some (a, b, e, true)) else some (0, 0, 0, false)
theorem ao.n0 (k : Nat) (a0_0 : Int) (A0_1 : Option Addr) (c0_1 : Nat) (l0_1 : List Int) (r1 : Int) (r2 : Int) (r3 : Int) (r4 : Bool) (w : World) (hr0_1 : Kd.C (Kd.int .i64) w A0_1 l0_1.length l0_1) (hc0_1 : l0_1.length ≤ c0_1) (h : ao.f k a0_0 l0_1 = some (r1, r2, r3, r4)) :
  CB Tryz.prog 117 #[.agg #[.int .i64 a0_0, .slice A0_1 l0_1.length c0_1]] w (.tuple #[.agg #[.int .i64 r1, .int .i64 r2, .int .i64 r3], .bool r4]) := by
 have hu39 := underlying26; have hu59 := underlying74; have hlen : l0_1.length ≤ 9223372036854775807 := hr0_1.2.1; have HR := aQ hr0_1; have HC := aQ hc0_1; have HB := aQ (Below.refl w.heap.size w); clear hr0_1 hc0_1; unfold ao.f at h; obtain ⟨t, A2, H⟩ := Option.bind_eq_some_iff.mp h; clear h; have HF := aQ A2; clear A2; have eg : ∀ args w, (callFunc 139 args).run Tryz.prog w = .ok (.enter 139 args) w := jp func139 (by kernel_rfl) rfl; have EG := aQ eg; clear eg; by_cases c3 : t = true
 ·subst c3; rw [if_pos rfl] at H; obtain ⟨u, A3, H⟩ := Option.bind_eq_some_iff.mp H; have HL := Lib.hid A3; have HU := Lib.hid H; clear A3 H; go_enter func117, ntmps117; go_wp2_with (first | ((with_reducible refine gate_dst (N := 1) rfl ?_); refine bx 1 #[.int .i64 a0_0, .slice A0_1 l0_1.length c0_1] 26 ?_; intro gm hg w1_ hbox hb; have n_HB := bs HB hb; have n_GBM := aQ ((by rw [hg]; exact aa (au HB)) : w.heap.size ≤ gm); clear HB; have HB := n_HB; have GBM := n_GBM; have BM := aQ hbox; clear n_HB n_GBM; clear hb hbox hg; have zBM0 : w1_.cell? ⟨gm, 0, none⟩ = some (.int .i64 a0_0) := (bkcl BM 0).trans rfl; have zBM1 : w1_.cell? ⟨gm, 1, none⟩ = some (.slice A0_1 l0_1.length c0_1) := (bkcl BM 1).trans rfl) | ((with_reducible refine gate_dst (N := 2) rfl ?_); refine bx 2 #[.int .i64 0, .int .i64 0, .int .i64 0] 74 ?_; intro gf hg w1_ hbox hb; have n_BM := bb BM hb; have n_NBMBF := aQ ((by rw [hg]; exact Nat.ne_of_lt (cl (g := gm) (o := .cells #[.int .i64 a0_0, .slice A0_1 l0_1.length c0_1] 26 (0, 0)) (ah BM))) : gm ≠ gf); have n_HB := bs HB hb; have n_GBF := aQ ((by rw [hg]; exact aa (au HB)) : w.heap.size ≤ gf); clear BM; clear HB; have HB := n_HB; have GBF := n_GBF; have BF := aQ hbox; have BM := n_BM; have NBMBF := n_NBMBF; clear n_HB n_GBF n_BM n_NBMBF; clear hb hbox hg; have zBM0 : w1_.cell? ⟨gm, 0, none⟩ = some (.int .i64 a0_0) := (bkcl BM 0).trans rfl; have zBM1 : w1_.cell? ⟨gm, 1, none⟩ = some (.slice A0_1 l0_1.length c0_1) := (bkcl BM 1).trans rfl) | (go_at_call 76; (with_reducible refine (bU.n0 k a0_0 _ _ l0_1 true _ ?side1 ?side2 HF.out).mono ?_); (case side1 => exact pC (Kd.r5 HR.out HB.out)); (case side2 => exact HC.out); rintro e w' ⟨rfl, ⟨nd, rfl⟩⟩))
  go_loopg [21] l0_1.length (fun gg s21 wr => ∃ x : Int, s21 = .int .i64 x ∧ Aside0 (0 ≤ x ∧ x ≤ (l0_1.length : Int)) ∧ Aside0 (l0_1.length - x.toNat ≤ gg) ∧ Aside0 (wr.heap[gm]? = some (.cells #[.int .i64 a0_0, .slice A0_1 l0_1.length c0_1] 26 (0, 0))) ∧ Aside0 (wr.heap[gf]? = some (.cells #[.int .i64 0, .int .i64 0, .int .i64 0] 74 (0, 0))) ∧ Aside0 (Below w.heap.size w wr) ∧ Aside0 (ao.l0 k l0_1 (l0_1.drop x.toNat) = some u))
  case atStart => exact ⟨0, rfl, ⟨by omega⟩, ⟨by omega⟩, ⟨ah BM⟩, ⟨ah BF⟩, ⟨(au HB)⟩, ⟨HL.out⟩⟩
  clear HL; try clear zBM0
  try clear zBM1
  obtain ⟨x, rfl, HX, HG, BM, BF, HB, HI⟩ := hrel; by_cases hlt : x < (l0_1.length : Int)
  ·have p1 : 0 ≤ x := HX.out.1; have l1 : decide (x < (l0_1.length : Int)) = true := decide_eq_true hlt; obtain ⟨ad, ea, hx⟩ := Kd.o5 HR.out x p1 hlt; cases ea; replace hx := (HB.out.cell (World.block_lt_of_cell? w _ hx)).trans hx; have hI := HI.out; rw [gv l0_1 x p1 hlt] at hI; simp only [ao.l0] at hI; obtain ⟨t1, hJ, hI⟩ := Option.bind_eq_some_iff.1 hI; have HJ0 := Lib.hid hJ; have HI1 := Lib.hid hI; have E1 := Lib.hid (b4 (n := x + 1) (by omega) (by omega)); have Q1 := aQ hlt; replace p1 := eq_true p1; replace hlt := eq_true hlt; clear HI hI hJ; have zBM : wr.cell? ⟨gm, 1, none⟩ = some (.slice (some ad) l0_1.length c0_1) := (bkcl BM 1).trans rfl; go_wp2_with (first | ((with_reducible refine gate_dst (N := 5) rfl ?_); refine bx 5 #[.int .i64 0] 3 ?_; intro ga hg w1_ hbox hb; have n_BM := bb BM hb; have n_BF := bb BF hb; have n_NBMBA := aQ ((by rw [hg]; exact Nat.ne_of_lt (cl (g := gm) (o := .cells #[.int .i64 a0_0, .slice (some ad) l0_1.length c0_1] 26 (0, 0)) (ah BM))) : gm ≠ ga); have n_NBFBA := aQ ((by rw [hg]; exact Nat.ne_of_lt (cl (g := gf) (o := .cells #[.int .i64 0, .int .i64 0, .int .i64 0] 74 (0, 0)) (ah BF))) : gf ≠ ga); have n_HB := bs HB hb; have n_GBA := aQ ((by rw [hg]; exact aa (au HB)) : w.heap.size ≤ ga); clear BM; clear BF; clear HB; have HB := n_HB; have GBA := n_GBA; have BA := aQ hbox; have BM := n_BM; have NBMBA := n_NBMBA; have BF := n_BF; have NBFBA := n_NBFBA; clear n_HB n_GBA n_BM n_NBMBA n_BF n_NBFBA; clear hb hbox hg; have zBM2 : w1_.cell? ⟨gm, 1, none⟩ = some (.slice (some ad) l0_1.length c0_1) := (bkcl BM 1).trans rfl; have zBA2 : w1_.cell? ⟨ga, 0, none⟩ = some (.int .i64 0) := (bkcl BA 0).trans rfl; have fBA := ag BA.out 0; have nBMA := NBMBA.out; have nBFA := NBFBA.out; have nBMA2 := Ne.symm nBMA; have nBFA2 := Ne.symm nBFA))
   go_loopg [28] l0_1.length (fun gg s28 wr => ∃ y : Int, s28 = .int .i64 y ∧ Aside0 (0 ≤ y ∧ y ≤ (l0_1.length : Int)) ∧ Aside0 (l0_1.length - y.toNat ≤ gg) ∧ Aside0 (wr.heap[gm]? = some (.cells #[.int .i64 a0_0, .slice (some ad) l0_1.length c0_1] 26 (0, 0))) ∧ Aside0 (wr.heap[gf]? = some (.cells #[.int .i64 0, .int .i64 0, .int .i64 0] 74 (0, 0))) ∧ Aside0 (wr.heap[ga]? = some (.cells #[.int .i64 (rd l0_1 x)] 3 (0, 0))) ∧ Aside0 (Below w.heap.size w wr) ∧ Aside0 (ao.l1 k l0_1 (rd l0_1 x) (l0_1.drop y.toNat) = some t1))
   case atStart => exact ⟨0, rfl, ⟨by omega⟩, ⟨by omega⟩, ⟨by refine pkx ?_; refine ae ?_ nBMA _; refine pkx ?_; exact BM.out⟩, ⟨by refine pkx ?_; refine ae ?_ nBFA _; refine pkx ?_; exact BF.out⟩, ⟨by refine pkx ?_; refine aj (cs := #[.int .i64 0]) ?_ 0 _ rfl; refine pkx ?_; exact BA.out⟩, ⟨(pb HB)⟩, ⟨HJ0.out⟩⟩
   clear HJ0; try clear zBM
   try clear zBM2
   try clear zBA2
   try clear fBA
   try clear hx
   obtain ⟨y, rfl, HY, HG2, BM, BF, BA, HB, HJ⟩ := hrel; by_cases hlt2 : y < (l0_1.length : Int)
   ·have p2 : 0 ≤ y := HY.out.1; have l2 : decide (y < (l0_1.length : Int)) = true := decide_eq_true hlt2; obtain ⟨ad2, ea2, hy⟩ := Kd.o5 HR.out y p2 hlt2; obtain rfl : ad = ad2 := by injection ea2
    replace hy := (HB.out.cell (World.block_lt_of_cell? w _ hy)).trans hy; have hJ := HJ.out; rw [gv l0_1 y p2 hlt2] at hJ; simp only [ao.l1] at hJ; obtain ⟨es, hE, hJ⟩ := Option.bind_eq_some_iff.1 hJ; obtain ⟨t2, hK, hJ⟩ := Option.bind_eq_some_iff.1 hJ; have HE := Lib.hid hE; have HK0 := Lib.hid hK; have HJ1 := Lib.hid hJ; have E2 := Lib.hid (b4 (n := y + 1) (by omega) (by omega)); have Q2 := aQ hlt2; replace p2 := eq_true p2; replace hlt2 := eq_true hlt2; clear HJ hE hK hJ ea2; have zBM : wr.cell? ⟨gm, 1, none⟩ = some (.slice (some ad) l0_1.length c0_1) := (bkcl BM 1).trans rfl; have zBA : wr.cell? ⟨ga, 0, none⟩ = some (.int .i64 (rd l0_1 x)) := (bkcl BA 0).trans rfl; go_wp2_with (first | (go_at_call 132; (with_reducible refine (aT.n0 k _ es _ HE.out).mono ?_); rintro e w1_ ⟨v_, rfl, ho_, hb⟩; have n_BM := bb BM hb; have n_BF := bb BF hb; have n_BA := bb BA hb; have n_HO := aQ (Kd.n8 ho_ (aa (au HB))); have n_HB := bs HB hb; clear HB; clear BM; have BM := n_BM; clear BF; have BF := n_BF; clear BA; have BA := n_BA; have HB := n_HB; have HO := n_HO; clear n_HB n_HO n_BM n_BF n_BA hb ho_; obtain ⟨AHO, cHO, eHO⟩ := Kd.n9 HO.out; subst eHO))
    have hes : es.length ≤ 9223372036854775807 := (Kd.F5 HO.out).elim fun _ h => h.elim fun _ h => h.2.2.2.1
    go_loopg [37] es.length (fun gg s37 wr => ∃ z : Int, s37 = .int .i64 z ∧ Aside0 (0 ≤ z ∧ z ≤ (es.length : Int)) ∧ Aside0 (es.length - z.toNat ≤ gg) ∧ Aside0 (wr.heap[gm]? = some (.cells #[.int .i64 a0_0, .slice (some ad) l0_1.length c0_1] 26 (0, 0))) ∧ Aside0 (wr.heap[gf]? = some (.cells #[.int .i64 0, .int .i64 0, .int .i64 0] 74 (0, 0))) ∧ Aside0 (wr.heap[ga]? = some (.cells #[.int .i64 (rd l0_1 x)] 3 (0, 0))) ∧ Aside0 (Below w.heap.size w wr) ∧ Aside0 (Kd.R (Kd.int .i64) 3 wr w.heap.size (fun _ => True) (.slice AHO es.length cHO) es) ∧ Aside0 (ao.l2 k l0_1 (rd l0_1 x) (rd l0_1 y) (es.drop z.toNat) = some t2))
    case atStart => exact ⟨0, rfl, ⟨by omega⟩, ⟨by omega⟩, ⟨ah BM⟩, ⟨ah BF⟩, ⟨ah BA⟩, ⟨(au HB)⟩, ⟨ac HO⟩, ⟨HK0.out⟩⟩
    clear HK0 HO; try clear zBM
    try clear zBA
    try clear hy
    obtain ⟨z, rfl, HZ, HG3, BM, BF, BA, HB, HO, HK⟩ := hrel; by_cases hlt3 : z < (es.length : Int)
    ·have p3 : 0 ≤ z := HZ.out.1; have l3 : decide (z < (es.length : Int)) = true := decide_eq_true hlt3; obtain ⟨ad3, ea3, hz⟩ := Kd.o5 ((Kd.n4 HO.out).2.2) z p3 hlt3; cases ea3; have hK := HK.out; rw [gv es z p3 hlt3] at hK; simp only [ao.l2] at hK; obtain ⟨fs, hE, hK⟩ := Option.bind_eq_some_iff.1 hK; obtain ⟨tb, hA, hK⟩ := Option.bind_eq_some_iff.1 hK; have HE2 := Lib.hid hE; have HA := Lib.hid hA; have HK1 := Lib.hid hK; have E3 := Lib.hid (b4 (n := z + 1) (by omega) (by omega)); have Q3 := aQ hlt3; replace p3 := eq_true p3; replace hlt3 := eq_true hlt3; clear HK hE hA hK; have zBM : wr.cell? ⟨gm, 1, none⟩ = some (.slice (some ad) l0_1.length c0_1) := (bkcl BM 1).trans rfl; have zBA : wr.cell? ⟨ga, 0, none⟩ = some (.int .i64 (rd l0_1 x)) := (bkcl BA 0).trans rfl; go_wp2_with (first | ((with_reducible refine gate_dst (N := 9) rfl ?_); refine bx 9 #[.int .i64 0] 3 ?_; intro ge hg w1_ hbox hb; have n_BM := bb BM hb; have n_BF := bb BF hb; have n_BA := bb BA hb; have n_NBMBE := aQ ((by rw [hg]; exact Nat.ne_of_lt (cl (g := gm) (o := .cells #[.int .i64 a0_0, .slice (some ad) l0_1.length c0_1] 26 (0, 0)) (ah BM))) : gm ≠ ge); have n_NBFBE := aQ ((by rw [hg]; exact Nat.ne_of_lt (cl (g := gf) (o := .cells #[.int .i64 0, .int .i64 0, .int .i64 0] 74 (0, 0)) (ah BF))) : gf ≠ ge); have n_NBABE := aQ ((by rw [hg]; exact Nat.ne_of_lt (cl (g := ga) (o := .cells #[.int .i64 (rd l0_1 x)] 3 (0, 0)) (ah BA))) : ga ≠ ge); have n_HB := bs HB hb; have n_GBE := aQ ((by rw [hg]; exact aa (au HB)) : w.heap.size ≤ ge); replace HO := aQ (Kd.o0 (Kd.G4 (ac HO) ge (by rw [hg]; exact Nat.le_refl _)) hb); clear BM BF BA; clear HB; have HB := n_HB; have GBE := n_GBE; have BE := aQ hbox; have BM := n_BM; have NBMBE := n_NBMBE; have BF := n_BF; have NBFBE := n_NBFBE; have BA := n_BA; have NBABE := n_NBABE; clear n_HB n_GBE n_BM n_NBMBE n_BF n_NBFBE n_BA n_NBABE; clear hb hbox hg; have zBA3 : w1_.cell? ⟨ga, 0, none⟩ = some (.int .i64 (rd l0_1 x)) := (bkcl BA 0).trans rfl; have zBE3 : w1_.cell? ⟨ge, 0, none⟩ = some (.int .i64 0) := (bkcl BE 0).trans rfl; have fBE := ag BE.out 0; have nBME := NBMBE.out; have nBFE := NBFBE.out; have nBAE := NBABE.out; have nBME2 := Ne.symm nBME; have nBFE2 := Ne.symm nBFE; have nBAE2 := Ne.symm nBAE) | (go_at_call 132; (with_reducible refine (aT.n0 k _ fs _ HE2.out).mono ?_); rintro e w1_ ⟨v_, rfl, ho_, hb⟩; have n_BM := aQ (aw (g := gm) (o := .cells #[.int .i64 a0_0, .slice (some ad) l0_1.length c0_1] 26 (0, 0)) (by refine pkx ?_; refine ae ?_ nBME _; refine pkx ?_; exact BM.out) hb); have n_BF := aQ (aw (g := gf) (o := .cells #[.int .i64 0, .int .i64 0, .int .i64 0] 74 (0, 0)) (by refine pkx ?_; refine ae ?_ nBFE _; refine pkx ?_; exact BF.out) hb); have n_BA := aQ (aw (g := ga) (o := .cells #[.int .i64 (rd l0_1 x)] 3 (0, 0)) (by refine pkx ?_; refine ae ?_ nBAE _; refine pkx ?_; exact BA.out) hb); have n_BE := aQ (aw (g := ge) (o := .cells #[.int .i64 (rd es z)] 3 (0, 0)) (by refine pkx ?_; refine aj (cs := #[.int .i64 0]) ?_ 0 _ rfl; refine pkx ?_; exact BE.out) hb); have n_HO := aQ (Kd.o0 (Kd.n7 (Kd.o8 (p := ⟨ge, 0, none⟩) (ac HO) (fun k_ (hk : True ∧ k_ ≠ ge) => hk.2) (.int .i64 (rd es z))) (fun _ _ => trivial)) hb); have n_HP := aQ (Kd.n8 ho_ (aa (pb HB))); have n_HB := bs HB hb; clear HB; clear BM; have BM := n_BM; clear BF; have BF := n_BF; clear BA; have BA := n_BA; clear BE; have BE := n_BE; clear HO; have HO := n_HO; have HB := n_HB; have HP := n_HP; clear n_HB n_HP n_HO n_BM n_BF n_BA n_BE hb ho_; obtain ⟨AHP, cHP, eHP⟩ := Kd.n9 HP.out; subst eHP))
     (with_reducible refine (gC (fun f => ao.c k l0_1 (rd l0_1 x) (rd es z) f) 139 _ EG.out _ _ fs tb _ (Kd.n4 HP.out).2.2 HA.out (fun W f b hb hg => dk (by simp) (fM k a0_0 (some ad) c0_1 l0_1 (rd l0_1 x) (rd es z) f b gm ga ge W (Kd.r5 (Kd.r5 HR.out HB.out) hb) HC.out (aw BM.out hb) (aw BA.out hb) (aw BE.out hb) hg))).mono ?_); rintro e w9_ ⟨rfl, hb⟩
     have n_BM := aQ (aw BM.out hb); have n_BF := aQ (aw BF.out hb); have n_BA := aQ (aw BA.out hb); have n_BE := aQ (aw BE.out hb); have n_HO := aQ (Kd.o0 HO.out hb); have n_HB := aQ (cQ HB.out hb); clear BM BF BA BE HO HB HP hb; have BM := n_BM; clear n_BM; have BF := n_BF; clear n_BF; have BA := n_BA; clear n_BA; have BE := n_BE; clear n_BE; have HO := n_HO; clear n_HO; have HB := n_HB; clear n_HB; have hk1 := HK1.out; clear HK1 HA HE2; cases tb with
     | true =>
      rw [if_pos rfl] at hk1; have HK2 := Lib.hid hk1; clear hk1; go_wp2
      go_roundg (es.length - (z + 1).toNat)
      case measure => have := HG3.out; have := HZ.out; have := Q3.out; omega
      case rel => exact ⟨z + 1, by rw [E3.out], ⟨by have := HZ.out; have := Q3.out; omega⟩, ⟨Nat.le_refl _⟩, ⟨ah BM⟩, ⟨ah BF⟩, ⟨ah BA⟩, ⟨(au HB)⟩, ⟨ac HO⟩, ⟨HK2.out⟩⟩
     | false =>
      rw [if_neg (by decide)] at hk1; simp only [Option.some.injEq] at hk1; subst hk1; have hj := HJ1.out; simp only [Option.some.injEq] at hj; subst hj; have hi := HI1.out; simp only [Option.some.injEq] at hi; subst hi; have hu := HU.out; simp only [Option.some.injEq, Prod.mk.injEq] at hu; obtain ⟨rfl, rfl, rfl, rfl⟩ := hu; clear HJ1 HI1 HU; have zBA4 : w9_.cell? ⟨ga, 0, none⟩ = some (.int .i64 (rd l0_1 x)) := (bkcl BA 0).trans rfl; have zBE4 : w9_.cell? ⟨ge, 0, none⟩ = some (.int .i64 (rd es z)) := (bkcl BE 0).trans rfl; have zBF0 : w9_.cell? ⟨gf, 0, none⟩ = some (.int .i64 0) := (bkcl BF 0).trans rfl; have zBF1 : w9_.cell? ⟨gf, 1, none⟩ = some (.int .i64 0) := (bkcl BF 1).trans rfl; have zBF2 : w9_.cell? ⟨gf, 2, none⟩ = some (.int .i64 0) := (bkcl BF 2).trans rfl; have fBF0 := ag BF.out 0; have fBF1 := ag BF.out 1; have fBF2 := ag BF.out 2; go_wp2
      refine bodyPost_ret (cB rfl _ _ gf 74 #[.int .i64 (rd l0_1 x), .int .i64 (rd l0_1 y), .int .i64 (rd es z)] (0, 0) _ rfl (by refine pkx ?_; refine aj (cs := #[.int .i64 (rd l0_1 x), .int .i64 (rd l0_1 y), .int .i64 0]) ?_ 2 _ rfl; refine pkx ?_; refine aj (cs := #[.int .i64 (rd l0_1 x), .int .i64 0, .int .i64 0]) ?_ 1 _ rfl; refine pkx ?_; refine aj (cs := #[.int .i64 0, .int .i64 0, .int .i64 0]) ?_ 0 _ rfl; refine pkx ?_; exact BF.out) underlying74 rfl (by kernel_rfl)) rfl ?_; exact ⟨rs_, (pb HB)⟩
    ·have l3 : decide (z < (es.length : Int)) = false := decide_eq_false hlt3; have hK := HK.out; rw [ek es z hlt3] at hK; simp only [ao.l2, Option.some.injEq] at hK; subst hK; have hj := HJ1.out; have HJ2 := Lib.hid (show ao.l1 k l0_1 (rd l0_1 x) (l0_1.drop (y + 1).toNat) = some t1 from hj); clear hj HJ1 HK hlt3; go_wp2
     go_roundg (l0_1.length - (y + 1).toNat)
     case measure => have := HG2.out; have := HY.out; have := Q2.out; omega
     case rel => exact ⟨y + 1, by rw [E2.out], ⟨by have := HY.out; have := Q2.out; omega⟩, ⟨Nat.le_refl _⟩, ⟨ah BM⟩, ⟨ah BF⟩, ⟨ah BA⟩, ⟨(au HB)⟩, ⟨HJ2.out⟩⟩
   ·have l2 : decide (y < (l0_1.length : Int)) = false := decide_eq_false hlt2; have hJ := HJ.out; rw [ek l0_1 y hlt2] at hJ; simp only [ao.l1, Option.some.injEq] at hJ; subst hJ; have hi := HI1.out; have HI2 := Lib.hid (show ao.l0 k l0_1 (l0_1.drop (x + 1).toNat) = some u from hi); clear hi HI1 HJ hlt2; go_wp2
    go_roundg (l0_1.length - (x + 1).toNat)
    case measure => have := HG.out; have := HX.out; have := Q1.out; omega
    case rel => exact ⟨x + 1, by rw [E1.out], ⟨by have := HX.out; have := Q1.out; omega⟩, ⟨Nat.le_refl _⟩, ⟨ah BM⟩, ⟨ah BF⟩, ⟨(au HB)⟩, ⟨HI2.out⟩⟩
  ·have l1 : decide (x < (l0_1.length : Int)) = false := decide_eq_false hlt; have hI := HI.out; rw [ek l0_1 x hlt] at hI; simp only [ao.l0, Option.some.injEq] at hI; subst hI; have hu := HU.out; simp only [Option.some.injEq, Prod.mk.injEq] at hu; obtain ⟨rfl, rfl, rfl, rfl⟩ := hu; clear HI hlt HU; have zBF0 : wr.cell? ⟨gf, 0, none⟩ = some (.int .i64 0) := (bkcl BF 0).trans rfl; have zBF1 : wr.cell? ⟨gf, 1, none⟩ = some (.int .i64 0) := (bkcl BF 1).trans rfl; have zBF2 : wr.cell? ⟨gf, 2, none⟩ = some (.int .i64 0) := (bkcl BF 2).trans rfl; have fBF0 := ag BF.out 0; have fBF1 := ag BF.out 1; have fBF2 := ag BF.out 2; go_wp2
   refine bodyPost_ret (cB rfl _ _ gf 74 #[.int .i64 0, .int .i64 0, .int .i64 0] (0, 0) _ rfl (by refine pkx ?_; refine aj (cs := #[.int .i64 0, .int .i64 0, .int .i64 0]) ?_ 2 _ rfl; refine pkx ?_; refine aj (cs := #[.int .i64 0, .int .i64 0, .int .i64 0]) ?_ 1 _ rfl; refine pkx ?_; refine aj (cs := #[.int .i64 0, .int .i64 0, .int .i64 0]) ?_ 0 _ rfl; refine pkx ?_; exact BF.out) underlying74 rfl (by kernel_rfl)) rfl ?_; exact ⟨rs_, (pb HB)⟩
 ·have c4 := Bool.eq_false_iff.mpr c3; subst c4; clear c3; rw [if_neg (by decide)] at H; obtain ⟨rfl, rfl, rfl, rfl⟩ := o4 H; go_enter func117, ntmps117; go_wp2_with (first | ((with_reducible refine gate_dst (N := 1) rfl ?_); refine bx 1 #[.int .i64 a0_0, .slice A0_1 l0_1.length c0_1] 26 ?_; intro gm hg w1_ hbox hb; have n_HB := bs HB hb; have n_GBM := aQ ((by rw [hg]; exact aa (au HB)) : w.heap.size ≤ gm); clear HB; have HB := n_HB; have GBM := n_GBM; have BM := aQ hbox; clear n_HB n_GBM; clear hb hbox hg; have zBM0 : w1_.cell? ⟨gm, 0, none⟩ = some (.int .i64 a0_0) := (bkcl BM 0).trans rfl; have zBM1 : w1_.cell? ⟨gm, 1, none⟩ = some (.slice A0_1 l0_1.length c0_1) := (bkcl BM 1).trans rfl) | ((with_reducible refine gate_dst (N := 2) rfl ?_); refine bx 2 #[.int .i64 0, .int .i64 0, .int .i64 0] 74 ?_; intro gf hg w1_ hbox hb; have n_BM := bb BM hb; have n_NBMBF := aQ ((by rw [hg]; exact Nat.ne_of_lt (cl (g := gm) (o := .cells #[.int .i64 a0_0, .slice A0_1 l0_1.length c0_1] 26 (0, 0)) (ah BM))) : gm ≠ gf); have n_HB := bs HB hb; have n_GBF := aQ ((by rw [hg]; exact aa (au HB)) : w.heap.size ≤ gf); clear BM; clear HB; have HB := n_HB; have GBF := n_GBF; have BF := aQ hbox; have BM := n_BM; have NBMBF := n_NBMBF; clear n_HB n_GBF n_BM n_NBMBF; clear hb hbox hg; have zBM0 : w1_.cell? ⟨gm, 0, none⟩ = some (.int .i64 a0_0) := (bkcl BM 0).trans rfl; have zBM1 : w1_.cell? ⟨gm, 1, none⟩ = some (.slice A0_1 l0_1.length c0_1) := (bkcl BM 1).trans rfl; have zBF0 : w1_.cell? ⟨gf, 0, none⟩ = some (.int .i64 0) := (bkcl BF 0).trans rfl; have fBF0 := ag BF.out 0; have zBF1 : w1_.cell? ⟨gf, 1, none⟩ = some (.int .i64 0) := (bkcl BF 1).trans rfl; have fBF1 := ag BF.out 1; have zBF2 : w1_.cell? ⟨gf, 2, none⟩ = some (.int .i64 0) := (bkcl BF 2).trans rfl; have fBF2 := ag BF.out 2) | (go_at_call 76; (with_reducible refine (bU.n0 k a0_0 _ _ l0_1 false _ ?side1 ?side2 HF.out).mono ?_); (case side1 => exact pC (Kd.r5 HR.out HB.out)); (case side2 => exact HC.out); rintro e w' ⟨rfl, ⟨nd, rfl⟩⟩))
  refine bodyPost_ret (cB rfl _ _ gf 74 #[.int .i64 0, .int .i64 0, .int .i64 0] (0, 0) _ rfl (by refine pkx ?_; refine aj (cs := #[.int .i64 0, .int .i64 0, .int .i64 0]) ?_ 2 _ rfl; refine pkx ?_; refine aj (cs := #[.int .i64 0, .int .i64 0, .int .i64 0]) ?_ 1 _ rfl; refine pkx ?_; refine aj (cs := #[.int .i64 0, .int .i64 0, .int .i64 0]) ?_ 0 _ rfl; refine pkx ?_; exact BF.out) underlying74 rfl (by kernel_rfl)) rfl ?_; exact ⟨rs_, (pb HB)⟩
end Go.Proofs.YtbdloopelidneaaGreat.A
namespace Go.Proofs.YtbdloopelidneaaGreat.A
open Go.RowKit Go.Proofs.YtbdloopelidneaaGreatW.PrintWords Go.Proofs.YtbdloopelidneaaGreatW.PrintLast Go.Proofs.YtbdloopelidneaaGreatW.PrintMore Tryz
attribute [local go_sem] cy ct cP cN b7 b9 cu cv
set_option linter.unusedVariables false
set_option linter.unusedSimpArgs false
def bk.f (k : Nat) (a0_0 : Int) (l0_1 : List Int) : Option (Bool) := (ao.f k a0_0 l0_1).bind fun btq0 => ((bU.f k a0_0 l0_1).bind fun tq1 => (if tq1 = true then (if (l0_1.length : Int) > 0 then (some (!btq0.2.2.2)) else (some false)) else (some false)))
theorem bk.n0 (k : Nat) (a0_0 : Int) (A0_1 : Option Addr) (c0_1 : Nat) (l0_1 : List Int) (r : Bool) (w : World) (hr0_1 : Kd.C (Kd.int .i64) w A0_1 l0_1.length l0_1) (hc0_1 : l0_1.length ≤ c0_1) (h : bk.f k a0_0 l0_1 = some r) :
  CB Tryz.prog 62 #[.agg #[.int .i64 a0_0, .slice A0_1 l0_1.length c0_1]] w (.bool r) := by
 have hu26 := underlying26; have hu74 := underlying74; have HR0_1 := aQ hr0_1; have HC0_1 := aQ hc0_1; clear hr0_1 hc0_1; have HB := aQ (Below.refl w.heap.size w); have H := h; clear h; unfold bk.f at H; (try dsimp only at H); replace H := bo H; obtain ⟨⟨tq0, tq2, tq3, tq4⟩, A2, H⟩ := H; (try dsimp only at H); replace H := bo H; obtain ⟨tq1, A3, H⟩ := H; replace H := ckB H; obtain ⟨rfl, H⟩ | ⟨rfl, H⟩ := H
 ·by_cases c5 : (l0_1.length : Int) > 0
  ·rw [if_pos c5] at H; have c5b0 := decide_eq_true c5; have c5b1 : decide (0 < l0_1.length) = true := decide_eq_true (by omega); clear c5; obtain rfl := oj H; go_enter func62, ntmps62; go_wp2_with (first | ((with_reducible refine gate_dst (N := 1) rfl ?_); (try (refine bq (by rfl) ?_; dsimp only)); refine bx 1 #[.int .i64 a0_0, .slice A0_1 l0_1.length c0_1] 26 ?_; intro gbq5 hg w6 hbox hb; have BKq5 := aQ (hbox); have GEq5 := gB HB hg; replace HB := bs HB hb; clear hb hbox hg; obtain ⟨_, _, _, _⟩ := cz2 BKq5) | (refine gt 117 ?_; refine gcB (some 7) func117 (ao.n0 k a0_0 _ _ l0_1 tq0 tq2 tq3 tq4 _ (pC (Cbel HR0_1 HB)) HC0_1.out A2.out) ?_; intro w8 hb; replace BKq5 := bb BKq5 hb; replace HB := bs HB hb; (try clear hb)) | ((with_reducible refine gate_dst (N := 3) rfl ?_); (try (refine bq (by rfl) ?_; dsimp only)); refine bx 3 #[.int .i64 0, .int .i64 0, .int .i64 0] 74 ?_; intro gbq6 hg w9 hbox hb; have BKq6 := aQ (hbox); have GEq6 := gB HB hg; replace HB := bs HB hb; have NBq5_q6 := nl BKq5 hg; have NBq6_q5 := ng BKq5 hg; replace BKq5 := bb BKq5 hb; clear hb hbox hg; have := NBq6_q5.out; have := NBq5_q6.out; have hcz11_0 := bc (v := (.int .i64 0)) BKq6.out 0; have hcz11_1 := bc (v := (.int .i64 0)) BKq6.out 1; have hcz11_2 := bc (v := (.int .i64 0)) BKq6.out 2; have hfz11_0 := ag BKq6.out 0; have hfz11_1 := ag BKq6.out 1; have hfz11_2 := ag BKq6.out 2; obtain ⟨_, _, _, _⟩ := cz2 BKq5) | (refine gt 76 ?_; refine gcD (some 14) func76 (bU.n0 k a0_0 _ _ l0_1 true _ (Kd.r5 HR0_1.out (aq HB GEq5 GEq6)) HC0_1.out A3.out) ?_; intro nd))
   go_ret
   exact ⟨re_, aq HB GEq5 GEq6⟩
  ·rw [if_neg c5] at H; have c5b0 := decide_eq_false c5; have c5b1 : decide (0 < l0_1.length) = false := decide_eq_false (by omega); clear c5; obtain rfl := oj H; go_enter func62, ntmps62; go_wp2_with (first | ((with_reducible refine gate_dst (N := 1) rfl ?_); (try (refine bq (by rfl) ?_; dsimp only)); refine bx 1 #[.int .i64 a0_0, .slice A0_1 l0_1.length c0_1] 26 ?_; intro gbq5 hg w13 hbox hb; have BKq5 := aQ (hbox); have GEq5 := gB HB hg; replace HB := bs HB hb; clear hb hbox hg; obtain ⟨_, _, _, _⟩ := cz2 BKq5) | (refine gt 117 ?_; refine gcB (some 7) func117 (ao.n0 k a0_0 _ _ l0_1 tq0 tq2 tq3 tq4 _ (pC (Cbel HR0_1 HB)) HC0_1.out A2.out) ?_; intro w15 hb; replace BKq5 := bb BKq5 hb; replace HB := bs HB hb; (try clear hb)) | ((with_reducible refine gate_dst (N := 3) rfl ?_); (try (refine bq (by rfl) ?_; dsimp only)); refine bx 3 #[.int .i64 0, .int .i64 0, .int .i64 0] 74 ?_; intro gbq6 hg w16 hbox hb; have BKq6 := aQ (hbox); have GEq6 := gB HB hg; replace HB := bs HB hb; have NBq5_q6 := nl BKq5 hg; have NBq6_q5 := ng BKq5 hg; replace BKq5 := bb BKq5 hb; clear hb hbox hg; have := NBq6_q5.out; have := NBq5_q6.out; have hcz18_0 := bc (v := (.int .i64 0)) BKq6.out 0; have hcz18_1 := bc (v := (.int .i64 0)) BKq6.out 1; have hcz18_2 := bc (v := (.int .i64 0)) BKq6.out 2; have hfz18_0 := ag BKq6.out 0; have hfz18_1 := ag BKq6.out 1; have hfz18_2 := ag BKq6.out 2; obtain ⟨_, _, _, _⟩ := cz2 BKq5) | (refine gt 76 ?_; refine gcD (some 14) func76 (bU.n0 k a0_0 _ _ l0_1 true _ (Kd.r5 HR0_1.out (aq HB GEq5 GEq6)) HC0_1.out A3.out) ?_; intro nd))
   go_ret
   exact ⟨re_, aq HB GEq5 GEq6⟩
 ·obtain rfl := oj H; go_enter func62, ntmps62; go_wp2_with (first | ((with_reducible refine gate_dst (N := 1) rfl ?_); (try (refine bq (by rfl) ?_; dsimp only)); refine bx 1 #[.int .i64 a0_0, .slice A0_1 l0_1.length c0_1] 26 ?_; intro gbq5 hg w20 hbox hb; have BKq5 := aQ (hbox); have GEq5 := gB HB hg; replace HB := bs HB hb; clear hb hbox hg; obtain ⟨_, _, _, _⟩ := cz2 BKq5) | (refine gt 117 ?_; refine gcB (some 7) func117 (ao.n0 k a0_0 _ _ l0_1 tq0 tq2 tq3 tq4 _ (pC (Cbel HR0_1 HB)) HC0_1.out A2.out) ?_; intro w22 hb; replace BKq5 := bb BKq5 hb; replace HB := bs HB hb; (try clear hb)) | ((with_reducible refine gate_dst (N := 3) rfl ?_); (try (refine bq (by rfl) ?_; dsimp only)); refine bx 3 #[.int .i64 0, .int .i64 0, .int .i64 0] 74 ?_; intro gbq6 hg w23 hbox hb; have BKq6 := aQ (hbox); have GEq6 := gB HB hg; replace HB := bs HB hb; have NBq5_q6 := nl BKq5 hg; have NBq6_q5 := ng BKq5 hg; replace BKq5 := bb BKq5 hb; clear hb hbox hg; have := NBq6_q5.out; have := NBq5_q6.out; have hcz25_0 := bc (v := (.int .i64 0)) BKq6.out 0; have hcz25_1 := bc (v := (.int .i64 0)) BKq6.out 1; have hcz25_2 := bc (v := (.int .i64 0)) BKq6.out 2; have hfz25_0 := ag BKq6.out 0; have hfz25_1 := ag BKq6.out 1; have hfz25_2 := ag BKq6.out 2; obtain ⟨_, _, _, _⟩ := cz2 BKq5) | (refine gt 76 ?_; refine gcD (some 14) func76 (bU.n0 k a0_0 _ _ l0_1 false _ (Kd.r5 HR0_1.out (aq HB GEq5 GEq6)) HC0_1.out A3.out) ?_; intro nd))
  go_ret
  exact ⟨re_, aq HB GEq5 GEq6⟩
def ba.l0 : Nat → List Int → Int → List Int → Int → Int → Option (Int)
 | 0, _, _, _, _, _ => none
 | k + 1, x0, x5, x9, x10, x11 => if x11 < x10 then (if 0 ≤ x11 then (if x11 < (x9.length : Int) then (if 0 ≤ (rd x9 x11) then (if (rd x9 x11) < (x0.length : Int) then (if 0 ≤ (rd x0 (rd x9 x11)) then (ba.l0 k x0 (Go.bits .or .i64 x5 (shl .i64 1 (rd x0 (rd x9 x11)))) x9 x10 (wrap64 (x11 + 1))) else (none)) else (none)) else (none)) else (none)) else (none)) else (some x5)
def ba.f (k : Nat) (l0 : List Int) (a1 : Int) : Option (Int) := (aT.f k a1).bind fun tq0 => (ba.l0 k l0 0 tq0 (tq0.length : Int) 0)
theorem ba.r7 : ∀ k, (∀ y0 y1 y2 y3 y4, LeO (ba.l0 k y0 y1 y2 y3 y4) (ba.l0 (k + 1) y0 y1 y2 y3 y4))
 | 0 => fun _ _ _ _ _ r h => by simp [ba.l0] at h
 | k + 1 => by
  have ih0 := ba.r7 k
  ·intro y0 y1 y2 y3 y4; unfold ba.l0
   repeat' first | (with_reducible first | exact ih0 _ _ _ _ _ | exact aT.mono _ _ | exact LeO.refl _ | exact LeO.none _ | refine LeO.ite ?_ ?_ | refine LeO.bind ?_ (fun _ => ?_)) | exact ih0 _ _ _ _ _ | exact LeO.none _ | refine LeO.ite ?_ ?_ | refine LeO.bind ?_ (fun _ => ?_)
theorem ba.mono : ∀ a0 a1 k, LeO (ba.f k a0 a1) (ba.f (k + 1) a0 a1) := by
 intro a0 a1 k; have ih0 := ba.r7 k; unfold ba.f
 repeat' first | (with_reducible first | exact ih0 _ _ _ _ _ | exact aT.mono _ _ | exact LeO.refl _ | exact LeO.none _ | refine LeO.ite ?_ ?_ | refine LeO.bind ?_ (fun _ => ?_)) | exact ih0 _ _ _ _ _ | exact LeO.none _ | refine LeO.ite ?_ ?_ | refine LeO.bind ?_ (fun _ => ?_)
theorem ba.n0 (k : Nat) (A0 : Option Addr) (c0 : Nat) (l0 : List Int) (a1 : Int) (r : Int) (w : World) (hr0 : Kd.C (Kd.int .i64) w A0 l0.length l0) (hc0 : l0.length ≤ c0) (h : ba.f k l0 a1 = some r) :
  CB Tryz.prog 105 #[.slice A0 l0.length c0, .int .i64 a1] w (.int .i64 r) := by
 have HR0 := aQ hr0; have HC0 := aQ hc0; clear hr0 hc0; have HB := aQ (Below.refl w.heap.size w); have H := h; clear h; unfold ba.f at H; (try dsimp only at H); replace H := bo H; obtain ⟨tq0, A3, H⟩ := H; have H' := aQ H; clear H; go_enter func105, ntmps105; go_wp2_with (first | (refine gt 132 ?_; refine gc (some 9) func132 (aT.n0 k a1 tq0 _ A3.out) ?_; rintro e w4 ⟨vq1, rfl, ho0, hb⟩; refine ⟨_, rfl, ?_⟩; have HOq2 := aQ (Kd.n8 ho0 (aa (au HB))); replace HB := bs HB hb; (try clear hb); (try clear ho0); obtain ⟨Ao5, co5, eo5⟩ := Kd.n9 HOq2.out; subst eo5))
 go_loopg [5, 11] k (fun kq v5 v11 w' => ∃ (x5_1 : Int) (x11_1 : Int), v5 = .int .i64 x5_1 ∧ v11 = .int .i64 x11_1 ∧ Aside0 (ba.l0 kq l0 x5_1 tq0 (tq0.length : Int) x11_1 = some r) ∧ Aside0 (kq ≤ k) ∧ Aside0 (Kd.R (Kd.int .i64) 3 w' w.heap.size (fun _ => True) (.slice Ao5 tq0.length co5) tq0) ∧ Aside0 (Below w.heap.size w w'))
 case atStart => exact ⟨(0), (0), rs_, rs_, H', ⟨Nat.le_refl _⟩, ⟨ac HOq2⟩, ⟨au HB⟩⟩
 clear H'; obtain ⟨x5_1, x11_1, rfl, rfl, HA, HK1, HO_9, HB⟩ := hrel; rcases gk with _ | k1
 ·exact absurd HA.out (by simp [ba.l0])
 have H := HA.out; clear HA; simp only [ba.l0] at H; replace H := ckD H; obtain ⟨c6b0, H⟩ | ⟨c6b0, H⟩ := H
 ·replace H := gdD H; obtain ⟨c7b0, H⟩ := H; replace H := gdD H; obtain ⟨c8b0, H⟩ := H; replace H := gdD H; obtain ⟨c9b0, H⟩ := H; replace H := gdD H; obtain ⟨c10b0, H⟩ := H; replace H := gdB H; obtain ⟨c11b0, c11b1, H⟩ := H; obtain ⟨ji12, hji12⟩ : ∃ j_ : Int, (shl .i64 1 (rd l0 (rd tq0 x11_1))) = j_ := ⟨_, rfl⟩; (first | rw [hji12] at H | simp only [hji12] at H); have hji12_ : (IntKind.i64.wrap (1 * 2 ^ min (rd l0 (rd tq0 x11_1)).toNat 64)) = ji12 := hji12; have hji12z : (rd l0 (rd tq0 x11_1)) ≤ 64 → (IntKind.i64.wrap (1 * 2 ^ (rd l0 (rd tq0 x11_1)).toNat)) = ji12 := dr hji12; have hji12u : (IntKind.i64.wrap (2 ^ min (rd l0 (rd tq0 x11_1)).toNat 64)) = ji12 := by have h_ := hji12_; rw [Int.one_mul] at h_; exact h_
  have hji12v : (rd l0 (rd tq0 x11_1)) ≤ 64 → (IntKind.i64.wrap (2 ^ (rd l0 (rd tq0 x11_1)).toNat)) = ji12 := fun hle_ => by have h_ := hji12z hle_; rw [Int.one_mul] at h_; exact h_
  have hji12y : (wrap64 (1 * 2 ^ min (rd l0 (rd tq0 x11_1)).toNat 64)) = ji12 := (i64_w _).symm.trans hji12_; have hji12x : (rd l0 (rd tq0 x11_1)) ≤ 64 → (wrap64 (1 * 2 ^ (rd l0 (rd tq0 x11_1)).toNat)) = ji12 := fun h_ => (i64_w _).symm.trans (hji12z h_)
  have H' := aQ H; clear H; have pq3 : 0 ≤ (x11_1 : Int) := of_decide_eq_true as_; have qq3 : x11_1 < (tq0.length : Int) := of_decide_eq_true as_; obtain ⟨adq3, eq3, hxq3_0⟩ := Kd.o5 (Kd.n4 HO_9.out).2.2 x11_1 pq3 qq3; cases eq3; replace pq3 := eq_true pq3; replace qq3 := eq_true qq3; have pq4 : 0 ≤ ((rd tq0 x11_1) : Int) := of_decide_eq_true as_; have qq4 : (rd tq0 x11_1) < (l0.length : Int) := of_decide_eq_true as_; obtain ⟨adq4, eq4, hxq4_0⟩ := Kd.o5 HR0.out (rd tq0 x11_1) pq4 qq4; cases eq4; replace hxq4_0 := (HB.out.cell (World.block_lt_of_cell? w _ hxq4_0)).trans hxq4_0; replace pq4 := eq_true pq4; replace qq4 := eq_true qq4; go_wp2
  go_roundg k1
  case measure => exact omeg HK1
  case rel => exact ⟨(Go.bits .or .i64 x5_1 (ji12)), (wrap64 (x11_1 + 1)), (by first | rfl | (simp; done) | (simp only [← hji12] <;> (first | rfl | simp)) | (simp [*]; done)), rs_, H', ⟨omeg HK1⟩, ⟨ac HO_9⟩, ⟨au HB⟩⟩
 ·obtain rfl := oj H; go_wp2
  go_ret
  exact ⟨re_, au HB⟩
def ca.f (a0 : Int) : Option (Bool) := some (a0 != a0)
theorem ca.n0 (a0 : Int) (r : Bool) (w : World) (h : ca.f a0 = some r) :
  CD Tryz.prog 157 #[.int .i64 a0] w (.bool r) := by
 have H : (some (a0 != a0)) = some r := h; clear h; obtain rfl := oj H; go_enter func157, ntmps157; go_wp2
 go_ret
 exact ⟨rs_, rd_⟩
end Go.Proofs.YtbdloopelidneaaGreat.A
namespace Go.Proofs.YtbdloopelidneaaGreat.A
open Go.RowKit Go.Proofs.YtbdloopelidneaaGreatW.PrintWords Go.Proofs.YtbdloopelidneaaGreatW.PrintLast Go.Proofs.YtbdloopelidneaaGreatW.PrintMore Go.Proofs.YtbdloopelidneaaGreat.Z Tryz
attribute [local go_sem] cy ct cP cN b7 b9 cu cv
set_option linter.unusedVariables false
set_option linter.unusedSimpArgs false
def jt : Go.Shelf.Ren := ⟨fun | 189 => 108 | 125 => 121 | 257 => 133 | 128 => 149 | 129 => 150 | 294 => 159 | 295 => 160 | 296 => 161 | 297 => 162 | 298 => 163 | 299 => 164 | 216 => 165 | 300 => 166 | 301 => 167 | 328 => 179 | 329 => 170 | 330 => 171 | 331 => 180 | 332 => 181 | 215 => 157 | 343 => 187 | n => n, fun | 28 => 24 | 3 => 3 | 46 => 64 | 0 => 0 | 51 => 104 | 53 => 106 | 4 => 4 | 183 => 110 | 182 => 109 | 131 => 114 | 5 => 5 | 9 => 9 | 218 => 126 | 222 => 130 | 228 => 139 | 229 => 140 | n => n, fun | n => n⟩
theorem jM : Go.Proofs.Lays.n189 Tryz.prog jt := {
 mixed := by kernel_rfl
 f125 := func121.trans (congrArg some (by kernel_rfl))
 f128 := func149.trans (congrArg some (by kernel_rfl))
 f129 := func150.trans (congrArg some (by kernel_rfl))
 f189 := func108.trans (congrArg some (by kernel_rfl))
 f215 := func157.trans (congrArg some (by kernel_rfl))
 f216 := func165.trans (congrArg some (by kernel_rfl))
 f257 := func133.trans (congrArg some (by kernel_rfl))
 f294 := func159.trans (congrArg some (by kernel_rfl))
 f295 := func160.trans (congrArg some (by kernel_rfl))
 f296 := func161.trans (congrArg some (by kernel_rfl))
 f297 := func162.trans (congrArg some (by kernel_rfl))
 f298 := func163.trans (congrArg some (by kernel_rfl))
 f299 := func164.trans (congrArg some (by kernel_rfl))
 f300 := func166.trans (congrArg some (by kernel_rfl))
 f301 := func167.trans (congrArg some (by kernel_rfl))
 f328 := func179.trans (congrArg some (by kernel_rfl))
 f329 := func170.trans (congrArg some (by kernel_rfl))
 f330 := func171.trans (congrArg some (by kernel_rfl))
 f331 := func180.trans (congrArg some (by kernel_rfl))
 f332 := func181.trans (congrArg some (by kernel_rfl))
 f343 := func187.trans (congrArg some (by kernel_rfl))
 t0 := underlying0
 a0 := Tryz.isAgg0
 z0 := Tryz.sizeOf0
 v0 := Tryz.zeroValue0
 t3 := underlying3
 a3 := Tryz.isAgg3
 z3 := Tryz.sizeOf3
 v3 := Tryz.zeroValue3
 t4 := underlying4
 a4 := Tryz.isAgg4
 z4 := Tryz.sizeOf4
 v4 := Tryz.zeroValue4
 t5 := underlying5
 a5 := Tryz.isAgg5
 z5 := Tryz.sizeOf5
 v5 := Tryz.zeroValue5
 t9 := underlying9
 a9 := Tryz.isAgg9
 z9 := Tryz.sizeOf9
 v9 := Tryz.zeroValue9
 t28 := underlying24
 a28 := Tryz.isAgg24
 z28 := Tryz.sizeOf24
 v28 := Tryz.zeroValue24
 t46 := underlying64
 a46 := Tryz.isAgg64
 z46 := Tryz.sizeOf64
 v46 := Tryz.zeroValue64
 t51 := underlying104
 a51 := Tryz.isAgg104
 z51 := Tryz.sizeOf104
 v51 := Tryz.zeroValue104
 t53 := underlying106
 a53 := Tryz.isAgg106
 z53 := Tryz.sizeOf106
 v53 := Tryz.zeroValue106
 t131 := underlying114
 a131 := Tryz.isAgg114
 z131 := Tryz.sizeOf114
 v131 := Tryz.zeroValue114
 t182 := underlying109
 a182 := Tryz.isAgg109
 z182 := Tryz.sizeOf109
 v182 := Tryz.zeroValue109
 t183 := underlying110
 a183 := Tryz.isAgg110
 z183 := Tryz.sizeOf110
 v183 := Tryz.zeroValue110
 t218 := underlying126
 a218 := Tryz.isAgg126
 z218 := Tryz.sizeOf126
 v218 := Tryz.zeroValue126
 t222 := underlying130
 a222 := Tryz.isAgg130
 z222 := Tryz.sizeOf130
 v222 := Tryz.zeroValue130
 t228 := underlying139
 a228 := Tryz.isAgg139
 z228 := Tryz.sizeOf139
 v228 := Tryz.zeroValue139
 t229 := underlying140
 a229 := Tryz.isAgg140
 z229 := Tryz.sizeOf140
 v229 := Tryz.zeroValue140 }
set_option maxHeartbeats 2000000 in
theorem gp (A : Option Addr) (c : Nat) (xs : List Int) (base : Nat) (ok : Nat → Prop) (w : World)
  (h : Kd.R (Kd.int .i64) 3 w base ok (.slice A xs.length c) xs) (hb : base ≤ w.heap.size) (hl : xs.length < 17592186044416) :
  Calls Tryz.prog 108 #[.slice A xs.length c] w fun e w' => e = .returned (.tuple #[]) ∧ Kd.R (Kd.int .i64) 3 w' base ok (.slice A xs.length c) (xs.mergeSort fun x y => decide (x ≤ y)) ∧ Below base w w' := by
 rcases kW h with ⟨rfl, rfl⟩ | ⟨g, rfl, hg, hlt, hc⟩
 ·refine (Any.slices_Sort_int_none jM none c w).mono ?_; rintro e w' ⟨rfl, rfl⟩; exact ⟨rfl, by simpa using h, Below.refl _ _⟩
 ·refine (Any.slices_Sort_int jM g 0 c xs w (kQ h) hlt (by omega)).mono ?_; rintro e w' ⟨rfl, n, os, rfl⟩; have hy := List.length_mergeSort (le := fun (x y : Int) => decide (x ≤ y)) xs; refine ⟨rfl, ?_, jk (Below.refl _ _) hg hb n _ os⟩; have := j7 h hy n os
  rwa [hy] at this
def hO : Go.Shelf.Ren := ⟨fun | 20 => 153 | n => n, fun | 22 => 24 | 3 => 3 | 4 => 4 | 0 => 0 | n => n, fun | n => n⟩
theorem gX : Go.Proofs.Lays2.n20 Tryz.prog hO := {
 mixed := by kernel_rfl
 f20 := func153.trans (congrArg some (by kernel_rfl))
 t0 := underlying0
 a0 := Tryz.isAgg0
 z0 := Tryz.sizeOf0
 v0 := Tryz.zeroValue0
 t3 := underlying3
 a3 := Tryz.isAgg3
 z3 := Tryz.sizeOf3
 v3 := Tryz.zeroValue3
 t4 := underlying4
 a4 := Tryz.isAgg4
 z4 := Tryz.sizeOf4
 v4 := Tryz.zeroValue4
 t22 := underlying24
 a22 := Tryz.isAgg24
 z22 := Tryz.sizeOf24
 v22 := Tryz.zeroValue24
 i3 := by kernel_rfl }
set_option maxHeartbeats 2000000 in
theorem g8 (A : Option Addr) (c : Nat) (xs : List Int) (base : Nat) (ok : Nat → Prop) (w : World)
  (h : Kd.R (Kd.int .i64) 3 w base ok (.slice A xs.length c) xs) (hb : base ≤ w.heap.size) (hl : xs.length < 17592186044416) :
  Calls Tryz.prog 153 #[.slice A xs.length c] w fun e w' => e = .returned (.slice A (Lib.compact xs).length c) ∧ Kd.R (Kd.int .i64) 3 w' base ok (.slice A (Lib.compact xs).length c) (Lib.compact xs) ∧ Below base w w' := by
 rcases kW h with ⟨rfl, rfl⟩ | ⟨g, rfl, hg, hlt, hc⟩
 ·refine (Any.slices_Compact_int_empty gX none c w).mono ?_; rintro e w' ⟨rfl, rfl⟩; exact ⟨rfl, h, Below.refl _ _⟩
 ·refine (Any.slices_Compact_int gX g 0 c xs w (kQ h) (by omega) hc).mono ?_; rintro e w' ⟨rfl, n, rfl⟩; refine ⟨rfl, ?_, kE (Below.refl _ _) hg hb n _⟩; have hlen := jL xs; have hy : (Lib.compact xs ++ List.replicate (xs.length - (Lib.compact xs).length) 0).length = xs.length := by
   rw [List.length_append, List.length_replicate]; omega
  have h1 := kN h hy n; have h2 := Kd.F0 h1 (m := (Lib.compact xs).length) (by rw [List.length_append]; omega)
  rwa [List.take_left] at h2
def dD.f (l : List Int) : Option (List Int) := if l.length < 17592186044416 then some (jf l) else none
set_option maxHeartbeats 4000000 in
theorem dD.n0 (A0 : Option Addr) (c0 : Nat) (l0 : List Int) (r : List Int) (w : World) (hr0 : Kd.C (Kd.int .i64) w A0 l0.length l0) (hc0 : l0.length ≤ c0) (h : dD.f l0 = some r) :
  Calls Tryz.prog 125 #[.slice A0 l0.length c0] w fun e w' => ∃ v0_ : Value, e = .returned (v0_) ∧ Kd.R (Kd.int .i64) 3 w' w.heap.size (fun _ => True) v0_ r ∧ Below w.heap.size w w' := by
 unfold dD.f at h; by_cases hlt : l0.length < 17592186044416
 ·rw [if_pos hlt] at h; simp only [Option.some.injEq] at h; subst h; have HR := aQ hr0; have HLM := aQ hlt; have HB := aQ (Below.refl w.heap.size w); clear hr0 hc0 hlt; go_enter func125, ntmps125; go_wp2_with (first | ((with_reducible refine gate_dst (N := 4) rfl ?_); refine Kd.C3 (Kd.int .i64) _ 3 ?hg (N := 4) ?hd (xs := ([] : List Int)) (inner := []) (ok := fun _ => True) (okp := fun _ => True) ?hr ?hp (fun _ hk => hk) trivial (Below.refl _ _) (Nat.le_refl _) (by simp) ?_; (case hd => rfl); (case hg => rfl); (case hr => first | (go_simp; done) | (go_simp; rfl)); (case hp => exact (Reps.none _ _)); intro v9_ w2 ho3 hb hg_ hnew_; clear hg_ hnew_; have HO := aQ (Kd.n8 ho3 (aa (au HB))); replace HB := bs HB hb; clear hb ho3) | ((with_reducible refine gate_builtin (b := .append) (xs := #[.tmp 4, .tmp 5]) rfl ?_); at_builtin; refine Kd.y8 (Kd.int .i64) (w0 := w) w.heap.size rfl (.tmp 4) (.tmp 5) 24 3 (.int .i64 0) 8 rfl underlying24 cp rfl (by decide) (by omega) v9_ ([] : List Int) l0 _ _ _ (fun _ => True) (fun _ => False) rfl rfl ?aO ?aR (fun _ _ h => h) (fun _ h => h.elim) ?aF ?aB ?aS ?aL ?_; (case aR => exact pC (Kd.r5 HR.out HB.out)); (case aB => exact (au HB)); (case aF => exact (fun _ _ => trivial)); (case aO => exact (ac HO)); (case aS => exact (aa (au HB))); (case aL => have := HLM.out; simp only [List.length_nil]; omega); intro v8_ w8 ho hb hg hat; rw [List.nil_append] at ho; replace HB := aQ (hb); replace HO := aQ (ho); clear ho hb hg hat; obtain ⟨AO, cO, eO⟩ := Kd.n9 HO.out; subst eO))
  refine (gp AO cO l0 w.heap.size (fun _ => True) _ (ac HO) (aa (au HB)) HLM.out).mono ?_; rintro e w9_ ⟨rfl, ho, hb⟩; have n0_ := aQ (Below.trans (au HB) hb); have hlen := List.length_mergeSort (le := fun (x y : Int) => decide (x ≤ y)) l0; generalize hys : (l0.mergeSort fun x y => decide (x ≤ y)) = ys at ho hlen; have HY := aQ hys; have HOY := aQ ho; have HLY := aQ hlen; clear HB HO ho hb hys hlen; have HB := n0_; clear n0_; go_wp2_with fail
  rw [← HLY.out]; refine (g8 AO cO ys w.heap.size (fun _ => True) _ (by refine pRx ?_; rw [HLY.out]; exact HOY.out) (aa (au HB)) (by rw [HLY.out]; exact HLM.out)).mono ?_; rintro e w9_ ⟨rfl, ho, hb⟩; have n0_ := aQ (Below.trans (au HB) hb); have HO := aQ ho; clear HB HOY ho hb; have HB := n0_; clear n0_; go_wp2
  go_ret
  exact ⟨_, rfl, by unfold jf; rw [HY.out]; refine pRx ?_; exact HO.out, au HB⟩
 ·rw [if_neg hlt] at h; cases h
end Go.Proofs.YtbdloopelidneaaGreat.A
namespace Go.Proofs.YtbdloopelidneaaGreat.A
open Go.RowKit Go.Proofs.YtbdloopelidneaaGreatW.PrintWords Go.Proofs.YtbdloopelidneaaGreatW.PrintLast Go.Proofs.YtbdloopelidneaaGreatW.PrintMore Tryz
attribute [local go_sem] cy ct cP cN b7 b9 cu cv
set_option linter.unusedVariables false
set_option linter.unusedSimpArgs false
def aZ.l0 : Nat → List Int → List Int → Int → Int → Int → List Int → Option (Int × List Int)
 | 0, _, _, _, _, _, _ => none
 | k + 1, x1, x12, x13, x14, x87004000, x87004001 => if x14 < x13 then (if 0 ≤ x14 then (if x14 < (x12.length : Int) then ((ba.f k x1 (rd x12 x14)).bind fun tq0 => (if x87004001.length < 17592186044416 then (aZ.l0 k x1 x12 x13 (wrap64 (x14 + 1)) x87004000 (x87004001 ++ [tq0])) else (none))) else (none)) else (none)) else ((dD.f x87004001).bind fun tq1 => (some (x87004000, tq1)))
def aZ.f (k : Nat) (a0_0 : Int) (l0_1 : List Int) (l1 : List Int) : Option (Int × List Int) := aZ.l0 k l1 l0_1 (l0_1.length : Int) 0 a0_0 ([] : List Int)
theorem aZ.r7 : ∀ k, (∀ y0 y1 y2 y3 y4 y5, LeO (aZ.l0 k y0 y1 y2 y3 y4 y5) (aZ.l0 (k + 1) y0 y1 y2 y3 y4 y5))
 | 0 => fun _ _ _ _ _ _ r h => by simp [aZ.l0] at h
 | k + 1 => by
  have ih0 := aZ.r7 k
  ·intro y0 y1 y2 y3 y4 y5; unfold aZ.l0
   repeat' first | (with_reducible first | exact ih0 _ _ _ _ _ _ | exact ba.mono _ _ _ | exact LeO.refl _ | exact LeO.none _ | refine LeO.ite ?_ ?_ | refine LeO.bind ?_ (fun _ => ?_)) | exact ih0 _ _ _ _ _ _ | exact LeO.none _ | refine LeO.ite ?_ ?_ | refine LeO.bind ?_ (fun _ => ?_)
theorem aZ.mono : ∀ a0 a1 a2 k, LeO (aZ.f k a0 a1 a2) (aZ.f (k + 1) a0 a1 a2) := by
 intro a0 a1 a2 k; have ih0 := aZ.r7 k; unfold aZ.f
 repeat' first | (with_reducible first | exact ih0 _ _ _ _ _ _ | exact ba.mono _ _ _ | exact LeO.refl _ | exact LeO.none _ | refine LeO.ite ?_ ?_ | refine LeO.bind ?_ (fun _ => ?_)) | exact ih0 _ _ _ _ _ _ | exact LeO.none _ | refine LeO.ite ?_ ?_ | refine LeO.bind ?_ (fun _ => ?_)
def aZ.T5 : Bool × List (List Nat × List Nat) := (true, [([], []), ([0], [0]), ([], []), ([], []), ([2, 3], [2, 3]), ([4], [4]), ([1, 5, 4], [1, 5]), ([0, 1, 2, 3, 4, 5, 6], []), ([7, 6, 6, 0, 1, 2, 3, 4, 5, 6], [6, 7])])
def aZ.B5 : List Nat := [0, 1, 0, 0, 12, 28, 63, 127, 255]
theorem aZ.tab5 : rtab .any (dG Tryz.f86 5) = aZ.T5 := by kernel_rfl
theorem aZ.bits5 : cC aZ.T5.2 aZ.B5 = true := by kernel_rfl
theorem aZ.n0 (k : Nat) (a0_0 : Int) (A0_1 : Option Addr) (c0_1 : Nat) (l0_1 : List Int) (A1 : Option Addr) (c1 : Nat) (l1 : List Int) (r1 : Int) (r2 : List Int) (w : World) (hr0_1 : Kd.C (Kd.int .i64) w A0_1 l0_1.length l0_1) (hc0_1 : l0_1.length ≤ c0_1) (hr1 : Kd.C (Kd.int .i64) w A1 l1.length l1) (hc1 : l1.length ≤ c1) (h : aZ.f k a0_0 l0_1 l1 = some (r1, r2)) :
  Calls Tryz.prog 86 #[.agg #[.int .i64 a0_0, .slice A0_1 l0_1.length c0_1], .slice A1 l1.length c1] w fun e w' => ∃ v1_ : Value, e = .returned (.agg #[.int .i64 r1, v1_]) ∧ Kd.R (Kd.int .i64) 3 w' w.heap.size (fun _ => True) v1_ r2 ∧ Below w.heap.size w w' := by
 have hu26 := underlying26; have HR0_1 := aQ hr0_1; have HC0_1 := aQ hc0_1; clear hr0_1 hc0_1; have HR1 := aQ hr1; have HC1 := aQ hc1; clear hr1 hc1; have HB := aQ (Below.refl w.heap.size w); have H := h; clear h; unfold aZ.f at H; (try dsimp only at H); have H' := aQ H; clear H; go_enter func86, ntmps86; go_wp2_with (first | (refine bX 2 #[.int .i64 a0_0, .slice A0_1 l0_1.length c0_1] 26 ?_; intro gbq2 hg w3 BKq2 hb; have GEq2 := gB HB hg; replace HB := bs HB hb; clear hb hg) | (refine bX 4 #[.int .i64 0, .slice none 0 0] 26 ?_; intro gbq3 hg w4 BKq3 hb; have GEq3 := gB HB hg; replace HB := bs HB hb; have NBq2_q3 := nl BKq2 hg; have NBq3_q2 := ng BKq2 hg; replace BKq2 := bb BKq2 hb; clear hb hg; have := NBq2_q3.out; have := NBq3_q2.out; obtain ⟨hcz6_0, hcz6_1, hfz6_0, hfz6_1⟩ := cz2 BKq2) | (refine bX 5 #[.int .i64 0, .slice none 0 0] 26 ?_; intro gbq4 hg w7 BKq4 hb; have GEq4 := gB HB hg; replace HB := bs HB hb; have NBq2_q4 := nl BKq2 hg; have NBq4_q2 := ng BKq2 hg; replace BKq2 := bb BKq2 hb; have NBq3_q4 := nl BKq3 hg; have NBq4_q3 := ng BKq3 hg; replace BKq3 := bb BKq3 hb; clear hb hg; have := NBq4_q2.out; have := NBq2_q4.out; have := NBq4_q3.out; have := NBq3_q4.out; obtain ⟨hcz10_0, hcz10_1, hfz10_0, hfz10_1⟩ := cz2 BKq4; obtain ⟨hcz11_0, hcz11_1, hfz11_0, hfz11_1⟩ := cz2 BKq2))
 go_loopg [14] k (fun kq v14 w' => ∃ (x14_1 : Int) (x87004001_1 : List Int) (u87004001 : Value), v14 = .int .i64 x14_1 ∧ Aside0 (aZ.l0 kq l1 l0_1 (l0_1.length : Int) x14_1 a0_0 x87004001_1 = some (r1, r2)) ∧ Aside0 (kq ≤ k) ∧ Aside0 (Kd.R (Kd.int .i64) 3 w' w.heap.size (fun _ => True) u87004001 x87004001_1) ∧ Aside0 (w'.heap[gbq2]? = some (.cells #[.int .i64 a0_0, (.slice A0_1 l0_1.length c0_1)] 26 (0, 0))) ∧ Aside0 (w'.heap[gbq3]? = some (.cells #[.int .i64 0, (.slice none 0 0)] 26 (0, 0))) ∧ Aside0 (w'.heap[gbq4]? = some (.cells #[.int .i64 a0_0, u87004001] 26 (0, 0))) ∧ Aside0 (Below w.heap.size w w'))
 case atStart => exact ⟨(0), (([] : List Int)), (.slice none 0 0), rs_, H', ⟨Nat.le_refl _⟩, ⟨by first | exact Kd.C0 _ _ _ _ _ | exact Kd.E7 _ _ _ _ _ | exact Kd.V_nil _ _ _ _ _ | exact Kd.E6 _ _ _ _ _ | exact Kd.E5 _ _ _ _ _⟩, ⟨by refine pkx ?_; refine ae ?_ NBq2_q4.out _; refine pkx ?_; refine ae ?_ NBq2_q4.out _; refine pkx ?_; exact BKq2.out⟩, ⟨by refine pkx ?_; refine ae ?_ NBq3_q4.out _; refine pkx ?_; refine ae ?_ NBq3_q4.out _; refine pkx ?_; exact BKq3.out⟩, ⟨by refine pkx ?_; refine aj (cs := #[.int .i64 a0_0, .slice none 0 0]) ?_ 1 _ rfl; refine pkx ?_; refine aj (cs := #[.int .i64 0, .slice none 0 0]) ?_ 0 _ rfl; refine pkx ?_; exact BKq4.out⟩, ⟨fZ HB GEq2 GEq3 GEq4⟩⟩
 clear H'; try clear c1
 try clear hcz10_0
 try clear hcz10_1
 try clear hcz11_0
 try clear hcz11_1
 try clear hcz6_0
 try clear hcz6_1
 try clear hfz10_0
 try clear hfz10_1
 try clear hfz11_0
 try clear hfz11_1
 try clear hfz6_0
 try clear hfz6_1
 obtain ⟨x14_1, x87004001_1, u87004001, rfl, HA, HK1, HO_87004001, BKq2, BKq3, BKq4, HB⟩ := hrel; rcases gk with _ | k1
 ·exact absurd HA.out (by simp [aZ.l0])
 have H := HA.out; clear HA; simp only [aZ.l0] at H; replace H := ckD H; obtain ⟨c12b0, H⟩ | ⟨c12b0, H⟩ := H
 ·replace H := gdD H; obtain ⟨c13b0, H⟩ := H; replace H := gdD H; obtain ⟨c14b0, H⟩ := H; replace H := bo H; obtain ⟨tq0, A15, H⟩ := H; replace H := gdA H; obtain ⟨LMc16, H⟩ := H; generalize hyq5 : x87004001_1 ++ [tq0] = yq5 at H
  have Nyq5 := aQ hyq5.symm; clear hyq5; have H' := aQ H; clear H; have pq6 : 0 ≤ (x14_1 : Int) := of_decide_eq_true as_; have qq6 : x14_1 < (l0_1.length : Int) := of_decide_eq_true as_; obtain ⟨adq6, eq6, hxq6_0⟩ := Kd.o5 HR0_1.out x14_1 pq6 qq6; cases eq6; replace hxq6_0 := (HB.out.cell (World.block_lt_of_cell? w _ hxq6_0)).trans hxq6_0; replace pq6 := eq_true pq6; replace qq6 := eq_true qq6; try go_wp2
  replace HO_87004001 := aQ (Kd.u4 HO_87004001.out); replace BKq2 := aQ (aH BKq2.out); replace BKq3 := aQ (aH BKq3.out); replace BKq4 := aQ (aH BKq4.out); replace HB := aQ (ai HB.out); refine cn (n := 9) (S := fun w' => w'.cell? ⟨gbq4, 0, none⟩ = some (.int .i64 a0_0) ∧ w'.cell? ⟨gbq4, 1, none⟩ = some (u87004001)) (ds := [8]) _ (by kernel_rfl) rfl rfl ⟨(bkcl BKq4 0).trans rfl, (bkcl BKq4 1).trans rfl⟩ (fun hHeld => ?_); refine bG aZ.tab5 aZ.bits5 (fun HT_ HW_ => ?_); generalize wr.drew = w17 at HO_87004001 BKq2 BKq3 BKq4 HB hHeld ⊢; refine pJ 0 (some 18) HT_ (ar 1 8) ?_; refine pJ 2 (some 20) HT_ #[true, false, true, false, false, false, false, false, false] ?_; refine pJ 3 (some 21) HT_ #[true, false, true, true, false, false, false, false, false] ?_; refine take_ (i := 1) (N := some 19) (v := ?_) (a' := ?_) (ar 4 5) rfl rfl (cE HT_.out HW_.out (by kernel_rfl)) (fun _ _ _ h => h) (Or.inl ⟨by rfl, ?_⟩) hHeld ?_ ?_
  rotate_left
  ·rintro w' ⟨s0, s1⟩; go_simp
   with_reducible rfl
  rotate_left
  ·simp only [Act.put, List.setIfInBounds_toArray, List.set_cons_zero, List.set_cons_succ, i64_w, cJ]
   rfl
  refine one_ (i := 4) (N := some 22) (ar 5 4) rfl rfl (cm HT_.out (by kernel_rfl)) (by decide) (fun K hK => ?_); refine gs func105 #[.slice A1 l1.length c1, .int .i64 (rd l0_1 x14_1)] ?_
  with_reducible refine (ba.n0 k1 _ _ l1 (rd l0_1 x14_1) tq0 _ ?side1 ?side2 A15.out).mono ?_
  (case side1 => exact pC (Cbel HR1 HB)); (case side2 => exact HC1.out)
  rintro e w18 ⟨rfl, hb⟩; refine ⟨_, rfl, ?_⟩; replace HO_87004001 := aQ (Kd.o0 (ac HO_87004001) hb); replace BKq2 := bb BKq2 hb; replace BKq3 := bb BKq3 hb; replace BKq4 := bb BKq4 hb; replace HB := bs HB hb; (try clear hb); (try clear hb2); (try clear hk); (try clear hi); refine hK.out _ _ ⟨(bkcl BKq4 0).trans rfl, (bkcl BKq4 1).trans rfl⟩ (fun hHeld => ?_); clear hK K; refine noN (some 22) (h := ?_); refine one_ (i := 5) (N := some 23) (ar 6 3) rfl rfl (cm HT_.out (by kernel_rfl)) (by decide) (fun K hK => ?_); refine gM (w1 := ?_) (v := ?_) (by rfl) rfl ?_ ?_
  rotate_left 2
  ·go_simp
   constructor
   ·rfl
   ·rfl
  refine hK.out _ _ ⟨(ab (dn BKq4.out _) 0).trans rfl, (ab (dn BKq4.out _) 1).trans rfl⟩ (fun hHeld => ?_); clear hK K; refine noN (some 23) (h := ?_); refine one_ (i := 6) (N := some 24) (ar 7 2) rfl rfl (cm HT_.out (by kernel_rfl)) (by decide) (fun K hK => ?_); refine Kd.z8 (Kd.int .i64) (w0 := w) w.heap.size (by rfl) (.tmp 19) (.tmp 23) 24 3 (.int .i64 0) 8 rfl underlying24 cp rfl (by decide) (by omega) u87004001 x87004001_1 tq0 [.int .i64 tq0] (fun _ => True) (fun _ => False) rfl rfl ?aP (fun _ hk => hk.elim) ?aF ?aO ?aB ?aS ?aL ?_; (case aP => exact rfl); (case aB => exact (fZ HB GEq2 GEq3 GEq4)); (case aF => exact (fun _ _ => trivial)); (case aO => exact (ac HO_87004001)); (case aS => exact (aa (fZ HB GEq2 GEq3 GEq4))); (case aL => have := LMc16.out; omega); intro vq7 w19 ho hb hg hat; rw [← Nyq5.out] at ho; replace BKq2 := aQ (bJ (g := gbq2) (o := .cells #[.int .i64 a0_0, .slice (some adq6) l0_1.length c0_1] 26 (0, 0)) (ah BKq2) hg (Kd.y9 HO_87004001.out BKq2.out (by decide))); replace BKq3 := aQ (bJ (g := gbq3) (o := .cells #[.int .i64 0, .slice none 0 0] 26 (0, 0)) (ah BKq3) hg (Kd.y9 HO_87004001.out BKq3.out (by decide))); replace BKq4 := aQ (bJ (g := gbq4) (o := .cells #[.int .i64 a0_0, u87004001] 26 (0, 0)) (ah BKq4) hg (Kd.y9 HO_87004001.out BKq4.out (by decide))); replace HB := aQ (hb); have HOq8 := aQ (ho); clear HO_87004001; clear ho hb hg hat; obtain ⟨Ao20, co20, eo20⟩ := Kd.n9 HOq8.out
  (first | subst eo20 | (injection eo20 with f1_ f2_ f3_; have f4_ := f1_.symm; have f5_ := f3_.symm; clear f1_ f2_ f3_; subst f4_; subst f5_)); refine hK.out _ _ ⟨(bkcl BKq4 0).trans rfl, (bkcl BKq4 1).trans rfl⟩ (fun hHeld => ?_)
  clear hK K; refine noN (some 24) (h := ?_); refine pJ 7 (some 25) HT_ (ar 8 1) ?_; refine jO (i := 8) (N := none) (ar 9 0) rfl rfl (cm HT_.out (by kernel_rfl)) (by decide) (fun K hK => ?_); have hs21 : w19.cell? ⟨gbq4, 1, none⟩ = some (u87004001) := (bkcl BKq4 1).trans rfl; have hfs21 := ag BKq4.out 1; have hns21_0 := NBq2_q4.out; have hns21_1 := NBq3_q4.out; have hms21_0 := NBq4_q2.out; have hms21_1 := NBq4_q3.out; refine eT (w1 := ?_) (by rfl) rfl ?_ ?_
  rotate_left
  ·go_simp
   rfl
  refine hK.out _ _ ?_; clear hK K; refine cV (cg HT_.out (by kernel_rfl)) ?_; try go_wp2
  go_roundg k1
  case measure => exact omeg HK1
  case rel => exact ⟨(wrap64 (x14_1 + 1)), (yq5), (.slice Ao20 yq5.length co20), rs_, H', ⟨omeg HK1⟩, ⟨by refine pRx ?_; exact rf1 HOq8 BKq4⟩, ⟨by refine pkx ?_; refine ae ?_ NBq2_q4.out _; refine pkx ?_; exact BKq2.out⟩, ⟨by refine pkx ?_; refine ae ?_ NBq3_q4.out _; refine pkx ?_; exact BKq3.out⟩, ⟨by refine pkx ?_; refine aj (cs := #[.int .i64 a0_0, u87004001]) ?_ 1 _ rfl; refine pkx ?_; exact BKq4.out⟩, ⟨fZ HB GEq2 GEq3 GEq4⟩⟩
 ·replace H := bo H; obtain ⟨tq1, A22, H⟩ := H; obtain ⟨rfl, rfl⟩ := o2 H; have := NBq4_q2.out; have := NBq2_q4.out; have := NBq4_q3.out; have := NBq3_q4.out; obtain ⟨_, _, _, _⟩ := cz2 BKq4; obtain ⟨Ao26, co26, eo26⟩ := Kd.n9 HO_87004001.out; subst eo26; go_wp2_with (first | (refine gt 125 ?_; refine gc (some 29) func125 (dD.n0 _ _ x87004001_1 tq1 _ (pC ((Kd.n4 HO_87004001.out).2.2)) ((Kd.n4 HO_87004001.out).2.1) A22.out) ?_; rintro e w27 ⟨vq9, rfl, ho0, hb⟩; refine ⟨_, rfl, ?_⟩; have HOqa := aQ (Kd.n8 (Kd.o9 ho0 (Kd.p8 (ac HO_87004001))) (aa (fZ HB GEq2 GEq3 GEq4))); replace HO_87004001 := aQ (Kd.o1 (ac HO_87004001) (Kd.o7 ho0) hb); replace BKq2 := bb BKq2 hb; replace BKq3 := bb BKq3 hb; replace BKq4 := bb BKq4 hb; replace HB := bs HB hb; (try clear hb); (try clear ho0); obtain ⟨Ao28, co28, eo28⟩ := Kd.n9 HOqa.out; subst eo28; obtain ⟨_, _, _, _⟩ := cz2 BKq4; have := NBq3_q2.out; have := NBq2_q3.out; obtain ⟨_, _, _, _⟩ := cz2 BKq3))
  refine bodyPost_ret (results_cell_row rfl _ _ gbq3 26 #[.int .i64 a0_0, .slice Ao28 tq1.length co28] (0, 0) _ rfl (by refine pkx ?_; refine aj (cs := #[.int .i64 a0_0, .slice none 0 0]) ?_ 1 _ rfl; refine pkx ?_; refine aj (cs := #[.int .i64 0, .slice none 0 0]) ?_ 0 _ rfl; refine pkx ?_; refine ae ?_ NBq3_q4.out _; refine pkx ?_; exact BKq3.out) underlying26 rfl (by kernel_rfl)) rfl ?_; exact ⟨_, re_, by refine pRx ?_; exact Kd.n7 (Kd.o8 (p := ⟨gbq3, 1, none⟩) (Kd.o8 (p := ⟨gbq3, 0, none⟩) (Kd.o8 (p := ⟨gbq4, 1, none⟩) (Kd.o6 (Kd.o6 HOqa.out BKq4.out (by decide)) BKq3.out (by decide)) (fun _ hk => hk.1.2) (.slice Ao28 tq1.length co28)) (fun _ hk => hk.2) (.int .i64 a0_0)) (fun _ hk => hk.2) (.slice Ao28 tq1.length co28)) (fun _ hk => trivial), fZ HB GEq2 GEq3 GEq4⟩
def ce.f (k : Nat) (a0_0 : Int) (l0_1 : List Int) (l1 : List Int) : Option (Int × List Int × Bool) := (bk.f k a0_0 l0_1).bind fun tq0 => (if tq0 = true then ((bm.f k a0_0 l1).bind fun tq1 => (if tq1 = true then ((aZ.f k a0_0 l0_1 l1).bind fun btq2 => (some (btq2.1, btq2.2, true))) else (some (0, ([] : List Int), false)))) else (some (0, ([] : List Int), false)))
theorem ce.z {p : Prop} (h : p := by go_enter func28, ntmps28; go_wp2_with (first | (refine bX 2 #[.int .i64 a0_0, .slice A0_1 l0_1.length c0_1] 26 ?_; intro gbq4 hg w2_a BKq4 hb; have GEq4 := gB HB hg; replace HB := bs HB hb; clear hb hg) | (refine bX 4 #[.int .i64 0, .slice none 0 0] 26 ?_; intro gbq5 hg w4_a BKq5 hb; have GEq5 := gB HB hg; replace HB := bs HB hb; have NBq4_q5 := nl BKq4 hg; have NBq5_q4 := ng BKq4 hg; replace BKq4 := bb BKq4 hb; clear hb hg; have := NBq4_q5.out; have := NBq5_q4.out; obtain ⟨_, _, _, _⟩ := cz2 BKq4) | (refine gt 62 ?_; refine gcB (some 7) func62 (bk.n0 k a0_0 _ _ l0_1 true _ (pC (Cbel HR0_1 HB)) HC0_1.out A3.out) ?_; intro w62_a hb; replace BKq4 := bb BKq4 hb; replace BKq5 := bb BKq5 hb; replace HB := bs HB hb; (try clear hb); obtain ⟨_, _, _, _⟩ := cz2 BKq4) | (go_at_call 40; (with_reducible refine (bm.n0 k a0_0 _ _ l1 true _ ?side1 ?side2 A5.out).mono ?_); (case side1 => exact pC (Cbel HR1 HB)); (case side2 => exact HC1.out); rintro e w' ⟨rfl, ⟨nd, rfl⟩⟩; (try (rw [cX w62_a]; generalize hq_ : World.drewN w62_a _ = w62_a; have n0_ : Aside0 (w62_a.heap[gbq4]? = some (.cells #[.int .i64 a0_0, .slice A0_1 l0_1.length c0_1] 26 (0, 0))) := ⟨by rw [← hq_]; exact (ah BKq4)⟩; have n1_ : Aside0 (w62_a.heap[gbq5]? = some (.cells #[.int .i64 0, .slice none 0 0] 26 (0, 0))) := ⟨by rw [← hq_]; exact (ah BKq5)⟩; have n2_ : Aside0 (Below w.heap.size w w62_a) := ⟨by rw [← hq_]; exact (aq HB GEq4 GEq5)⟩; clear BKq4 BKq5 HB hq_; have BKq4 := n0_; have BKq5 := n1_; have HB := n2_; clear n0_ n1_ n2_; have hcqgb29001_0 : w62_a.cell? ⟨gbq4, 0, none⟩ = some (.int .i64 a0_0) := (bkcl BKq4 0).trans rfl; have hfqgb29001_0 := ag BKq4.out 0; have hcqgb29001_1 : w62_a.cell? ⟨gbq4, 1, none⟩ = some (.slice A0_1 l0_1.length c0_1) := (bkcl BKq4 1).trans rfl; have hfqgb29001_1 := ag BKq4.out 1; have hcqgb29002_0 : w62_a.cell? ⟨gbq5, 0, none⟩ = some (.int .i64 0) := (bkcl BKq5 0).trans rfl; have hfqgb29002_0 := ag BKq5.out 0; have hcqgb29002_1 : w62_a.cell? ⟨gbq5, 1, none⟩ = some (.slice none 0 0) := (bkcl BKq5 1).trans rfl; have hfqgb29002_1 := ag BKq5.out 1))) | (refine gt 86 ?_; refine gc (some 19) func86 (aZ.n0 k a0_0 _ _ l0_1 _ _ l1 tq2 tq3 _ (pC (Cbel HR0_1 HB)) HC0_1.out (pC (Cbel HR1 HB)) HC1.out A7.out) ?_; rintro e w86_a ⟨vq6, rfl, ho86_b, hb⟩; refine ⟨_, rfl, ?_⟩; have HOq7 := aQ (Kd.n8 ho86_b (aa (aq HB GEq4 GEq5))); replace BKq4 := bb BKq4 hb; replace BKq5 := bb BKq5 hb; replace HB := bs HB hb; (try clear hb); (try clear ho86_b); obtain ⟨_, _, _, _⟩ := cz2 BKq5; obtain ⟨Ao86_c, co86_c, eo86_c⟩ := Kd.n9 HOq7.out; subst eo86_c) | (go_at_call 40; (with_reducible refine (bm.n0 k a0_0 _ _ l1 false _ ?side1 ?side2 A5.out).mono ?_); (case side1 => exact pC (Cbel HR1 HB)); (case side2 => exact HC1.out); rintro e w' ⟨rfl, ⟨nd, rfl⟩⟩; (try (rw [cX w62_a]; generalize hq_ : World.drewN w62_a _ = w62_a; have n0_ : Aside0 (w62_a.heap[gbq4]? = some (.cells #[.int .i64 a0_0, .slice A0_1 l0_1.length c0_1] 26 (0, 0))) := ⟨by rw [← hq_]; exact (ah BKq4)⟩; have n1_ : Aside0 (w62_a.heap[gbq5]? = some (.cells #[.int .i64 0, .slice none 0 0] 26 (0, 0))) := ⟨by rw [← hq_]; exact (ah BKq5)⟩; have n2_ : Aside0 (Below w.heap.size w w62_a) := ⟨by rw [← hq_]; exact (aq HB GEq4 GEq5)⟩; clear BKq4 BKq5 HB hq_; have BKq4 := n0_; have BKq5 := n1_; have HB := n2_; clear n0_ n1_ n2_; have hcqgb29001_0 : w62_a.cell? ⟨gbq4, 0, none⟩ = some (.int .i64 a0_0) := (bkcl BKq4 0).trans rfl; have hfqgb29001_0 := ag BKq4.out 0; have hcqgb29001_1 : w62_a.cell? ⟨gbq4, 1, none⟩ = some (.slice A0_1 l0_1.length c0_1) := (bkcl BKq4 1).trans rfl; have hfqgb29001_1 := ag BKq4.out 1; have hcqgb29002_0 : w62_a.cell? ⟨gbq5, 0, none⟩ = some (.int .i64 0) := (bkcl BKq5 0).trans rfl; have hfqgb29002_0 := ag BKq5.out 0; have hcqgb29002_1 : w62_a.cell? ⟨gbq5, 1, none⟩ = some (.slice none 0 0) := (bkcl BKq5 1).trans rfl; have hfqgb29002_1 := ag BKq5.out 1)); obtain ⟨_, _, _, _⟩ := cz2 BKq5) | (refine gt 62 ?_; refine gcB (some 7) func62 (bk.n0 k a0_0 _ _ l0_1 false _ (pC (Cbel HR0_1 HB)) HC0_1.out A3.out) ?_; intro w62_a hb; replace BKq4 := bb BKq4 hb; replace BKq5 := bb BKq5 hb; replace HB := bs HB hb; (try clear hb); obtain ⟨_, _, _, _⟩ := cz2 BKq5)); first | (refine bodyPost_ret (cB rfl _ _ gbq5 26 #[.int .i64 tq2, .slice Ao86_c tq3.length co86_c] (0, 0) _ rfl (by refine pkx ?_; refine aj (cs := #[.int .i64 tq2, .slice none 0 0]) ?_ 1 _ rfl; refine pkx ?_; refine aj (cs := #[.int .i64 0, .slice none 0 0]) ?_ 0 _ rfl; refine pkx ?_; exact BKq5.out) underlying26 rfl (by kernel_rfl)) rfl ?_; exact ⟨_, re_, by refine pRx ?_; exact rf HOq7 BKq5, aq HB GEq4 GEq5⟩) | (refine bodyPost_ret (cB rfl _ _ gbq5 26 #[.int .i64 0, .slice none 0 0] (0, 0) _ rfl (by refine pkx ?_; refine aj (cs := #[.int .i64 0, .slice none 0 0]) ?_ 1 _ rfl; refine pkx ?_; refine aj (cs := #[.int .i64 0, .slice none 0 0]) ?_ 0 _ rfl; refine pkx ?_; exact BKq5.out) underlying26 rfl (by kernel_rfl)) rfl ?_; exact ⟨_, by first | rfl | (simp [errW_none, bZ] <;> rfl) | (simp [*, errW_none, bZ] <;> rfl), by first | exact Kd.C0 _ _ _ _ _ | exact Kd.E7 _ _ _ _ _ | exact Kd.V_nil _ _ _ _ _ | exact Kd.E6 _ _ _ _ _ | exact Kd.E5 _ _ _ _ _, aq HB GEq4 GEq5⟩)) : p := h
theorem ce.n0 (k : Nat) (a0_0 : Int) (A0_1 : Option Addr) (c0_1 : Nat) (l0_1 : List Int) (A1 : Option Addr) (c1 : Nat) (l1 : List Int) (r1 : Int) (r2 : List Int) (r3 : Bool) (w : World) (hr0_1 : Kd.C (Kd.int .i64) w A0_1 l0_1.length l0_1) (hc0_1 : l0_1.length ≤ c0_1) (hr1 : Kd.C (Kd.int .i64) w A1 l1.length l1) (hc1 : l1.length ≤ c1) (h : ce.f k a0_0 l0_1 l1 = some (r1, r2, r3)) :
  Calls Tryz.prog 28 #[.agg #[.int .i64 a0_0, .slice A0_1 l0_1.length c0_1], .slice A1 l1.length c1] w fun e w' => ∃ v1_ : Value, e = .returned (.tuple #[.agg #[.int .i64 r1, v1_], .bool r3]) ∧ Kd.R (Kd.int .i64) 3 w' w.heap.size (fun _ => True) v1_ r2 ∧ Below w.heap.size w w' := by
 have hu26 := underlying26; have HR0_1 := aQ hr0_1; have HC0_1 := aQ hc0_1; clear hr0_1 hc0_1; have HR1 := aQ hr1; have HC1 := aQ hc1; clear hr1 hc1; have HB := aQ (Below.refl w.heap.size w); have H := h; clear h; unfold ce.f at H; (try dsimp only at H); replace H := bo H; obtain ⟨tq0, A3, H⟩ := H; replace H := ckB H; obtain ⟨rfl, H⟩ | ⟨rfl, H⟩ := H
 ·replace H := bo H; obtain ⟨tq1, A5, H⟩ := H; replace H := ckB H; obtain ⟨rfl, H⟩ | ⟨rfl, H⟩ := H
  ·replace H := bo H; obtain ⟨⟨tq2, tq3⟩, A7, H⟩ := H; (try dsimp only at H); obtain ⟨rfl, rfl, rfl⟩ := o3 H; exact ce.z
  ·obtain ⟨rfl, rfl, rfl⟩ := o3 H; exact ce.z
 ·obtain ⟨rfl, rfl, rfl⟩ := o3 H; exact ce.z
mutual
def aW.j0 : Nat → Int → List Int → Bool → Option (Bool)
 | 0, _, _, _ => none
 | k + 1, x0, x1, x14 => if x14 = true then (some false) else (aW.l0 k x0 x1 0 0)
def aW.l0 : Nat → Int → List Int → Int → Int → Option (Bool)
 | 0, _, _, _, _ => none
 | k + 1, x0, x1, x5, x6 => if x6 < x0 then (if 0 ≤ x6 then (if x6 < (x1.length : Int) then ((b3.f (rd x1 x6) 0 (wrap64 (x0 - 1))).bind fun tq0 => (if tq0 = true then ((bA.f x5 (rd x1 x6)).bind fun tq1 => (if tq1 = true then (some false) else (if 0 ≤ (IntKind.u64.wrap (rd x1 x6)) then (aW.l0 k x0 x1 (Go.bits .or .i64 x5 (shl .i64 1 (IntKind.u64.wrap (rd x1 x6)))) (wrap64 (x6 + 1))) else (none)))) else (some false))) else (none)) else (none)) else (some true)
end
def aW.f (k : Nat) (a0 : Int) (l1 : List Int) : Option (Bool) := if (l1.length : Int) = a0 then (aW.j0 k a0 l1 (decide (a0 > 8))) else (aW.j0 k a0 l1 true)
theorem aW.n0 (k : Nat) (a0 : Int) (A1 : Option Addr) (c1 : Nat) (l1 : List Int) (r : Bool) (w : World) (hr1 : Kd.C (Kd.int .i64) w A1 l1.length l1) (hc1 : l1.length ≤ c1) (h : aW.f k a0 l1 = some r) :
  CD Tryz.prog 41 #[.int .i64 a0, .slice A1 l1.length c1] w (.bool r) := by
 have HR1 := aQ hr1; have HC1 := aQ hc1; clear hr1 hc1; have H := h; clear h; unfold aW.f at H; (try dsimp only at H); have HC3 := aQ H; clear H; go_enter func41, ntmps41; go_upto_region 1 with (fail)
 go_cut [14] (fun v14 wc => ∃ (kq : Nat) (x14_2 : Bool), v14 = .bool x14_2 ∧ Aside0 (aW.j0 kq a0 l1 x14_2 = some r) ∧ Aside0 (kq ≤ k) ∧ Drawn0 w wc)
 case first =>
  have H := HC3.out; clear HC3; replace H := ckE H; obtain ⟨c4b0, c4b1, H⟩ | ⟨c4, c4b0, c4b1, H⟩ := H
  ·(first | rw [c4b0] | (simp only [i64_w, cJ]; rw [c4b0]) | skip); have H' := aQ H
   clear H; go_wp2
   go_meet
   case rel => exact ⟨_, (decide (a0 > 8)), rs_, H', ⟨by first | omega | exact Nat.le_refl _⟩, rd_⟩
  ·(first | rw [c4b0] | (simp only [i64_w, cJ]; rw [c4b0]) | skip); have H' := aQ H
   clear H; go_wp2
   go_meet
   case rel => exact ⟨_, (true), rs_, H', ⟨by first | omega | exact Nat.le_refl _⟩, rd_⟩
 case rest =>
  clear HC3; try clear c1
  obtain ⟨kq, x14_2, rfl, HA, HJ2, ⟨mc2, rfl⟩⟩ := hcut; cases kq with
  | zero => exact absurd HA.out (by simp [aW.j0])
  | succ kj2 =>
   have H := HA.out; clear HA; simp only [aW.j0] at H; replace H := ckB H; obtain ⟨rfl, H⟩ | ⟨rfl, H⟩ := H
   ·obtain rfl := oj H; go_wp2
    go_ret
    exact ⟨rs_, rd_⟩
   ·have H' := aQ H; clear H; go_wp2
    go_loopg [5, 6] kj2 (fun kq v5 v6 w' => ∃ (x5_2 : Int) (x6_2 : Int), v5 = .int .i64 x5_2 ∧ v6 = .int .i64 x6_2 ∧ Aside0 (aW.l0 kq a0 l1 x5_2 x6_2 = some r) ∧ Aside0 (kq ≤ kj2) ∧ Drawn0 w w')
    case atStart => exact ⟨(0), (0), rs_, rs_, H', ⟨Nat.le_refl _⟩, rd_⟩
    clear H'; try clear c1
    try clear c5
    obtain ⟨x5_2, x6_2, rfl, rfl, HA, HK2, ⟨m2, rfl⟩⟩ := hrel; rcases gk with _ | k2
    ·exact absurd HA.out (by simp [aW.l0])
    have H := HA.out; clear HA; simp only [aW.l0] at H; replace H := ckD H; obtain ⟨c6b0, H⟩ | ⟨c6b0, H⟩ := H
    ·replace H := gdD H; obtain ⟨c7b0, H⟩ := H; replace H := gdD H; obtain ⟨c8b0, H⟩ := H; replace H := bo H; obtain ⟨tq0, A9, H⟩ := H; replace H := ckB H; obtain ⟨rfl, H⟩ | ⟨rfl, H⟩ := H
     ·replace H := bo H; obtain ⟨tq1, A11, H⟩ := H; replace H := ckB H; obtain ⟨rfl, H⟩ | ⟨rfl, H⟩ := H
      ·obtain rfl := oj H; have pq2 : 0 ≤ (x6_2 : Int) := of_decide_eq_true as_; have qq2 : x6_2 < (l1.length : Int) := of_decide_eq_true as_; obtain ⟨adq2, eq2, hxq2_0⟩ := Kd.o5 HR1.out x6_2 pq2 qq2; cases eq2; replace pq2 := eq_true pq2; replace qq2 := eq_true qq2; go_wp2_with (first | (refine gt 82 ?_; refine gcD (some 26) func82 (b3.n0 (rd l1 x6_2) 0 (wrap64 (a0 - 1)) true _ A9.out) ?_; intro nd; obtain ⟨adq3, eq3, hxq3_0, pq3, qq3⟩ := aI HR1.out x6_2; obtain rfl : adq2 = adq3 := (by injection eq3)) | (go_at_call 73; (with_reducible refine (bA.n0 x5_2 (rd l1 x6_2) true _ A11.out).mono ?_); rintro e w' ⟨rfl, ⟨nd, rfl⟩⟩))
       go_ret
       exact ⟨rs_, rd_⟩
      ·obtain ⟨ji13, hji13⟩ : ∃ j_ : Int, (IntKind.u64.wrap (rd l1 x6_2)) = j_ := ⟨_, rfl⟩; (first | rw [hji13] at H | simp only [hji13] at H); (try rw [hji13] at A9); (try rw [hji13] at A11); replace H := gdB H; obtain ⟨c14b0, c14b1, H⟩ := H; obtain ⟨ji15, hji15⟩ : ∃ j_ : Int, (shl .i64 1 (ji13)) = j_ := ⟨_, rfl⟩; (first | rw [hji15] at H | simp only [hji15] at H); (try rw [hji15] at A9); (try rw [hji15] at A11); have hji15_ : (IntKind.i64.wrap (1 * 2 ^ min (ji13).toNat 64)) = ji15 := hji15; have hji15z : (ji13) ≤ 64 → (IntKind.i64.wrap (1 * 2 ^ (ji13).toNat)) = ji15 := dr hji15; have hji15u : (IntKind.i64.wrap (2 ^ min (ji13).toNat 64)) = ji15 := by have h_ := hji15_; rw [Int.one_mul] at h_; exact h_
       have hji15v : (ji13) ≤ 64 → (IntKind.i64.wrap (2 ^ (ji13).toNat)) = ji15 := fun hle_ => by have h_ := hji15z hle_; rw [Int.one_mul] at h_; exact h_
       have hji15y : (wrap64 (1 * 2 ^ min (ji13).toNat 64)) = ji15 := (i64_w _).symm.trans hji15_; have hji15x : (ji13) ≤ 64 → (wrap64 (1 * 2 ^ (ji13).toNat)) = ji15 := fun h_ => (i64_w _).symm.trans (hji15z h_)
       have H' := aQ H; clear H; have pq2 : 0 ≤ (x6_2 : Int) := of_decide_eq_true as_; have qq2 : x6_2 < (l1.length : Int) := of_decide_eq_true as_; obtain ⟨adq2, eq2, hxq2_0⟩ := Kd.o5 HR1.out x6_2 pq2 qq2; cases eq2; replace pq2 := eq_true pq2; replace qq2 := eq_true qq2; go_wp2_with (first | (refine gt 82 ?_; refine gcD (some 26) func82 (b3.n0 (rd l1 x6_2) 0 (wrap64 (a0 - 1)) true _ A9.out) ?_; intro nd; obtain ⟨adq3, eq3, hxq3_0, pq3, qq3⟩ := aI HR1.out x6_2; obtain rfl : adq2 = adq3 := (by injection eq3)) | (go_at_call 73; (with_reducible refine (bA.n0 x5_2 (rd l1 x6_2) false _ A11.out).mono ?_); rintro e w' ⟨rfl, ⟨nd, rfl⟩⟩; obtain ⟨adq4, eq4, hxq4_0, pq4, qq4⟩ := aI HR1.out x6_2; obtain rfl : adq2 = adq4 := (by injection eq4)))
       go_roundg k2
       case measure => have := HJ2.out; have := HK2.out; omega
       case rel => exact ⟨(Go.bits .or .i64 x5_2 (ji15)), (wrap64 (x6_2 + 1)), (by first | rfl | (simp; done) | (simp only [← hji15] <;> (first | rfl | simp)) | (simp [*]; done)), rs_, H', ⟨by have := HJ2.out; have := HK2.out; omega⟩, rd_⟩
     ·obtain rfl := oj H; have pq2 : 0 ≤ (x6_2 : Int) := of_decide_eq_true as_; have qq2 : x6_2 < (l1.length : Int) := of_decide_eq_true as_; obtain ⟨adq2, eq2, hxq2_0⟩ := Kd.o5 HR1.out x6_2 pq2 qq2; cases eq2; replace pq2 := eq_true pq2; replace qq2 := eq_true qq2; go_wp2_with (first | (refine gt 82 ?_; refine gcD (some 26) func82 (b3.n0 (rd l1 x6_2) 0 (wrap64 (a0 - 1)) false _ A9.out) ?_; intro nd))
      go_ret
      exact ⟨rs_, rd_⟩
    ·obtain rfl := oj H; go_wp2
     go_ret
     exact ⟨rs_, rd_⟩
def cz.l0 : Nat → List Int → Int → Int → Int → Option (Int)
 | 0, _, _, _, _ => none
 | k + 1, x0, x1, x5, x6 => if x6 < (x0.length : Int) then ((bA.f x1 x6).bind fun tq0 => (if tq0 = true then (if 0 ≤ x6 then (if 0 ≤ (IntKind.u64.wrap (rd x0 x6)) then (cz.l0 k x0 x1 (Go.bits .or .i64 x5 (shl .i64 1 (IntKind.u64.wrap (rd x0 x6)))) (wrap64 (x6 + 1))) else (none)) else (none)) else (cz.l0 k x0 x1 x5 (wrap64 (x6 + 1))))) else (some x5)
def cz.f (k : Nat) (l0 : List Int) (a1 : Int) : Option (Int) := cz.l0 k l0 a1 0 0
theorem cz.n0 (k : Nat) (A0 : Option Addr) (c0 : Nat) (l0 : List Int) (a1 : Int) (r : Int) (w : World) (hr0 : Kd.C (Kd.int .i64) w A0 l0.length l0) (hc0 : l0.length ≤ c0) (h : cz.f k l0 a1 = some r) :
  CD Tryz.prog 106 #[.slice A0 l0.length c0, .int .i64 a1] w (.int .i64 r) := by
 have HR0 := aQ hr0; have HC0 := aQ hc0; clear hr0 hc0; have H : (cz.l0 k l0 a1 0 0) = some r := h; clear h; have H' := aQ H; clear H; go_enter func106, ntmps106; go_wp2
 go_loopg [5, 6] k (fun kq v5 v6 w' => ∃ (x5_1 : Int) (x6_1 : Int), v5 = .int .i64 x5_1 ∧ v6 = .int .i64 x6_1 ∧ Aside0 (cz.l0 kq l0 a1 x5_1 x6_1 = some r) ∧ Aside0 (kq ≤ k) ∧ Drawn0 w w')
 case atStart => exact ⟨(0), (0), rs_, rs_, H', ⟨Nat.le_refl _⟩, rd_⟩
 clear H'; obtain ⟨x5_1, x6_1, rfl, rfl, HA, HK1, ⟨m1, rfl⟩⟩ := hrel; rcases gk with _ | k1
 ·exact absurd HA.out (by simp [cz.l0])
 have H := HA.out; clear HA; simp only [cz.l0] at H; replace H := ckD H; obtain ⟨c3b0, H⟩ | ⟨c3b0, H⟩ := H
 ·replace H := bo H; obtain ⟨tq0, A4, H⟩ := H; replace H := ckB H; obtain ⟨rfl, H⟩ | ⟨rfl, H⟩ := H
  ·replace H := gdD H; obtain ⟨c6b0, H⟩ := H; obtain ⟨ji7, hji7⟩ : ∃ j_ : Int, (IntKind.u64.wrap (rd l0 x6_1)) = j_ := ⟨_, rfl⟩; (first | rw [hji7] at H | simp only [hji7] at H); (try rw [hji7] at A4); replace H := gdB H; obtain ⟨c8b0, c8b1, H⟩ := H; obtain ⟨ji9, hji9⟩ : ∃ j_ : Int, (shl .i64 1 (ji7)) = j_ := ⟨_, rfl⟩; (first | rw [hji9] at H | simp only [hji9] at H); (try rw [hji9] at A4); have hji9_ : (IntKind.i64.wrap (1 * 2 ^ min (ji7).toNat 64)) = ji9 := hji9; have hji9z : (ji7) ≤ 64 → (IntKind.i64.wrap (1 * 2 ^ (ji7).toNat)) = ji9 := dr hji9; have hji9u : (IntKind.i64.wrap (2 ^ min (ji7).toNat 64)) = ji9 := by have h_ := hji9_; rw [Int.one_mul] at h_; exact h_
   have hji9v : (ji7) ≤ 64 → (IntKind.i64.wrap (2 ^ (ji7).toNat)) = ji9 := fun hle_ => by have h_ := hji9z hle_; rw [Int.one_mul] at h_; exact h_
   have hji9y : (wrap64 (1 * 2 ^ min (ji7).toNat 64)) = ji9 := (i64_w _).symm.trans hji9_; have hji9x : (ji7) ≤ 64 → (wrap64 (1 * 2 ^ (ji7).toNat)) = ji9 := fun h_ => (i64_w _).symm.trans (hji9z h_)
   have H' := aQ H; clear H; go_wp2_with (first | (refine gt 73 ?_; refine gcD (some 15) func73 (bA.n0 a1 x6_1 true _ A4.out) ?_; intro nd; have pq1 : 0 ≤ (x6_1 : Int) := of_decide_eq_true as_; have qq1 : x6_1 < (l0.length : Int) := of_decide_eq_true as_; obtain ⟨adq1, eq1, hxq1_0⟩ := Kd.o5 HR0.out x6_1 pq1 qq1; cases eq1; replace pq1 := eq_true pq1; replace qq1 := eq_true qq1))
   go_roundg k1
   case measure => exact omeg HK1
   case rel => exact ⟨(Go.bits .or .i64 x5_1 (ji9)), (wrap64 (x6_1 + 1)), (by first | rfl | (simp; done) | (simp only [← hji9] <;> (first | rfl | simp)) | (simp [*]; done)), rs_, H', ⟨omeg HK1⟩, rd_⟩
  ·have H' := aQ H; clear H; go_wp2_with (first | (refine gt 73 ?_; refine gcD (some 15) func73 (bA.n0 a1 x6_1 false _ A4.out) ?_; intro nd))
   go_roundg k1
   case measure => exact omeg HK1
   case rel => exact ⟨(x5_1), (wrap64 (x6_1 + 1)), rs_, rs_, H', ⟨omeg HK1⟩, rd_⟩
 ·obtain rfl := oj H; go_wp2
  go_ret
  exact ⟨rs_, rd_⟩
def bV.l0 : Nat → List Int → List Int → List Int → Int → Option (List Int)
 | 0, _, _, _, _ => none
 | k + 1, x0, x1, x5, x6 => if x6 < (x1.length : Int) then (if 0 ≤ x6 then ((cz.f k x0 (rd x1 x6)).bind fun tq0 => (if x5.length < 17592186044416 then (bV.l0 k x0 x1 (x5 ++ [tq0]) (wrap64 (x6 + 1))) else (none))) else (none)) else ((ak.f k x5).bind fun tq1 => (some tq1))
def bV.f (k : Nat) (l0 : List Int) (l1 : List Int) : Option (List Int) := bV.l0 k l0 l1 (([] : List Int)) 0
theorem bV.n0 (k : Nat) (A0 : Option Addr) (c0 : Nat) (l0 : List Int) (A1 : Option Addr) (c1 : Nat) (l1 : List Int) (r : List Int) (w : World) (hr0 : Kd.C (Kd.int .i64) w A0 l0.length l0) (hc0 : l0.length ≤ c0) (hr1 : Kd.C (Kd.int .i64) w A1 l1.length l1) (hc1 : l1.length ≤ c1) (h : bV.f k l0 l1 = some r) :
  Calls Tryz.prog 87 #[.slice A0 l0.length c0, .slice A1 l1.length c1] w fun e w' => ∃ v0_ : Value, e = .returned (v0_) ∧ Kd.R (Kd.int .i64) 3 w' w.heap.size (fun _ => True) v0_ r ∧ Below w.heap.size w w' := by
 have HR0 := aQ hr0; have HC0 := aQ hc0; clear hr0 hc0; have HR1 := aQ hr1; have HC1 := aQ hc1; clear hr1 hc1; have HB := aQ (Below.refl w.heap.size w); have H : (bV.l0 k l0 l1 (([] : List Int)) 0) = some r := h; clear h; generalize hyq2 : ([] : List Int) = yq2 at H
 have Nyq2 := aQ hyq2.symm; clear hyq2; have H' := aQ H; clear H; go_enter func87, ntmps87; go_wp2_with (first | (refine lI (d := Kd.int .i64) 7 Nyq2 ?_; intro vq3 w3 ho4 hb; have HOq4 := aQ (Kd.n8 ho4 (aa (au HB))); replace HB := bs HB hb; clear hb ho4))
 go_loopg [5, 6] k (fun kq v5 v6 w' => ∃ (x5_1 : List Int) (x6_1 : Int), v6 = .int .i64 x6_1 ∧ Aside0 (bV.l0 kq l0 l1 x5_1 x6_1 = some r) ∧ Aside0 (kq ≤ k) ∧ Aside0 (Kd.R (Kd.int .i64) 3 w' w.heap.size (fun _ => True) v5 x5_1) ∧ Aside0 (Below w.heap.size w w'))
 case atStart => exact ⟨(yq2), (0), rs_, H', ⟨Nat.le_refl _⟩, ⟨ac HOq4⟩, ⟨au HB⟩⟩
 clear H'; try clear c1
 obtain ⟨x5_1, x6_1, rfl, HA, HK1, HO_5, HB⟩ := hrel; rcases gk with _ | k1
 ·exact absurd HA.out (by simp [bV.l0])
 have H := HA.out; clear HA; simp only [bV.l0] at H; replace H := ckD H; obtain ⟨c5b0, H⟩ | ⟨c5b0, H⟩ := H
 ·replace H := gdD H; obtain ⟨c6b0, H⟩ := H; replace H := bo H; obtain ⟨tq0, A7, H⟩ := H; replace H := gdA H; obtain ⟨LMc8, H⟩ := H; generalize hyq5 : x5_1 ++ [tq0] = yq5 at H
  have Nyq5 := aQ hyq5.symm; clear hyq5; have H' := aQ H; clear H; have pq6 : 0 ≤ (x6_1 : Int) := of_decide_eq_true as_; have qq6 : x6_1 < (l1.length : Int) := of_decide_eq_true as_; obtain ⟨adq6, eq6, hxq6_0⟩ := Kd.o5 HR1.out x6_1 pq6 qq6; cases eq6; replace hxq6_0 := (HB.out.cell (World.block_lt_of_cell? w _ hxq6_0)).trans hxq6_0; replace pq6 := eq_true pq6; replace qq6 := eq_true qq6; go_wp2_with (first | (refine gt 106 ?_; refine gcD (some 20) func106 (cz.n0 k1 _ _ l0 (rd l1 x6_1) tq0 _ (pC (Cbel HR0 HB)) HC0.out A7.out) ?_; intro nd) | ((with_reducible refine gate_builtin (b := .append) (xs := #[.tmp 14, .tmp 21]) rfl ?_); at_builtin; refine ap (ok := fun _ => True) (.tmp 14) (.tmp 21) underlying24 cp u5 x5_1 Nyq5 LMc8 (ac HO_5) ?_; intro vq7 w9 ho hb hg hat; replace HB := aQ (hb); have HOq8 := aQ (ho); clear HO_5; clear ho hb hg hat))
  go_roundg k1
  case measure => exact omeg HK1
  case rel => exact ⟨(yq5), (wrap64 (x6_1 + 1)), rs_, H', ⟨omeg HK1⟩, ⟨ac HOq8⟩, ⟨au HB⟩⟩
 ·replace H := bo H; obtain ⟨tq1, A10, H⟩ := H; obtain rfl := oj H; obtain ⟨Ao11, co11, eo11⟩ := Kd.n9 HO_5.out; subst eo11; go_wp2_with (first | (refine gt 60 ?_; refine gc (some 24) func60 (ak.n0 k1 _ _ x5_1 tq1 _ (pC ((Kd.n4 HO_5.out).2.2)) ((Kd.n4 HO_5.out).2.1) A10.out) ?_; rintro e w12 ⟨vq9, rfl, ho0, hb⟩; refine ⟨_, rfl, ?_⟩; have HOqa := aQ (Kd.n8 (Kd.o9 ho0 (Kd.p8 (ac HO_5))) (aa (au HB))); replace HO_5 := aQ (Kd.o1 (ac HO_5) (Kd.o7 ho0) hb); replace HB := bs HB hb; (try clear hb); (try clear ho0)))
  go_ret
  exact ⟨_, re_, by refine pRx ?_; exact Kd.n7 HOqa.out (fun _ hk => trivial), au HB⟩
def aY.f (k : Nat) (a0_0 : Int) (l0_1 : List Int) (l1 : List Int) : Option (Int × List Int × Bool) := (aN.f k a0_0 l0_1).bind fun tq0 => (if tq0 = true then ((aW.f k a0_0 l1).bind fun tq1 => (if tq1 = true then ((bV.f k l1 l0_1).bind fun tq2 => (some (a0_0, tq2, true))) else (some (0, ([] : List Int), false)))) else (some (0, ([] : List Int), false)))
def aY.T3 : Bool × List (List Nat × List Nat) := (true, [([], []), ([0], [0]), ([], []), ([], []), ([3], [3]), ([2, 4], [2, 4]), ([1, 5], [1, 5]), ([6, 5, 0, 1, 2, 3, 4, 5, 6], [6]), ([7, 0, 1, 2, 3, 4, 5, 6, 7], [])])
def aY.B3 : List Nat := [0, 1, 0, 0, 8, 28, 63, 127, 255]
theorem aY.tab3 : rtab .any (dG Tryz.f29 3) = aY.T3 := by kernel_rfl
theorem aY.bits3 : cC aY.T3.2 aY.B3 = true := by kernel_rfl
theorem aY.z {p : Prop} (h : p := by go_enter func29, ntmps29; go_wp2_with (first | (refine bX 2 #[.int .i64 a0_0, .slice A0_1 l0_1.length c0_1] 26 ?_; intro gbq3 hg w2_a BKq3 hb; have GEq3 := gB HB hg; replace HB := bs HB hb; clear hb hg) | (refine bX 4 #[.int .i64 0, .slice none 0 0] 26 ?_; intro gbq4 hg w4_a BKq4 hb; have GEq4 := gB HB hg; replace HB := bs HB hb; have NBq3_q4 := nl BKq3 hg; have NBq4_q3 := ng BKq3 hg; replace BKq3 := bb BKq3 hb; clear hb hg; have := NBq3_q4.out; have := NBq4_q3.out; obtain ⟨_, _, _, _⟩ := cz2 BKq3) | (refine gt 23 ?_; refine gcB (some 7) func23 (aN.n0 k a0_0 _ _ l0_1 true _ (pC (Cbel HR0_1 HB)) HC0_1.out A3.out) ?_; intro w23_a hb; replace BKq3 := bb BKq3 hb; replace BKq4 := bb BKq4 hb; replace HB := bs HB hb; (try clear hb); obtain ⟨_, _, _, _⟩ := cz2 BKq3) | (go_at_call 41; (with_reducible refine (aW.n0 k a0_0 _ _ l1 false _ ?side1 ?side2 A5.out).mono ?_); (case side1 => exact pC (Cbel HR1 HB)); (case side2 => exact HC1.out); rintro e w' ⟨rfl, ⟨nd, rfl⟩⟩; (try (rw [cX w23_a]; generalize hq_ : World.drewN w23_a _ = w23_a; have n0_ : Aside0 (w23_a.heap[gbq3]? = some (.cells #[.int .i64 a0_0, .slice A0_1 l0_1.length c0_1] 26 (0, 0))) := ⟨by rw [← hq_]; exact (ah BKq3)⟩; have n1_ : Aside0 (w23_a.heap[gbq4]? = some (.cells #[.int .i64 0, .slice none 0 0] 26 (0, 0))) := ⟨by rw [← hq_]; exact (ah BKq4)⟩; have n2_ : Aside0 (Below w.heap.size w w23_a) := ⟨by rw [← hq_]; exact (aq HB GEq3 GEq4)⟩; clear BKq3 BKq4 HB hq_; have BKq3 := n0_; have BKq4 := n1_; have HB := n2_; clear n0_ n1_ n2_)); obtain ⟨_, _, _, _⟩ := cz2 BKq4) | (refine gt 23 ?_; refine gcB (some 7) func23 (aN.n0 k a0_0 _ _ l0_1 false _ (pC (Cbel HR0_1 HB)) HC0_1.out A3.out) ?_; intro w23_a hb; replace BKq3 := bb BKq3 hb; replace BKq4 := bb BKq4 hb; replace HB := bs HB hb; (try clear hb); obtain ⟨_, _, _, _⟩ := cz2 BKq4)); refine bodyPost_ret (cB rfl _ _ gbq4 26 #[.int .i64 0, .slice none 0 0] (0, 0) _ rfl (by refine pkx ?_; refine aj (cs := #[.int .i64 0, .slice none 0 0]) ?_ 1 _ rfl; refine pkx ?_; refine aj (cs := #[.int .i64 0, .slice none 0 0]) ?_ 0 _ rfl; refine pkx ?_; exact BKq4.out) underlying26 rfl (by kernel_rfl)) rfl ?_; exact ⟨_, by first | rfl | (simp [errW_none, bZ] <;> rfl) | (simp [*, errW_none, bZ] <;> rfl), by first | exact Kd.C0 _ _ _ _ _ | exact Kd.E7 _ _ _ _ _ | exact Kd.V_nil _ _ _ _ _ | exact Kd.E6 _ _ _ _ _ | exact Kd.E5 _ _ _ _ _, aq HB GEq3 GEq4⟩) : p := h
theorem aY.n0 (k : Nat) (a0_0 : Int) (A0_1 : Option Addr) (c0_1 : Nat) (l0_1 : List Int) (A1 : Option Addr) (c1 : Nat) (l1 : List Int) (r1 : Int) (r2 : List Int) (r3 : Bool) (w : World) (hr0_1 : Kd.C (Kd.int .i64) w A0_1 l0_1.length l0_1) (hc0_1 : l0_1.length ≤ c0_1) (hr1 : Kd.C (Kd.int .i64) w A1 l1.length l1) (hc1 : l1.length ≤ c1) (h : aY.f k a0_0 l0_1 l1 = some (r1, r2, r3)) :
  Calls Tryz.prog 29 #[.agg #[.int .i64 a0_0, .slice A0_1 l0_1.length c0_1], .slice A1 l1.length c1] w fun e w' => ∃ v1_ : Value, e = .returned (.tuple #[.agg #[.int .i64 r1, v1_], .bool r3]) ∧ Kd.R (Kd.int .i64) 3 w' w.heap.size (fun _ => True) v1_ r2 ∧ Below w.heap.size w w' := by
 have hu26 := underlying26; have HR0_1 := aQ hr0_1; have HC0_1 := aQ hc0_1; clear hr0_1 hc0_1; have HR1 := aQ hr1; have HC1 := aQ hc1; clear hr1 hc1; have HB := aQ (Below.refl w.heap.size w); have H := h; clear h; unfold aY.f at H; (try dsimp only at H); replace H := bo H; obtain ⟨tq0, A3, H⟩ := H; replace H := ckB H; obtain ⟨rfl, H⟩ | ⟨rfl, H⟩ := H
 ·replace H := bo H; obtain ⟨tq1, A5, H⟩ := H; replace H := ckB H; obtain ⟨rfl, H⟩ | ⟨rfl, H⟩ := H
  ·replace H := bo H; obtain ⟨tq2, A7, H⟩ := H; obtain ⟨rfl, rfl, rfl⟩ := o3 H; go_enter func29, ntmps29; try go_wp2_with (first | (refine bX 2 #[.int .i64 a0_0, .slice A0_1 l0_1.length c0_1] 26 ?_; intro gbq3 hg w8 BKq3 hb; have GEq3 := gB HB hg; replace HB := bs HB hb; clear hb hg) | (refine bX 4 #[.int .i64 0, .slice none 0 0] 26 ?_; intro gbq4 hg w9 BKq4 hb; have GEq4 := gB HB hg; replace HB := bs HB hb; have NBq3_q4 := nl BKq3 hg; have NBq4_q3 := ng BKq3 hg; replace BKq3 := bb BKq3 hb; clear hb hg; have := NBq3_q4.out; have := NBq4_q3.out; obtain ⟨_, _, _, _⟩ := cz2 BKq3) | (refine gt 23 ?_; refine gcB (some 7) func23 (aN.n0 k a0_0 _ _ l0_1 true _ (pC (Cbel HR0_1 HB)) HC0_1.out A3.out) ?_; intro w12 hb; replace BKq3 := bb BKq3 hb; replace BKq4 := bb BKq4 hb; replace HB := bs HB hb; (try clear hb); obtain ⟨_, _, _, _⟩ := cz2 BKq3) | (go_at_call 41; (with_reducible refine (aW.n0 k a0_0 _ _ l1 true _ ?side1 ?side2 A5.out).mono ?_); (case side1 => exact pC (Cbel HR1 HB)); (case side2 => exact HC1.out); rintro e w' ⟨rfl, ⟨nd, rfl⟩⟩; (try (rw [cX w12]; generalize hq_ : World.drewN w12 _ = w12; have n0_ : Aside0 (w12.heap[gbq3]? = some (.cells #[.int .i64 a0_0, .slice A0_1 l0_1.length c0_1] 26 (0, 0))) := ⟨by rw [← hq_]; exact (ah BKq3)⟩; have n1_ : Aside0 (w12.heap[gbq4]? = some (.cells #[.int .i64 0, .slice none 0 0] 26 (0, 0))) := ⟨by rw [← hq_]; exact (ah BKq4)⟩; have n2_ : Aside0 (Below w.heap.size w w12) := ⟨by rw [← hq_]; exact (aq HB GEq3 GEq4)⟩; clear BKq3 BKq4 HB hq_; have BKq3 := n0_; have BKq4 := n1_; have HB := n2_; clear n0_ n1_ n2_))))
   replace BKq3 := aQ (aH BKq3.out); replace BKq4 := aQ (aH BKq4.out); replace HB := aQ (ai HB.out); refine cn (n := 9) (S := fun w' => w'.cell? ⟨gbq3, 0, none⟩ = some (.int .i64 a0_0) ∧ w'.cell? ⟨gbq3, 1, none⟩ = some (.slice A0_1 l0_1.length c0_1)) (ds := []) _ (by kernel_rfl) rfl rfl ⟨(bkcl BKq3 0).trans rfl, (bkcl BKq3 1).trans rfl⟩ (fun hHeld => ?_); refine bG aY.tab3 aY.bits3 (fun HT_ HW_ => ?_); generalize w12.drew = w14 at BKq3 BKq4 HB hHeld ⊢; refine pA 0 (some 17) HT_ ?_; refine pA 2 (some 19) HT_ ?_; refine pA 3 (some 20) HT_ ?_; refine tA2 1 (some 18) HT_ HW_ hHeld ?_; refine tA2 4 (some 21) HT_ HW_ hHeld ?_; refine onA (i := 5) (N := some 22) HT_ (h := fun K hK => ?_); refine gs func87 #[.slice A1 l1.length c1, .slice A0_1 l0_1.length c0_1] ?_
   with_reducible refine (bV.n0 k _ _ l1 _ _ l0_1 tq2 _ ?side1 ?side2 ?side3 ?side4 A7.out).mono ?_
   (case side1 => exact pC (Cbel HR1 HB)); (case side2 => exact HC1.out)
   (case side3 => exact pC (Cbel HR0_1 HB)); (case side4 => exact HC0_1.out)
   rintro e w15 ⟨vq5, rfl, ho0, hb⟩; refine ⟨_, rfl, ?_⟩; have HOq6 := aQ (Kd.n8 ho0 (aa (aq HB GEq3 GEq4))); replace BKq3 := bb BKq3 hb; replace BKq4 := bb BKq4 hb; replace HB := bs HB hb; (try clear hb); (try clear hb2); (try clear hk); (try clear hi); (try clear ho0); obtain ⟨Ao16, co16, eo16⟩ := Kd.n9 HOq6.out; (first | subst eo16 | (injection eo16 with f1_ f2_ f3_; have f4_ := f1_.symm; have f5_ := f3_.symm; clear f1_ f2_ f3_; subst f4_; subst f5_)); refine hK.out _ _ ⟨(bkcl BKq3 0).trans rfl, (bkcl BKq3 1).trans rfl⟩ (fun hHeld => ?_); clear hK K; refine noN (some 22) (h := ?_); refine pA 6 (some 23) HT_ ?_; refine onA (i := 7) (N := none) HT_ (h := fun K hK => ?_); have hs17 : w15.cell? ⟨gbq4, 0, none⟩ = some (.int .i64 0) := (bkcl BKq4 0).trans rfl; have hfs17 := ag BKq4.out 0; have hns17_0 := NBq3_q4.out; have hms17_0 := NBq4_q3.out; have hs18 : w15.cell? ⟨gbq4, 1, none⟩ = some (.slice none 0 0) := (bkcl BKq4 1).trans rfl; have hfs18 := ag BKq4.out 1; have hns18_0 := NBq3_q4.out; have hms18_0 := NBq4_q3.out; refine eT (w1 := ?_) (by rfl) rfl ?_ ?_
   rotate_left
   ·go_simp
    rfl
   refine hK.out _ _ ⟨((bH (p := ⟨gbq4, _, none⟩) NBq3_q4.out _).trans (((bH (p := ⟨gbq4, _, none⟩) NBq3_q4.out _).trans (hHeld.1)))), ((bH (p := ⟨gbq4, _, none⟩) NBq3_q4.out _).trans (((bH (p := ⟨gbq4, _, none⟩) NBq3_q4.out _).trans (hHeld.2))))⟩ (fun hHeld => ?_); clear hK K; refine pA 8 (some 5) HT_ ?_; refine cV (cg HT_.out (by kernel_rfl)) ?_; try go_wp2
   refine bodyPost_ret (cB rfl _ _ gbq4 26 #[.int .i64 a0_0, .slice Ao16 tq2.length co16] (0, 0) _ rfl (by refine pkx ?_; refine aj (cs := #[.int .i64 a0_0, .slice none 0 0]) ?_ 1 _ rfl; refine pkx ?_; refine aj (cs := #[.int .i64 0, .slice none 0 0]) ?_ 0 _ rfl; refine pkx ?_; exact BKq4.out) underlying26 rfl (by kernel_rfl)) rfl ?_; exact ⟨_, re_, by refine pRx ?_; exact rf HOq6 BKq4, aq HB GEq3 GEq4⟩
  ·obtain ⟨rfl, rfl, rfl⟩ := o3 H; exact aY.z
 ·obtain ⟨rfl, rfl, rfl⟩ := o3 H; exact aY.z
end Go.Proofs.YtbdloopelidneaaGreat.A
