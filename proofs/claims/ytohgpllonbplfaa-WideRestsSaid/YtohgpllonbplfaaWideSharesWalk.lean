/- The walk of WideShares: it returns true for any numbers. -/
import Derived.Test.YtohgpllonbplfaaWideAdd
import Derived.Test.YtohgpllonbplfaaWideCmp
import Derived.Test.YtohgpllonbplfaaWideTimes
namespace Go.Proofs.Ytohgpllonbplfaa
open Go.RowKit
set_option linter.unusedVariables false

theorem prod_bd (a n A B : Int) (ha0 : -A ≤ a) (ha1 : a ≤ A) (hn0 : -B ≤ n) (hn1 : n ≤ B) : -(A * B) ≤ a * n ∧ a * n ≤ A * B := by
  have hA : 0 ≤ A := by omega
  have hB : 0 ≤ B := by omega
  have h1 : 0 ≤ (A - a) * (B + n) := Int.mul_nonneg (by omega) (by omega)
  have h2 : 0 ≤ (A + a) * (B - n) := Int.mul_nonneg (by omega) (by omega)
  have h3 : 0 ≤ (A - a) * (B - n) := Int.mul_nonneg (by omega) (by omega)
  have h4 : 0 ≤ (A + a) * (B + n) := Int.mul_nonneg (by omega) (by omega)
  simp only [Int.sub_mul, Int.add_mul, Int.mul_sub, Int.mul_add] at h1 h2 h3 h4
  omega
/-- contracts where the result is known to fit -/
theorem times_fit (a n : Int) (w : World) (ha : fits a) (h0 : -9223372036854775808 ≤ n) (h1 : n ≤ 9223372036854775807) (hf : fits (a * n)) :
    Calls Try.prog 15 #[.agg #[.int .i64 (hiW a), .int .u64 (loW a)], .int .i64 n] w fun e w' => e = .returned (.tuple #[.agg #[.int .i64 (hiW (a * n)), .int .u64 (loW (a * n))], .bool true]) ∧ Below w.heap.size w w' := by
  have h := times_any a n w ha h0 h1
  rw [sumOf_yes hf, decide_eq_true hf] at h
  exact h
theorem add_fit (a b : Int) (w : World) (ha : fits a) (hb : fits b) (hf : fits (a + b)) :
    Calls Try.prog 7 #[.agg #[.int .i64 (hiW a), .int .u64 (loW a)], .agg #[.int .i64 (hiW b), .int .u64 (loW b)]] w fun e w' => e = .returned (.tuple #[.agg #[.int .i64 (hiW (a + b)), .int .u64 (loW (a + b))], .bool true]) ∧ Below w.heap.size w w' := by
  have h := add_any a b w ha hb
  rw [sumOf_yes hf, decide_eq_true hf] at h
  exact h
theorem sub_fit (a b : Int) (w : World) (ha : fits a) (hb : fits b) (hf : fits (a - b)) :
    Calls Try.prog 10 #[.agg #[.int .i64 (hiW a), .int .u64 (loW a)], .agg #[.int .i64 (hiW b), .int .u64 (loW b)]] w fun e w' => e = .returned (.tuple #[.agg #[.int .i64 (hiW (a - b)), .int .u64 (loW (a - b))], .bool true]) ∧ Below w.heap.size w w' := by
  have h := sub_any a b w ha hb
  rw [sumOf_yes hf, decide_eq_true hf] at h
  exact h
set_option maxRecDepth 100000 in
set_option maxHeartbeats 4000000 in
theorem shares_walk_at (w : World) (a n m N M : Int) (ha : -9223372036854775808 ≤ a ∧ a ≤ 9223372036854775807) (e1 : n / 4 = N) (e2 : m / 4 = M) (hN : -2305843009213693952 ≤ N ∧ N ≤ 2305843009213693951) (hM : -2305843009213693952 ≤ M ∧ M ≤ 2305843009213693951) :
    Calls Try.prog 5 #[.int .i64 a, .int .i64 n, .int .i64 m] w fun e w' => e = .returned (.bool true) ∧ Below w.heap.size w w' := by
  obtain ⟨ha0, ha1⟩ := ha
  obtain ⟨hN0, hN1⟩ := hN
  obtain ⟨hM0, hM1⟩ := hM
  have bx := prod_bd a N 9223372036854775808 2305843009213693952 (by omega) (by omega) (by omega) (by omega)
  have by' := prod_bd a M 9223372036854775808 2305843009213693952 (by omega) (by omega) (by omega) (by omega)
  have bz := prod_bd a (N + M) 9223372036854775808 4611686018427387904 (by omega) (by omega) (by omega) (by omega)
  have hxy : a * N + a * M = a * (N + M) := (Int.mul_add a N M).symm
  have fa : fits a := fits_int a ha0 ha1
  have fN : fits N := fits_int N (by omega) (by omega)
  have fx : fits (a * N) := by unfold fits; omega
  have fy : fits (a * M) := by unfold fits; omega
  have fz : fits (a * (N + M)) := by unfold fits; omega
  have fd : fits (a - N) := by unfold fits; omega
  have HOa := Lib.hid (fun w => of_any a w ha0 ha1)
  have HON := Lib.hid (fun w => of_any N w (by omega) (by omega))
  have HO3 := Lib.hid (fun w => of_any 3 w (by omega) (by omega))
  have HO12 := Lib.hid (fun w => of_any (-12) w (by omega) (by omega))
  have HT := Lib.hid (fun w => times_fit 3 (-4) w (by decide) (by omega) (by omega) (by decide))
  rw [show (3 : Int) * -4 = -12 by decide] at HT
  have HX := Lib.hid (fun w => times_fit a N w fa (by omega) (by omega) fx)
  have HY := Lib.hid (fun w => times_fit a M w fa (by omega) (by omega) fy)
  have HZ := Lib.hid (fun w => times_fit a (N + M) w fa (by omega) (by omega) fz)
  have HS := Lib.hid (fun w => add_fit (a * N) (a * M) w fx fy (by rw [hxy]; exact fz))
  rw [hxy] at HS
  have HD := Lib.hid (fun w => sub_fit a N w fa fN fd)
  have HC := Lib.hid (fun w => cmp_any a N w fa fN)
  have hd := hiW_neg (a - N) fd
  obtain ⟨x, hx⟩ : ∃ x, x = a * N := ⟨_, rfl⟩
  obtain ⟨y, hy⟩ : ∃ y, y = a * M := ⟨_, rfl⟩
  obtain ⟨z, hz⟩ : ∃ z, z = a * (N + M) := ⟨_, rfl⟩
  obtain ⟨d, hdd⟩ : ∃ d, d = a - N := ⟨_, rfl⟩
  rw [← hx] at HX HS
  rw [← hy] at HY HS
  rw [← hz] at HZ HS
  rw [← hdd] at HD hd
  obtain ⟨c, hc⟩ : ∃ c, c = cmpI a N := ⟨_, rfl⟩
  rw [← hc] at HC
  have hcase : (c = -1 ∧ d < 0 ∧ a ≠ N) ∨ (c = 0 ∧ d = 0 ∧ a = N) ∨ (c = 1 ∧ 0 < d ∧ a ≠ N) := by
    rw [hc]; unfold cmpI; split
    · omega
    · split <;> omega
  clear hx hy hz hdd hc hxy bx by' bz fa fN fx fy fz fd
  rcases hcase with ⟨rfl, hlt, hne⟩ | ⟨rfl, hlt, hne⟩ | ⟨rfl, hlt, hne⟩
  · have g1 : decide (hiW d < 0) = true := decide_eq_true (hd.2 hlt)
    have g2 : (a == N) = false := by simpa using hne
    clear hd hlt hne
    have hB := Below.refl w.heap.size w
    go_enter Try.func5, Try.ntmps5
    go_wp2_with fail
    with_reducible refine (HOa.out _).mono ?_
    rintro e w1 ⟨rfl, hb⟩
    replace hB := bel_step hB (Nat.le_refl _) hb
    clear hb
    go_wp2_with fail
    with_reducible refine (HX.out _).mono ?_
    rintro e w2 ⟨rfl, hb⟩
    replace hB := bel_step hB (Nat.le_refl _) hb
    clear hb
    replace hB := hB.alloc hB.size (.cells #[.int .i64 (hiW (x)), .int .u64 (loW (x))] 25)
    have x0 := cell_new0 (w := w2) (x := (.int .i64 (hiW (x)))) (y := (.int .u64 (loW (x)))) (t := 25) rfl
    have x1 := cell_new1 (w := w2) (x := (.int .i64 (hiW (x)))) (y := (.int .u64 (loW (x)))) (t := 25) rfl
    go_wp2_with fail
    obtain ⟨w3, hW⟩ : ∃ W, W = w2.alloc (.cells #[.int .i64 (hiW (x)), .int .u64 (loW (x))] 25) := ⟨_, rfl⟩
    rw [← hW] at x0 x1 hB ⊢
    clear hW
    with_reducible refine (HOa.out _).mono ?_
    rintro e w4 ⟨rfl, hb⟩
    replace x0 := cell_be hb x0
    replace x1 := cell_be hb x1
    replace hB := bel_step hB (Nat.le_refl _) hb
    clear hb
    go_wp2_with fail
    with_reducible refine (HY.out _).mono ?_
    rintro e w5 ⟨rfl, hb⟩
    replace x0 := cell_be hb x0
    replace x1 := cell_be hb x1
    replace hB := bel_step hB (Nat.le_refl _) hb
    clear hb
    replace x0 := cell_al (o := (.cells #[.int .i64 (hiW (y)), .int .u64 (loW (y))] 25)) x0
    replace x1 := cell_al (o := (.cells #[.int .i64 (hiW (y)), .int .u64 (loW (y))] 25)) x1
    replace hB := hB.alloc hB.size (.cells #[.int .i64 (hiW (y)), .int .u64 (loW (y))] 25)
    have y0 := cell_new0 (w := w5) (x := (.int .i64 (hiW (y)))) (y := (.int .u64 (loW (y)))) (t := 25) rfl
    have y1 := cell_new1 (w := w5) (x := (.int .i64 (hiW (y)))) (y := (.int .u64 (loW (y)))) (t := 25) rfl
    go_wp2_with fail
    obtain ⟨w6, hW⟩ : ∃ W, W = w5.alloc (.cells #[.int .i64 (hiW (y)), .int .u64 (loW (y))] 25) := ⟨_, rfl⟩
    rw [← hW] at x0 x1 y0 y1 hB ⊢
    clear hW
    with_reducible refine (HOa.out _).mono ?_
    rintro e w7 ⟨rfl, hb⟩
    replace x0 := cell_be hb x0
    replace x1 := cell_be hb x1
    replace y0 := cell_be hb y0
    replace y1 := cell_be hb y1
    replace hB := bel_step hB (Nat.le_refl _) hb
    clear hb
    go_wp2_with fail
    with_reducible refine (HZ.out _).mono ?_
    rintro e w8 ⟨rfl, hb⟩
    replace x0 := cell_be hb x0
    replace x1 := cell_be hb x1
    replace y0 := cell_be hb y0
    replace y1 := cell_be hb y1
    replace hB := bel_step hB (Nat.le_refl _) hb
    clear hb
    replace x0 := cell_al (o := (.cells #[.int .i64 (hiW (z)), .int .u64 (loW (z))] 25)) x0
    replace x1 := cell_al (o := (.cells #[.int .i64 (hiW (z)), .int .u64 (loW (z))] 25)) x1
    replace y0 := cell_al (o := (.cells #[.int .i64 (hiW (z)), .int .u64 (loW (z))] 25)) y0
    replace y1 := cell_al (o := (.cells #[.int .i64 (hiW (z)), .int .u64 (loW (z))] 25)) y1
    replace hB := hB.alloc hB.size (.cells #[.int .i64 (hiW (z)), .int .u64 (loW (z))] 25)
    have z0 := cell_new0 (w := w8) (x := (.int .i64 (hiW (z)))) (y := (.int .u64 (loW (z)))) (t := 25) rfl
    have z1 := cell_new1 (w := w8) (x := (.int .i64 (hiW (z)))) (y := (.int .u64 (loW (z)))) (t := 25) rfl
    go_wp2_with fail
    obtain ⟨w9, hW⟩ : ∃ W, W = w8.alloc (.cells #[.int .i64 (hiW (z)), .int .u64 (loW (z))] 25) := ⟨_, rfl⟩
    rw [← hW] at x0 x1 y0 y1 z0 z1 hB ⊢
    clear hW
    with_reducible refine (HS.out _).mono ?_
    rintro e w10 ⟨rfl, hb⟩
    replace x0 := cell_be hb x0
    replace x1 := cell_be hb x1
    replace y0 := cell_be hb y0
    replace y1 := cell_be hb y1
    replace z0 := cell_be hb z0
    replace z1 := cell_be hb z1
    replace hB := bel_step hB (Nat.le_refl _) hb
    clear hb
    replace x0 := cell_al (o := (.cells #[.int .i64 (hiW (z)), .int .u64 (loW (z))] 25)) x0
    replace x1 := cell_al (o := (.cells #[.int .i64 (hiW (z)), .int .u64 (loW (z))] 25)) x1
    replace y0 := cell_al (o := (.cells #[.int .i64 (hiW (z)), .int .u64 (loW (z))] 25)) y0
    replace y1 := cell_al (o := (.cells #[.int .i64 (hiW (z)), .int .u64 (loW (z))] 25)) y1
    replace z0 := cell_al (o := (.cells #[.int .i64 (hiW (z)), .int .u64 (loW (z))] 25)) z0
    replace z1 := cell_al (o := (.cells #[.int .i64 (hiW (z)), .int .u64 (loW (z))] 25)) z1
    replace hB := hB.alloc hB.size (.cells #[.int .i64 (hiW (z)), .int .u64 (loW (z))] 25)
    have s0 := cell_new0 (w := w10) (x := (.int .i64 (hiW (z)))) (y := (.int .u64 (loW (z)))) (t := 25) rfl
    have s1 := cell_new1 (w := w10) (x := (.int .i64 (hiW (z)))) (y := (.int .u64 (loW (z)))) (t := 25) rfl
    go_wp2_with fail
    obtain ⟨w11, hW⟩ : ∃ W, W = w10.alloc (.cells #[.int .i64 (hiW (z)), .int .u64 (loW (z))] 25) := ⟨_, rfl⟩
    rw [← hW] at x0 x1 y0 y1 z0 z1 s0 s1 hB ⊢
    clear hW
    with_reducible refine (HOa.out _).mono ?_
    rintro e w12 ⟨rfl, hb⟩
    replace x0 := cell_be hb x0
    replace x1 := cell_be hb x1
    replace y0 := cell_be hb y0
    replace y1 := cell_be hb y1
    replace z0 := cell_be hb z0
    replace z1 := cell_be hb z1
    replace s0 := cell_be hb s0
    replace s1 := cell_be hb s1
    replace hB := bel_step hB (Nat.le_refl _) hb
    clear hb
    go_wp2_with fail
    with_reducible refine (HON.out _).mono ?_
    rintro e w13 ⟨rfl, hb⟩
    replace x0 := cell_be hb x0
    replace x1 := cell_be hb x1
    replace y0 := cell_be hb y0
    replace y1 := cell_be hb y1
    replace z0 := cell_be hb z0
    replace z1 := cell_be hb z1
    replace s0 := cell_be hb s0
    replace s1 := cell_be hb s1
    replace hB := bel_step hB (Nat.le_refl _) hb
    clear hb
    go_wp2_with fail
    with_reducible refine (HD.out _).mono ?_
    rintro e w14 ⟨rfl, hb⟩
    replace x0 := cell_be hb x0
    replace x1 := cell_be hb x1
    replace y0 := cell_be hb y0
    replace y1 := cell_be hb y1
    replace z0 := cell_be hb z0
    replace z1 := cell_be hb z1
    replace s0 := cell_be hb s0
    replace s1 := cell_be hb s1
    replace hB := bel_step hB (Nat.le_refl _) hb
    clear hb
    replace x0 := cell_al (o := (.cells #[.int .i64 (hiW (d)), .int .u64 (loW (d))] 25)) x0
    replace x1 := cell_al (o := (.cells #[.int .i64 (hiW (d)), .int .u64 (loW (d))] 25)) x1
    replace y0 := cell_al (o := (.cells #[.int .i64 (hiW (d)), .int .u64 (loW (d))] 25)) y0
    replace y1 := cell_al (o := (.cells #[.int .i64 (hiW (d)), .int .u64 (loW (d))] 25)) y1
    replace z0 := cell_al (o := (.cells #[.int .i64 (hiW (d)), .int .u64 (loW (d))] 25)) z0
    replace z1 := cell_al (o := (.cells #[.int .i64 (hiW (d)), .int .u64 (loW (d))] 25)) z1
    replace s0 := cell_al (o := (.cells #[.int .i64 (hiW (d)), .int .u64 (loW (d))] 25)) s0
    replace s1 := cell_al (o := (.cells #[.int .i64 (hiW (d)), .int .u64 (loW (d))] 25)) s1
    replace hB := hB.alloc hB.size (.cells #[.int .i64 (hiW (d)), .int .u64 (loW (d))] 25)
    have d0 := cell_new0 (w := w14) (x := (.int .i64 (hiW (d)))) (y := (.int .u64 (loW (d)))) (t := 25) rfl
    have d1 := cell_new1 (w := w14) (x := (.int .i64 (hiW (d)))) (y := (.int .u64 (loW (d)))) (t := 25) rfl
    go_wp2_with fail
    obtain ⟨w15, hW⟩ : ∃ W, W = w14.alloc (.cells #[.int .i64 (hiW (d)), .int .u64 (loW (d))] 25) := ⟨_, rfl⟩
    rw [← hW] at x0 x1 y0 y1 z0 z1 s0 s1 d0 d1 hB ⊢
    clear hW
    with_reducible refine (HO3.out _).mono ?_
    rintro e w16 ⟨rfl, hb⟩
    replace x0 := cell_be hb x0
    replace x1 := cell_be hb x1
    replace y0 := cell_be hb y0
    replace y1 := cell_be hb y1
    replace z0 := cell_be hb z0
    replace z1 := cell_be hb z1
    replace s0 := cell_be hb s0
    replace s1 := cell_be hb s1
    replace d0 := cell_be hb d0
    replace d1 := cell_be hb d1
    replace hB := bel_step hB (Nat.le_refl _) hb
    clear hb
    go_wp2_with fail
    with_reducible refine (HT.out _).mono ?_
    rintro e w17 ⟨rfl, hb⟩
    replace x0 := cell_be hb x0
    replace x1 := cell_be hb x1
    replace y0 := cell_be hb y0
    replace y1 := cell_be hb y1
    replace z0 := cell_be hb z0
    replace z1 := cell_be hb z1
    replace s0 := cell_be hb s0
    replace s1 := cell_be hb s1
    replace d0 := cell_be hb d0
    replace d1 := cell_be hb d1
    replace hB := bel_step hB (Nat.le_refl _) hb
    clear hb
    replace x0 := cell_al (o := (.cells #[.int .i64 (hiW (-12)), .int .u64 (loW (-12))] 25)) x0
    replace x1 := cell_al (o := (.cells #[.int .i64 (hiW (-12)), .int .u64 (loW (-12))] 25)) x1
    replace y0 := cell_al (o := (.cells #[.int .i64 (hiW (-12)), .int .u64 (loW (-12))] 25)) y0
    replace y1 := cell_al (o := (.cells #[.int .i64 (hiW (-12)), .int .u64 (loW (-12))] 25)) y1
    replace z0 := cell_al (o := (.cells #[.int .i64 (hiW (-12)), .int .u64 (loW (-12))] 25)) z0
    replace z1 := cell_al (o := (.cells #[.int .i64 (hiW (-12)), .int .u64 (loW (-12))] 25)) z1
    replace s0 := cell_al (o := (.cells #[.int .i64 (hiW (-12)), .int .u64 (loW (-12))] 25)) s0
    replace s1 := cell_al (o := (.cells #[.int .i64 (hiW (-12)), .int .u64 (loW (-12))] 25)) s1
    replace d0 := cell_al (o := (.cells #[.int .i64 (hiW (-12)), .int .u64 (loW (-12))] 25)) d0
    replace d1 := cell_al (o := (.cells #[.int .i64 (hiW (-12)), .int .u64 (loW (-12))] 25)) d1
    replace hB := hB.alloc hB.size (.cells #[.int .i64 (hiW (-12)), .int .u64 (loW (-12))] 25)
    have o0 := cell_new0 (w := w17) (x := (.int .i64 (hiW (-12)))) (y := (.int .u64 (loW (-12)))) (t := 25) rfl
    have o1 := cell_new1 (w := w17) (x := (.int .i64 (hiW (-12)))) (y := (.int .u64 (loW (-12)))) (t := 25) rfl
    go_wp2_with fail
    obtain ⟨w18, hW⟩ : ∃ W, W = w17.alloc (.cells #[.int .i64 (hiW (-12)), .int .u64 (loW (-12))] 25) := ⟨_, rfl⟩
    rw [← hW] at x0 x1 y0 y1 z0 z1 s0 s1 d0 d1 o0 o1 hB ⊢
    clear hW
    clear x0 x1 y0 y1
    go_region_held3 (fun w' => w'.cell? ⟨w10.heap.size, 0, none⟩ = some (.int .i64 (hiW (z))) ∧ w'.cell? ⟨w10.heap.size, 1, none⟩ = some (.int .u64 (loW (z))) ∧ w'.cell? ⟨w8.heap.size, 0, none⟩ = some (.int .i64 (hiW (z))) ∧ w'.cell? ⟨w8.heap.size, 1, none⟩ = some (.int .u64 (loW (z))) ∧ w'.cell? ⟨w14.heap.size, 0, none⟩ = some (.int .i64 (hiW (d))) ∧ w'.cell? ⟨w17.heap.size, 0, none⟩ = some (.int .i64 (hiW (-12))) ∧ w'.cell? ⟨w17.heap.size, 1, none⟩ = some (.int .u64 (loW (-12)))) ((refine ⟨?_, ?_, ?_, ?_, ?_, ?_, ?_⟩ <;> (repeat (with_reducible refine cell_dr ?_)) <;> (with_reducible first | exact s0 | exact s1 | exact z0 | exact z1 | exact d0 | exact o0 | exact o1))) (first | (go_at_call_of 8 (Value.int IntKind.i64 a); refine (HOa.out _).mono ?_; rintro e q ⟨rfl, hb⟩; (with_reducible first | replace s0 := cell_be hb s0 | replace s0 := cell_be hb (cell_dr s0)); (with_reducible first | replace s1 := cell_be hb s1 | replace s1 := cell_be hb (cell_dr s1)); (with_reducible first | replace z0 := cell_be hb z0 | replace z0 := cell_be hb (cell_dr z0)); (with_reducible first | replace z1 := cell_be hb z1 | replace z1 := cell_be hb (cell_dr z1)); (with_reducible first | replace d0 := cell_be hb d0 | replace d0 := cell_be hb (cell_dr d0)); (with_reducible first | replace o0 := cell_be hb o0 | replace o0 := cell_be hb (cell_dr o0)); (with_reducible first | replace o1 := cell_be hb o1 | replace o1 := cell_be hb (cell_dr o1)); (with_reducible first | replace hB := bel_step hB (Nat.le_refl _) hb | replace hB := bel_step hB.drew (Nat.le_refl _) hb); clear hb) | (go_at_call_of 8 (Value.int IntKind.i64 N); refine (HON.out _).mono ?_; rintro e q ⟨rfl, hb⟩; (with_reducible first | replace s0 := cell_be hb s0 | replace s0 := cell_be hb (cell_dr s0)); (with_reducible first | replace s1 := cell_be hb s1 | replace s1 := cell_be hb (cell_dr s1)); (with_reducible first | replace z0 := cell_be hb z0 | replace z0 := cell_be hb (cell_dr z0)); (with_reducible first | replace z1 := cell_be hb z1 | replace z1 := cell_be hb (cell_dr z1)); (with_reducible first | replace d0 := cell_be hb d0 | replace d0 := cell_be hb (cell_dr d0)); (with_reducible first | replace o0 := cell_be hb o0 | replace o0 := cell_be hb (cell_dr o0)); (with_reducible first | replace o1 := cell_be hb o1 | replace o1 := cell_be hb (cell_dr o1)); (with_reducible first | replace hB := bel_step hB (Nat.le_refl _) hb | replace hB := bel_step hB.drew (Nat.le_refl _) hb); clear hb) | (go_at_call 8; refine (HO12.out _).mono ?_; rintro e q ⟨rfl, hb⟩; (with_reducible first | replace s0 := cell_be hb s0 | replace s0 := cell_be hb (cell_dr s0)); (with_reducible first | replace s1 := cell_be hb s1 | replace s1 := cell_be hb (cell_dr s1)); (with_reducible first | replace z0 := cell_be hb z0 | replace z0 := cell_be hb (cell_dr z0)); (with_reducible first | replace z1 := cell_be hb z1 | replace z1 := cell_be hb (cell_dr z1)); (with_reducible first | replace d0 := cell_be hb d0 | replace d0 := cell_be hb (cell_dr d0)); (with_reducible first | replace o0 := cell_be hb o0 | replace o0 := cell_be hb (cell_dr o0)); (with_reducible first | replace o1 := cell_be hb o1 | replace o1 := cell_be hb (cell_dr o1)); (with_reducible first | replace hB := bel_step hB (Nat.le_refl _) hb | replace hB := bel_step hB.drew (Nat.le_refl _) hb); clear hb) | (go_at_call 11; refine (HC.out _).mono ?_; rintro e q ⟨rfl, hb⟩; (with_reducible first | replace s0 := cell_be hb s0 | replace s0 := cell_be hb (cell_dr s0)); (with_reducible first | replace s1 := cell_be hb s1 | replace s1 := cell_be hb (cell_dr s1)); (with_reducible first | replace z0 := cell_be hb z0 | replace z0 := cell_be hb (cell_dr z0)); (with_reducible first | replace z1 := cell_be hb z1 | replace z1 := cell_be hb (cell_dr z1)); (with_reducible first | replace d0 := cell_be hb d0 | replace d0 := cell_be hb (cell_dr d0)); (with_reducible first | replace o0 := cell_be hb o0 | replace o0 := cell_be hb (cell_dr o0)); (with_reducible first | replace o1 := cell_be hb o1 | replace o1 := cell_be hb (cell_dr o1)); (with_reducible first | replace hB := bel_step hB (Nat.le_refl _) hb | replace hB := bel_step hB.drew (Nat.le_refl _) hb); clear hb))
    go_wp2
    go_ret
    exact ⟨rfl, by first | exact hB | exact hB.drew⟩
  · have g1 : decide (hiW d < 0) = false := by simp; have := hd.1; omega
    have g2 : (a == N) = true := by simpa using hne
    clear hd hlt hne
    have hB := Below.refl w.heap.size w
    go_enter Try.func5, Try.ntmps5
    go_wp2_with fail
    with_reducible refine (HOa.out _).mono ?_
    rintro e w1 ⟨rfl, hb⟩
    replace hB := bel_step hB (Nat.le_refl _) hb
    clear hb
    go_wp2_with fail
    with_reducible refine (HX.out _).mono ?_
    rintro e w2 ⟨rfl, hb⟩
    replace hB := bel_step hB (Nat.le_refl _) hb
    clear hb
    replace hB := hB.alloc hB.size (.cells #[.int .i64 (hiW (x)), .int .u64 (loW (x))] 25)
    have x0 := cell_new0 (w := w2) (x := (.int .i64 (hiW (x)))) (y := (.int .u64 (loW (x)))) (t := 25) rfl
    have x1 := cell_new1 (w := w2) (x := (.int .i64 (hiW (x)))) (y := (.int .u64 (loW (x)))) (t := 25) rfl
    go_wp2_with fail
    obtain ⟨w3, hW⟩ : ∃ W, W = w2.alloc (.cells #[.int .i64 (hiW (x)), .int .u64 (loW (x))] 25) := ⟨_, rfl⟩
    rw [← hW] at x0 x1 hB ⊢
    clear hW
    with_reducible refine (HOa.out _).mono ?_
    rintro e w4 ⟨rfl, hb⟩
    replace x0 := cell_be hb x0
    replace x1 := cell_be hb x1
    replace hB := bel_step hB (Nat.le_refl _) hb
    clear hb
    go_wp2_with fail
    with_reducible refine (HY.out _).mono ?_
    rintro e w5 ⟨rfl, hb⟩
    replace x0 := cell_be hb x0
    replace x1 := cell_be hb x1
    replace hB := bel_step hB (Nat.le_refl _) hb
    clear hb
    replace x0 := cell_al (o := (.cells #[.int .i64 (hiW (y)), .int .u64 (loW (y))] 25)) x0
    replace x1 := cell_al (o := (.cells #[.int .i64 (hiW (y)), .int .u64 (loW (y))] 25)) x1
    replace hB := hB.alloc hB.size (.cells #[.int .i64 (hiW (y)), .int .u64 (loW (y))] 25)
    have y0 := cell_new0 (w := w5) (x := (.int .i64 (hiW (y)))) (y := (.int .u64 (loW (y)))) (t := 25) rfl
    have y1 := cell_new1 (w := w5) (x := (.int .i64 (hiW (y)))) (y := (.int .u64 (loW (y)))) (t := 25) rfl
    go_wp2_with fail
    obtain ⟨w6, hW⟩ : ∃ W, W = w5.alloc (.cells #[.int .i64 (hiW (y)), .int .u64 (loW (y))] 25) := ⟨_, rfl⟩
    rw [← hW] at x0 x1 y0 y1 hB ⊢
    clear hW
    with_reducible refine (HOa.out _).mono ?_
    rintro e w7 ⟨rfl, hb⟩
    replace x0 := cell_be hb x0
    replace x1 := cell_be hb x1
    replace y0 := cell_be hb y0
    replace y1 := cell_be hb y1
    replace hB := bel_step hB (Nat.le_refl _) hb
    clear hb
    go_wp2_with fail
    with_reducible refine (HZ.out _).mono ?_
    rintro e w8 ⟨rfl, hb⟩
    replace x0 := cell_be hb x0
    replace x1 := cell_be hb x1
    replace y0 := cell_be hb y0
    replace y1 := cell_be hb y1
    replace hB := bel_step hB (Nat.le_refl _) hb
    clear hb
    replace x0 := cell_al (o := (.cells #[.int .i64 (hiW (z)), .int .u64 (loW (z))] 25)) x0
    replace x1 := cell_al (o := (.cells #[.int .i64 (hiW (z)), .int .u64 (loW (z))] 25)) x1
    replace y0 := cell_al (o := (.cells #[.int .i64 (hiW (z)), .int .u64 (loW (z))] 25)) y0
    replace y1 := cell_al (o := (.cells #[.int .i64 (hiW (z)), .int .u64 (loW (z))] 25)) y1
    replace hB := hB.alloc hB.size (.cells #[.int .i64 (hiW (z)), .int .u64 (loW (z))] 25)
    have z0 := cell_new0 (w := w8) (x := (.int .i64 (hiW (z)))) (y := (.int .u64 (loW (z)))) (t := 25) rfl
    have z1 := cell_new1 (w := w8) (x := (.int .i64 (hiW (z)))) (y := (.int .u64 (loW (z)))) (t := 25) rfl
    go_wp2_with fail
    obtain ⟨w9, hW⟩ : ∃ W, W = w8.alloc (.cells #[.int .i64 (hiW (z)), .int .u64 (loW (z))] 25) := ⟨_, rfl⟩
    rw [← hW] at x0 x1 y0 y1 z0 z1 hB ⊢
    clear hW
    with_reducible refine (HS.out _).mono ?_
    rintro e w10 ⟨rfl, hb⟩
    replace x0 := cell_be hb x0
    replace x1 := cell_be hb x1
    replace y0 := cell_be hb y0
    replace y1 := cell_be hb y1
    replace z0 := cell_be hb z0
    replace z1 := cell_be hb z1
    replace hB := bel_step hB (Nat.le_refl _) hb
    clear hb
    replace x0 := cell_al (o := (.cells #[.int .i64 (hiW (z)), .int .u64 (loW (z))] 25)) x0
    replace x1 := cell_al (o := (.cells #[.int .i64 (hiW (z)), .int .u64 (loW (z))] 25)) x1
    replace y0 := cell_al (o := (.cells #[.int .i64 (hiW (z)), .int .u64 (loW (z))] 25)) y0
    replace y1 := cell_al (o := (.cells #[.int .i64 (hiW (z)), .int .u64 (loW (z))] 25)) y1
    replace z0 := cell_al (o := (.cells #[.int .i64 (hiW (z)), .int .u64 (loW (z))] 25)) z0
    replace z1 := cell_al (o := (.cells #[.int .i64 (hiW (z)), .int .u64 (loW (z))] 25)) z1
    replace hB := hB.alloc hB.size (.cells #[.int .i64 (hiW (z)), .int .u64 (loW (z))] 25)
    have s0 := cell_new0 (w := w10) (x := (.int .i64 (hiW (z)))) (y := (.int .u64 (loW (z)))) (t := 25) rfl
    have s1 := cell_new1 (w := w10) (x := (.int .i64 (hiW (z)))) (y := (.int .u64 (loW (z)))) (t := 25) rfl
    go_wp2_with fail
    obtain ⟨w11, hW⟩ : ∃ W, W = w10.alloc (.cells #[.int .i64 (hiW (z)), .int .u64 (loW (z))] 25) := ⟨_, rfl⟩
    rw [← hW] at x0 x1 y0 y1 z0 z1 s0 s1 hB ⊢
    clear hW
    with_reducible refine (HOa.out _).mono ?_
    rintro e w12 ⟨rfl, hb⟩
    replace x0 := cell_be hb x0
    replace x1 := cell_be hb x1
    replace y0 := cell_be hb y0
    replace y1 := cell_be hb y1
    replace z0 := cell_be hb z0
    replace z1 := cell_be hb z1
    replace s0 := cell_be hb s0
    replace s1 := cell_be hb s1
    replace hB := bel_step hB (Nat.le_refl _) hb
    clear hb
    go_wp2_with fail
    with_reducible refine (HON.out _).mono ?_
    rintro e w13 ⟨rfl, hb⟩
    replace x0 := cell_be hb x0
    replace x1 := cell_be hb x1
    replace y0 := cell_be hb y0
    replace y1 := cell_be hb y1
    replace z0 := cell_be hb z0
    replace z1 := cell_be hb z1
    replace s0 := cell_be hb s0
    replace s1 := cell_be hb s1
    replace hB := bel_step hB (Nat.le_refl _) hb
    clear hb
    go_wp2_with fail
    with_reducible refine (HD.out _).mono ?_
    rintro e w14 ⟨rfl, hb⟩
    replace x0 := cell_be hb x0
    replace x1 := cell_be hb x1
    replace y0 := cell_be hb y0
    replace y1 := cell_be hb y1
    replace z0 := cell_be hb z0
    replace z1 := cell_be hb z1
    replace s0 := cell_be hb s0
    replace s1 := cell_be hb s1
    replace hB := bel_step hB (Nat.le_refl _) hb
    clear hb
    replace x0 := cell_al (o := (.cells #[.int .i64 (hiW (d)), .int .u64 (loW (d))] 25)) x0
    replace x1 := cell_al (o := (.cells #[.int .i64 (hiW (d)), .int .u64 (loW (d))] 25)) x1
    replace y0 := cell_al (o := (.cells #[.int .i64 (hiW (d)), .int .u64 (loW (d))] 25)) y0
    replace y1 := cell_al (o := (.cells #[.int .i64 (hiW (d)), .int .u64 (loW (d))] 25)) y1
    replace z0 := cell_al (o := (.cells #[.int .i64 (hiW (d)), .int .u64 (loW (d))] 25)) z0
    replace z1 := cell_al (o := (.cells #[.int .i64 (hiW (d)), .int .u64 (loW (d))] 25)) z1
    replace s0 := cell_al (o := (.cells #[.int .i64 (hiW (d)), .int .u64 (loW (d))] 25)) s0
    replace s1 := cell_al (o := (.cells #[.int .i64 (hiW (d)), .int .u64 (loW (d))] 25)) s1
    replace hB := hB.alloc hB.size (.cells #[.int .i64 (hiW (d)), .int .u64 (loW (d))] 25)
    have d0 := cell_new0 (w := w14) (x := (.int .i64 (hiW (d)))) (y := (.int .u64 (loW (d)))) (t := 25) rfl
    have d1 := cell_new1 (w := w14) (x := (.int .i64 (hiW (d)))) (y := (.int .u64 (loW (d)))) (t := 25) rfl
    go_wp2_with fail
    obtain ⟨w15, hW⟩ : ∃ W, W = w14.alloc (.cells #[.int .i64 (hiW (d)), .int .u64 (loW (d))] 25) := ⟨_, rfl⟩
    rw [← hW] at x0 x1 y0 y1 z0 z1 s0 s1 d0 d1 hB ⊢
    clear hW
    with_reducible refine (HO3.out _).mono ?_
    rintro e w16 ⟨rfl, hb⟩
    replace x0 := cell_be hb x0
    replace x1 := cell_be hb x1
    replace y0 := cell_be hb y0
    replace y1 := cell_be hb y1
    replace z0 := cell_be hb z0
    replace z1 := cell_be hb z1
    replace s0 := cell_be hb s0
    replace s1 := cell_be hb s1
    replace d0 := cell_be hb d0
    replace d1 := cell_be hb d1
    replace hB := bel_step hB (Nat.le_refl _) hb
    clear hb
    go_wp2_with fail
    with_reducible refine (HT.out _).mono ?_
    rintro e w17 ⟨rfl, hb⟩
    replace x0 := cell_be hb x0
    replace x1 := cell_be hb x1
    replace y0 := cell_be hb y0
    replace y1 := cell_be hb y1
    replace z0 := cell_be hb z0
    replace z1 := cell_be hb z1
    replace s0 := cell_be hb s0
    replace s1 := cell_be hb s1
    replace d0 := cell_be hb d0
    replace d1 := cell_be hb d1
    replace hB := bel_step hB (Nat.le_refl _) hb
    clear hb
    replace x0 := cell_al (o := (.cells #[.int .i64 (hiW (-12)), .int .u64 (loW (-12))] 25)) x0
    replace x1 := cell_al (o := (.cells #[.int .i64 (hiW (-12)), .int .u64 (loW (-12))] 25)) x1
    replace y0 := cell_al (o := (.cells #[.int .i64 (hiW (-12)), .int .u64 (loW (-12))] 25)) y0
    replace y1 := cell_al (o := (.cells #[.int .i64 (hiW (-12)), .int .u64 (loW (-12))] 25)) y1
    replace z0 := cell_al (o := (.cells #[.int .i64 (hiW (-12)), .int .u64 (loW (-12))] 25)) z0
    replace z1 := cell_al (o := (.cells #[.int .i64 (hiW (-12)), .int .u64 (loW (-12))] 25)) z1
    replace s0 := cell_al (o := (.cells #[.int .i64 (hiW (-12)), .int .u64 (loW (-12))] 25)) s0
    replace s1 := cell_al (o := (.cells #[.int .i64 (hiW (-12)), .int .u64 (loW (-12))] 25)) s1
    replace d0 := cell_al (o := (.cells #[.int .i64 (hiW (-12)), .int .u64 (loW (-12))] 25)) d0
    replace d1 := cell_al (o := (.cells #[.int .i64 (hiW (-12)), .int .u64 (loW (-12))] 25)) d1
    replace hB := hB.alloc hB.size (.cells #[.int .i64 (hiW (-12)), .int .u64 (loW (-12))] 25)
    have o0 := cell_new0 (w := w17) (x := (.int .i64 (hiW (-12)))) (y := (.int .u64 (loW (-12)))) (t := 25) rfl
    have o1 := cell_new1 (w := w17) (x := (.int .i64 (hiW (-12)))) (y := (.int .u64 (loW (-12)))) (t := 25) rfl
    go_wp2_with fail
    obtain ⟨w18, hW⟩ : ∃ W, W = w17.alloc (.cells #[.int .i64 (hiW (-12)), .int .u64 (loW (-12))] 25) := ⟨_, rfl⟩
    rw [← hW] at x0 x1 y0 y1 z0 z1 s0 s1 d0 d1 o0 o1 hB ⊢
    clear hW
    clear x0 x1 y0 y1
    go_region_held3 (fun w' => w'.cell? ⟨w10.heap.size, 0, none⟩ = some (.int .i64 (hiW (z))) ∧ w'.cell? ⟨w10.heap.size, 1, none⟩ = some (.int .u64 (loW (z))) ∧ w'.cell? ⟨w8.heap.size, 0, none⟩ = some (.int .i64 (hiW (z))) ∧ w'.cell? ⟨w8.heap.size, 1, none⟩ = some (.int .u64 (loW (z))) ∧ w'.cell? ⟨w14.heap.size, 0, none⟩ = some (.int .i64 (hiW (d))) ∧ w'.cell? ⟨w17.heap.size, 0, none⟩ = some (.int .i64 (hiW (-12))) ∧ w'.cell? ⟨w17.heap.size, 1, none⟩ = some (.int .u64 (loW (-12)))) ((refine ⟨?_, ?_, ?_, ?_, ?_, ?_, ?_⟩ <;> (repeat (with_reducible refine cell_dr ?_)) <;> (with_reducible first | exact s0 | exact s1 | exact z0 | exact z1 | exact d0 | exact o0 | exact o1))) (first | (go_at_call_of 8 (Value.int IntKind.i64 a); refine (HOa.out _).mono ?_; rintro e q ⟨rfl, hb⟩; (with_reducible first | replace s0 := cell_be hb s0 | replace s0 := cell_be hb (cell_dr s0)); (with_reducible first | replace s1 := cell_be hb s1 | replace s1 := cell_be hb (cell_dr s1)); (with_reducible first | replace z0 := cell_be hb z0 | replace z0 := cell_be hb (cell_dr z0)); (with_reducible first | replace z1 := cell_be hb z1 | replace z1 := cell_be hb (cell_dr z1)); (with_reducible first | replace d0 := cell_be hb d0 | replace d0 := cell_be hb (cell_dr d0)); (with_reducible first | replace o0 := cell_be hb o0 | replace o0 := cell_be hb (cell_dr o0)); (with_reducible first | replace o1 := cell_be hb o1 | replace o1 := cell_be hb (cell_dr o1)); (with_reducible first | replace hB := bel_step hB (Nat.le_refl _) hb | replace hB := bel_step hB.drew (Nat.le_refl _) hb); clear hb) | (go_at_call_of 8 (Value.int IntKind.i64 N); refine (HON.out _).mono ?_; rintro e q ⟨rfl, hb⟩; (with_reducible first | replace s0 := cell_be hb s0 | replace s0 := cell_be hb (cell_dr s0)); (with_reducible first | replace s1 := cell_be hb s1 | replace s1 := cell_be hb (cell_dr s1)); (with_reducible first | replace z0 := cell_be hb z0 | replace z0 := cell_be hb (cell_dr z0)); (with_reducible first | replace z1 := cell_be hb z1 | replace z1 := cell_be hb (cell_dr z1)); (with_reducible first | replace d0 := cell_be hb d0 | replace d0 := cell_be hb (cell_dr d0)); (with_reducible first | replace o0 := cell_be hb o0 | replace o0 := cell_be hb (cell_dr o0)); (with_reducible first | replace o1 := cell_be hb o1 | replace o1 := cell_be hb (cell_dr o1)); (with_reducible first | replace hB := bel_step hB (Nat.le_refl _) hb | replace hB := bel_step hB.drew (Nat.le_refl _) hb); clear hb) | (go_at_call 8; refine (HO12.out _).mono ?_; rintro e q ⟨rfl, hb⟩; (with_reducible first | replace s0 := cell_be hb s0 | replace s0 := cell_be hb (cell_dr s0)); (with_reducible first | replace s1 := cell_be hb s1 | replace s1 := cell_be hb (cell_dr s1)); (with_reducible first | replace z0 := cell_be hb z0 | replace z0 := cell_be hb (cell_dr z0)); (with_reducible first | replace z1 := cell_be hb z1 | replace z1 := cell_be hb (cell_dr z1)); (with_reducible first | replace d0 := cell_be hb d0 | replace d0 := cell_be hb (cell_dr d0)); (with_reducible first | replace o0 := cell_be hb o0 | replace o0 := cell_be hb (cell_dr o0)); (with_reducible first | replace o1 := cell_be hb o1 | replace o1 := cell_be hb (cell_dr o1)); (with_reducible first | replace hB := bel_step hB (Nat.le_refl _) hb | replace hB := bel_step hB.drew (Nat.le_refl _) hb); clear hb) | (go_at_call 11; refine (HC.out _).mono ?_; rintro e q ⟨rfl, hb⟩; (with_reducible first | replace s0 := cell_be hb s0 | replace s0 := cell_be hb (cell_dr s0)); (with_reducible first | replace s1 := cell_be hb s1 | replace s1 := cell_be hb (cell_dr s1)); (with_reducible first | replace z0 := cell_be hb z0 | replace z0 := cell_be hb (cell_dr z0)); (with_reducible first | replace z1 := cell_be hb z1 | replace z1 := cell_be hb (cell_dr z1)); (with_reducible first | replace d0 := cell_be hb d0 | replace d0 := cell_be hb (cell_dr d0)); (with_reducible first | replace o0 := cell_be hb o0 | replace o0 := cell_be hb (cell_dr o0)); (with_reducible first | replace o1 := cell_be hb o1 | replace o1 := cell_be hb (cell_dr o1)); (with_reducible first | replace hB := bel_step hB (Nat.le_refl _) hb | replace hB := bel_step hB.drew (Nat.le_refl _) hb); clear hb))
    go_wp2
    go_ret
    exact ⟨rfl, by first | exact hB | exact hB.drew⟩
  · have g1 : decide (hiW d < 0) = false := by simp; have := hd.1; omega
    have g2 : (a == N) = false := by simpa using hne
    clear hd hlt hne
    have hB := Below.refl w.heap.size w
    go_enter Try.func5, Try.ntmps5
    go_wp2_with fail
    with_reducible refine (HOa.out _).mono ?_
    rintro e w1 ⟨rfl, hb⟩
    replace hB := bel_step hB (Nat.le_refl _) hb
    clear hb
    go_wp2_with fail
    with_reducible refine (HX.out _).mono ?_
    rintro e w2 ⟨rfl, hb⟩
    replace hB := bel_step hB (Nat.le_refl _) hb
    clear hb
    replace hB := hB.alloc hB.size (.cells #[.int .i64 (hiW (x)), .int .u64 (loW (x))] 25)
    have x0 := cell_new0 (w := w2) (x := (.int .i64 (hiW (x)))) (y := (.int .u64 (loW (x)))) (t := 25) rfl
    have x1 := cell_new1 (w := w2) (x := (.int .i64 (hiW (x)))) (y := (.int .u64 (loW (x)))) (t := 25) rfl
    go_wp2_with fail
    obtain ⟨w3, hW⟩ : ∃ W, W = w2.alloc (.cells #[.int .i64 (hiW (x)), .int .u64 (loW (x))] 25) := ⟨_, rfl⟩
    rw [← hW] at x0 x1 hB ⊢
    clear hW
    with_reducible refine (HOa.out _).mono ?_
    rintro e w4 ⟨rfl, hb⟩
    replace x0 := cell_be hb x0
    replace x1 := cell_be hb x1
    replace hB := bel_step hB (Nat.le_refl _) hb
    clear hb
    go_wp2_with fail
    with_reducible refine (HY.out _).mono ?_
    rintro e w5 ⟨rfl, hb⟩
    replace x0 := cell_be hb x0
    replace x1 := cell_be hb x1
    replace hB := bel_step hB (Nat.le_refl _) hb
    clear hb
    replace x0 := cell_al (o := (.cells #[.int .i64 (hiW (y)), .int .u64 (loW (y))] 25)) x0
    replace x1 := cell_al (o := (.cells #[.int .i64 (hiW (y)), .int .u64 (loW (y))] 25)) x1
    replace hB := hB.alloc hB.size (.cells #[.int .i64 (hiW (y)), .int .u64 (loW (y))] 25)
    have y0 := cell_new0 (w := w5) (x := (.int .i64 (hiW (y)))) (y := (.int .u64 (loW (y)))) (t := 25) rfl
    have y1 := cell_new1 (w := w5) (x := (.int .i64 (hiW (y)))) (y := (.int .u64 (loW (y)))) (t := 25) rfl
    go_wp2_with fail
    obtain ⟨w6, hW⟩ : ∃ W, W = w5.alloc (.cells #[.int .i64 (hiW (y)), .int .u64 (loW (y))] 25) := ⟨_, rfl⟩
    rw [← hW] at x0 x1 y0 y1 hB ⊢
    clear hW
    with_reducible refine (HOa.out _).mono ?_
    rintro e w7 ⟨rfl, hb⟩
    replace x0 := cell_be hb x0
    replace x1 := cell_be hb x1
    replace y0 := cell_be hb y0
    replace y1 := cell_be hb y1
    replace hB := bel_step hB (Nat.le_refl _) hb
    clear hb
    go_wp2_with fail
    with_reducible refine (HZ.out _).mono ?_
    rintro e w8 ⟨rfl, hb⟩
    replace x0 := cell_be hb x0
    replace x1 := cell_be hb x1
    replace y0 := cell_be hb y0
    replace y1 := cell_be hb y1
    replace hB := bel_step hB (Nat.le_refl _) hb
    clear hb
    replace x0 := cell_al (o := (.cells #[.int .i64 (hiW (z)), .int .u64 (loW (z))] 25)) x0
    replace x1 := cell_al (o := (.cells #[.int .i64 (hiW (z)), .int .u64 (loW (z))] 25)) x1
    replace y0 := cell_al (o := (.cells #[.int .i64 (hiW (z)), .int .u64 (loW (z))] 25)) y0
    replace y1 := cell_al (o := (.cells #[.int .i64 (hiW (z)), .int .u64 (loW (z))] 25)) y1
    replace hB := hB.alloc hB.size (.cells #[.int .i64 (hiW (z)), .int .u64 (loW (z))] 25)
    have z0 := cell_new0 (w := w8) (x := (.int .i64 (hiW (z)))) (y := (.int .u64 (loW (z)))) (t := 25) rfl
    have z1 := cell_new1 (w := w8) (x := (.int .i64 (hiW (z)))) (y := (.int .u64 (loW (z)))) (t := 25) rfl
    go_wp2_with fail
    obtain ⟨w9, hW⟩ : ∃ W, W = w8.alloc (.cells #[.int .i64 (hiW (z)), .int .u64 (loW (z))] 25) := ⟨_, rfl⟩
    rw [← hW] at x0 x1 y0 y1 z0 z1 hB ⊢
    clear hW
    with_reducible refine (HS.out _).mono ?_
    rintro e w10 ⟨rfl, hb⟩
    replace x0 := cell_be hb x0
    replace x1 := cell_be hb x1
    replace y0 := cell_be hb y0
    replace y1 := cell_be hb y1
    replace z0 := cell_be hb z0
    replace z1 := cell_be hb z1
    replace hB := bel_step hB (Nat.le_refl _) hb
    clear hb
    replace x0 := cell_al (o := (.cells #[.int .i64 (hiW (z)), .int .u64 (loW (z))] 25)) x0
    replace x1 := cell_al (o := (.cells #[.int .i64 (hiW (z)), .int .u64 (loW (z))] 25)) x1
    replace y0 := cell_al (o := (.cells #[.int .i64 (hiW (z)), .int .u64 (loW (z))] 25)) y0
    replace y1 := cell_al (o := (.cells #[.int .i64 (hiW (z)), .int .u64 (loW (z))] 25)) y1
    replace z0 := cell_al (o := (.cells #[.int .i64 (hiW (z)), .int .u64 (loW (z))] 25)) z0
    replace z1 := cell_al (o := (.cells #[.int .i64 (hiW (z)), .int .u64 (loW (z))] 25)) z1
    replace hB := hB.alloc hB.size (.cells #[.int .i64 (hiW (z)), .int .u64 (loW (z))] 25)
    have s0 := cell_new0 (w := w10) (x := (.int .i64 (hiW (z)))) (y := (.int .u64 (loW (z)))) (t := 25) rfl
    have s1 := cell_new1 (w := w10) (x := (.int .i64 (hiW (z)))) (y := (.int .u64 (loW (z)))) (t := 25) rfl
    go_wp2_with fail
    obtain ⟨w11, hW⟩ : ∃ W, W = w10.alloc (.cells #[.int .i64 (hiW (z)), .int .u64 (loW (z))] 25) := ⟨_, rfl⟩
    rw [← hW] at x0 x1 y0 y1 z0 z1 s0 s1 hB ⊢
    clear hW
    with_reducible refine (HOa.out _).mono ?_
    rintro e w12 ⟨rfl, hb⟩
    replace x0 := cell_be hb x0
    replace x1 := cell_be hb x1
    replace y0 := cell_be hb y0
    replace y1 := cell_be hb y1
    replace z0 := cell_be hb z0
    replace z1 := cell_be hb z1
    replace s0 := cell_be hb s0
    replace s1 := cell_be hb s1
    replace hB := bel_step hB (Nat.le_refl _) hb
    clear hb
    go_wp2_with fail
    with_reducible refine (HON.out _).mono ?_
    rintro e w13 ⟨rfl, hb⟩
    replace x0 := cell_be hb x0
    replace x1 := cell_be hb x1
    replace y0 := cell_be hb y0
    replace y1 := cell_be hb y1
    replace z0 := cell_be hb z0
    replace z1 := cell_be hb z1
    replace s0 := cell_be hb s0
    replace s1 := cell_be hb s1
    replace hB := bel_step hB (Nat.le_refl _) hb
    clear hb
    go_wp2_with fail
    with_reducible refine (HD.out _).mono ?_
    rintro e w14 ⟨rfl, hb⟩
    replace x0 := cell_be hb x0
    replace x1 := cell_be hb x1
    replace y0 := cell_be hb y0
    replace y1 := cell_be hb y1
    replace z0 := cell_be hb z0
    replace z1 := cell_be hb z1
    replace s0 := cell_be hb s0
    replace s1 := cell_be hb s1
    replace hB := bel_step hB (Nat.le_refl _) hb
    clear hb
    replace x0 := cell_al (o := (.cells #[.int .i64 (hiW (d)), .int .u64 (loW (d))] 25)) x0
    replace x1 := cell_al (o := (.cells #[.int .i64 (hiW (d)), .int .u64 (loW (d))] 25)) x1
    replace y0 := cell_al (o := (.cells #[.int .i64 (hiW (d)), .int .u64 (loW (d))] 25)) y0
    replace y1 := cell_al (o := (.cells #[.int .i64 (hiW (d)), .int .u64 (loW (d))] 25)) y1
    replace z0 := cell_al (o := (.cells #[.int .i64 (hiW (d)), .int .u64 (loW (d))] 25)) z0
    replace z1 := cell_al (o := (.cells #[.int .i64 (hiW (d)), .int .u64 (loW (d))] 25)) z1
    replace s0 := cell_al (o := (.cells #[.int .i64 (hiW (d)), .int .u64 (loW (d))] 25)) s0
    replace s1 := cell_al (o := (.cells #[.int .i64 (hiW (d)), .int .u64 (loW (d))] 25)) s1
    replace hB := hB.alloc hB.size (.cells #[.int .i64 (hiW (d)), .int .u64 (loW (d))] 25)
    have d0 := cell_new0 (w := w14) (x := (.int .i64 (hiW (d)))) (y := (.int .u64 (loW (d)))) (t := 25) rfl
    have d1 := cell_new1 (w := w14) (x := (.int .i64 (hiW (d)))) (y := (.int .u64 (loW (d)))) (t := 25) rfl
    go_wp2_with fail
    obtain ⟨w15, hW⟩ : ∃ W, W = w14.alloc (.cells #[.int .i64 (hiW (d)), .int .u64 (loW (d))] 25) := ⟨_, rfl⟩
    rw [← hW] at x0 x1 y0 y1 z0 z1 s0 s1 d0 d1 hB ⊢
    clear hW
    with_reducible refine (HO3.out _).mono ?_
    rintro e w16 ⟨rfl, hb⟩
    replace x0 := cell_be hb x0
    replace x1 := cell_be hb x1
    replace y0 := cell_be hb y0
    replace y1 := cell_be hb y1
    replace z0 := cell_be hb z0
    replace z1 := cell_be hb z1
    replace s0 := cell_be hb s0
    replace s1 := cell_be hb s1
    replace d0 := cell_be hb d0
    replace d1 := cell_be hb d1
    replace hB := bel_step hB (Nat.le_refl _) hb
    clear hb
    go_wp2_with fail
    with_reducible refine (HT.out _).mono ?_
    rintro e w17 ⟨rfl, hb⟩
    replace x0 := cell_be hb x0
    replace x1 := cell_be hb x1
    replace y0 := cell_be hb y0
    replace y1 := cell_be hb y1
    replace z0 := cell_be hb z0
    replace z1 := cell_be hb z1
    replace s0 := cell_be hb s0
    replace s1 := cell_be hb s1
    replace d0 := cell_be hb d0
    replace d1 := cell_be hb d1
    replace hB := bel_step hB (Nat.le_refl _) hb
    clear hb
    replace x0 := cell_al (o := (.cells #[.int .i64 (hiW (-12)), .int .u64 (loW (-12))] 25)) x0
    replace x1 := cell_al (o := (.cells #[.int .i64 (hiW (-12)), .int .u64 (loW (-12))] 25)) x1
    replace y0 := cell_al (o := (.cells #[.int .i64 (hiW (-12)), .int .u64 (loW (-12))] 25)) y0
    replace y1 := cell_al (o := (.cells #[.int .i64 (hiW (-12)), .int .u64 (loW (-12))] 25)) y1
    replace z0 := cell_al (o := (.cells #[.int .i64 (hiW (-12)), .int .u64 (loW (-12))] 25)) z0
    replace z1 := cell_al (o := (.cells #[.int .i64 (hiW (-12)), .int .u64 (loW (-12))] 25)) z1
    replace s0 := cell_al (o := (.cells #[.int .i64 (hiW (-12)), .int .u64 (loW (-12))] 25)) s0
    replace s1 := cell_al (o := (.cells #[.int .i64 (hiW (-12)), .int .u64 (loW (-12))] 25)) s1
    replace d0 := cell_al (o := (.cells #[.int .i64 (hiW (-12)), .int .u64 (loW (-12))] 25)) d0
    replace d1 := cell_al (o := (.cells #[.int .i64 (hiW (-12)), .int .u64 (loW (-12))] 25)) d1
    replace hB := hB.alloc hB.size (.cells #[.int .i64 (hiW (-12)), .int .u64 (loW (-12))] 25)
    have o0 := cell_new0 (w := w17) (x := (.int .i64 (hiW (-12)))) (y := (.int .u64 (loW (-12)))) (t := 25) rfl
    have o1 := cell_new1 (w := w17) (x := (.int .i64 (hiW (-12)))) (y := (.int .u64 (loW (-12)))) (t := 25) rfl
    go_wp2_with fail
    obtain ⟨w18, hW⟩ : ∃ W, W = w17.alloc (.cells #[.int .i64 (hiW (-12)), .int .u64 (loW (-12))] 25) := ⟨_, rfl⟩
    rw [← hW] at x0 x1 y0 y1 z0 z1 s0 s1 d0 d1 o0 o1 hB ⊢
    clear hW
    clear x0 x1 y0 y1
    go_region_held3 (fun w' => w'.cell? ⟨w10.heap.size, 0, none⟩ = some (.int .i64 (hiW (z))) ∧ w'.cell? ⟨w10.heap.size, 1, none⟩ = some (.int .u64 (loW (z))) ∧ w'.cell? ⟨w8.heap.size, 0, none⟩ = some (.int .i64 (hiW (z))) ∧ w'.cell? ⟨w8.heap.size, 1, none⟩ = some (.int .u64 (loW (z))) ∧ w'.cell? ⟨w14.heap.size, 0, none⟩ = some (.int .i64 (hiW (d))) ∧ w'.cell? ⟨w17.heap.size, 0, none⟩ = some (.int .i64 (hiW (-12))) ∧ w'.cell? ⟨w17.heap.size, 1, none⟩ = some (.int .u64 (loW (-12)))) ((refine ⟨?_, ?_, ?_, ?_, ?_, ?_, ?_⟩ <;> (repeat (with_reducible refine cell_dr ?_)) <;> (with_reducible first | exact s0 | exact s1 | exact z0 | exact z1 | exact d0 | exact o0 | exact o1))) (first | (go_at_call_of 8 (Value.int IntKind.i64 a); refine (HOa.out _).mono ?_; rintro e q ⟨rfl, hb⟩; (with_reducible first | replace s0 := cell_be hb s0 | replace s0 := cell_be hb (cell_dr s0)); (with_reducible first | replace s1 := cell_be hb s1 | replace s1 := cell_be hb (cell_dr s1)); (with_reducible first | replace z0 := cell_be hb z0 | replace z0 := cell_be hb (cell_dr z0)); (with_reducible first | replace z1 := cell_be hb z1 | replace z1 := cell_be hb (cell_dr z1)); (with_reducible first | replace d0 := cell_be hb d0 | replace d0 := cell_be hb (cell_dr d0)); (with_reducible first | replace o0 := cell_be hb o0 | replace o0 := cell_be hb (cell_dr o0)); (with_reducible first | replace o1 := cell_be hb o1 | replace o1 := cell_be hb (cell_dr o1)); (with_reducible first | replace hB := bel_step hB (Nat.le_refl _) hb | replace hB := bel_step hB.drew (Nat.le_refl _) hb); clear hb) | (go_at_call_of 8 (Value.int IntKind.i64 N); refine (HON.out _).mono ?_; rintro e q ⟨rfl, hb⟩; (with_reducible first | replace s0 := cell_be hb s0 | replace s0 := cell_be hb (cell_dr s0)); (with_reducible first | replace s1 := cell_be hb s1 | replace s1 := cell_be hb (cell_dr s1)); (with_reducible first | replace z0 := cell_be hb z0 | replace z0 := cell_be hb (cell_dr z0)); (with_reducible first | replace z1 := cell_be hb z1 | replace z1 := cell_be hb (cell_dr z1)); (with_reducible first | replace d0 := cell_be hb d0 | replace d0 := cell_be hb (cell_dr d0)); (with_reducible first | replace o0 := cell_be hb o0 | replace o0 := cell_be hb (cell_dr o0)); (with_reducible first | replace o1 := cell_be hb o1 | replace o1 := cell_be hb (cell_dr o1)); (with_reducible first | replace hB := bel_step hB (Nat.le_refl _) hb | replace hB := bel_step hB.drew (Nat.le_refl _) hb); clear hb) | (go_at_call 8; refine (HO12.out _).mono ?_; rintro e q ⟨rfl, hb⟩; (with_reducible first | replace s0 := cell_be hb s0 | replace s0 := cell_be hb (cell_dr s0)); (with_reducible first | replace s1 := cell_be hb s1 | replace s1 := cell_be hb (cell_dr s1)); (with_reducible first | replace z0 := cell_be hb z0 | replace z0 := cell_be hb (cell_dr z0)); (with_reducible first | replace z1 := cell_be hb z1 | replace z1 := cell_be hb (cell_dr z1)); (with_reducible first | replace d0 := cell_be hb d0 | replace d0 := cell_be hb (cell_dr d0)); (with_reducible first | replace o0 := cell_be hb o0 | replace o0 := cell_be hb (cell_dr o0)); (with_reducible first | replace o1 := cell_be hb o1 | replace o1 := cell_be hb (cell_dr o1)); (with_reducible first | replace hB := bel_step hB (Nat.le_refl _) hb | replace hB := bel_step hB.drew (Nat.le_refl _) hb); clear hb) | (go_at_call 11; refine (HC.out _).mono ?_; rintro e q ⟨rfl, hb⟩; (with_reducible first | replace s0 := cell_be hb s0 | replace s0 := cell_be hb (cell_dr s0)); (with_reducible first | replace s1 := cell_be hb s1 | replace s1 := cell_be hb (cell_dr s1)); (with_reducible first | replace z0 := cell_be hb z0 | replace z0 := cell_be hb (cell_dr z0)); (with_reducible first | replace z1 := cell_be hb z1 | replace z1 := cell_be hb (cell_dr z1)); (with_reducible first | replace d0 := cell_be hb d0 | replace d0 := cell_be hb (cell_dr d0)); (with_reducible first | replace o0 := cell_be hb o0 | replace o0 := cell_be hb (cell_dr o0)); (with_reducible first | replace o1 := cell_be hb o1 | replace o1 := cell_be hb (cell_dr o1)); (with_reducible first | replace hB := bel_step hB (Nat.le_refl _) hb | replace hB := bel_step hB.drew (Nat.le_refl _) hb); clear hb))
    go_wp2
    go_ret
    exact ⟨rfl, by first | exact hB | exact hB.drew⟩
theorem wideShares_walk (w : World) (a : Int) (ha : -9223372036854775808 ≤ a ∧ a ≤ 9223372036854775807) (n : Int) (hn : -9223372036854775808 ≤ n ∧ n ≤ 9223372036854775807) (m : Int) (hm : -9223372036854775808 ≤ m ∧ m ≤ 9223372036854775807) :
    Calls Try.prog 5 #[.int .i64 a, .int .i64 n, .int .i64 m] w fun e w' => e = .returned (.bool true) ∧ Below w.heap.size w w' :=
  shares_walk_at w a n m (n / 4) (m / 4) ha rfl rfl (by omega) (by omega)
end Go.Proofs.Ytohgpllonbplfaa
