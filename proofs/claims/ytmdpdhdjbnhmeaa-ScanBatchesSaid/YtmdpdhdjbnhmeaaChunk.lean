/- slices.Chunk over points: what it hands back, and what its iterator tells, inside the wide fence. -/
import Derived.Test.YtmdpdhdjbnhmeaaScanCol
import Derived.Test.YtmdpdhdjbnhmeaaFence
import Derived.RangeFuncBox
import Derived.RangeFuncLeaves
import Derived.Shelf.Abstract
import Derived.Shelf.RegionOpen
import Derived.OwnWalkIn
import Derived.TacticsInMore
import Derived.LoopNIn
import Derived.LoopIn
import Derived.Maps.AppendAt
namespace Go.Proofs.Ytmdpdhdjbnhmeaa
open Go.RowKit Go.Shelf
set_option linter.unusedVariables false
attribute [local go_sem] Oper.semAt_some

theorem chunk_any (A : Option Addr) (n c : Nat) (size : Int) (w : World) (h : 1 ≤ size) :
    Calls Try.prog 27 #[.slice A n c, .int .i64 size] w fun e w' => e = .returned (.func (.func 41) #[] #[.pointer (some ⟨w.heap.size, 0, none⟩), .pointer (some ⟨w.heap.size + 1, 0, none⟩)]) ∧ (w.alloc (.cells #[.slice A n c] 33)).alloc (.cells #[.int .i64 size] 3) = w' := by
  go_enter Try.func27, Try.ntmps27
  go_wp2
  go_ret
  exact ⟨rfl, rfl⟩
/-- a place where a chunk begins -/
abbrev ChunkAt (size len : Nat) := { q : Nat // q * size < len }
def chunkLen (size len q : Nat) : Nat := min size (len - q * size)
def chunkEnc (b off size len : Nat) (x : ChunkAt size len) : Array Value := #[.slice (some ⟨b, off + x.1 * size * 3, none⟩) (chunkLen size len x.1) (chunkLen size len x.1)]
/-- all chunks, in order -/
def AllChunks (size len : Nat) (xs : List (ChunkAt size len)) : Prop := ∃ q, xs.map (·.1) = List.range q ∧ len ≤ q * size ∧ (q = 0 ∨ (q - 1) * size < len)
/-- two boxes hold what they held -/
def Keep2 (Bs Bn : Nat) (W W' : World) : Prop := ∀ v, (W.cell? ⟨Bs, 0, none⟩ = some v → W'.cell? ⟨Bs, 0, none⟩ = some v) ∧ (W.cell? ⟨Bn, 0, none⟩ = some v → W'.cell? ⟨Bn, 0, none⟩ = some v)
theorem Keep2.trans {Bs Bn : Nat} {A B C : World} (h : Keep2 Bs Bn A B) (h' : Keep2 Bs Bn B C) : Keep2 Bs Bn A C := fun v => ⟨fun e => (h' v).1 ((h v).1 e), fun e => (h' v).2 ((h v).2 e)⟩
def ChunkRel (size len : Nat) (Bs Bn : Nat) (vs vn : Value) (J : List (ChunkAt size len) → World → Prop) (i : Value) (wr : World) : Prop :=
  ∃ (q i0 : Nat) (pre : List (ChunkAt size len)), i0 = q * size ∧ i = .int .i64 i0 ∧ pre.map (·.1) = List.range q ∧ (q = 0 ∨ (q - 1) * size < len) ∧ J pre wr ∧ wr.cell? ⟨Bs, 0, none⟩ = some vs ∧ wr.cell? ⟨Bn, 0, none⟩ = some vn
set_option maxRecDepth 100000 in
set_option maxHeartbeats 2000000 in
theorem chunk1_stops (n Bs Bn b off len cap size : Nat) (w : World) (hn : 1 ≤ n) (hs : 1 ≤ size) (hsz : size ≤ 4096) (hlen : len ≤ 1000000) (hlc : len ≤ cap) (hcm : cap ≤ 9223372036854775807) (hBs : Bs < w.heap.size) (hBn : Bn < w.heap.size)
    (h0 : w.cell? ⟨Bs, 0, none⟩ = some (.slice (some ⟨b, off, none⟩) len cap)) (h1 : w.cell? ⟨Bn, 0, none⟩ = some (.int .i64 size)) :
    SeqStopsK Fence.wide n Try.prog 41 #[.pointer (some ⟨Bs, 0, none⟩), .pointer (some ⟨Bn, 0, none⟩)] (chunkEnc b off size len) (Keep2 Bs Bn) (AllChunks size len) (fun _ => True) (len + 1) w := fun l J Jx W hW hJ hJx hY hJ0 => by
  have d0 := (hW.cell (p := ⟨Bs, 0, none⟩) (by simp; omega)).trans h0
  have d1 := (hW.cell (p := ⟨Bn, 0, none⟩) (by simp; omega)).trans h1
  clear h0 h1
  refine callsIn_of_wp Try.func41 rfl trivial ?_ rfl
  simp only [Try.ntmps41, List.size_toArray, List.length_cons, List.length_nil, Nat.reduceAdd, Nat.reduceSub, Array.replicate_succ, Array.replicate_zero, List.push_toArray, List.append_toArray, List.nil_append, List.cons_append]
  have HY := Lib.hid hY; clear hY
  have HJ := Lib.hid hJ; clear hJ hJx
  gi_wp2
  gi_loopw [4] (ChunkRel size len Bs Bn (.slice (some ⟨b, off, none⟩) len cap) (.int .i64 size) J) (fun i _ => len - (intOf i).toNat)
  case atStart => exact ⟨0, 0, [], by omega, rfl, rfl, .inl rfl, hJ0, d0, d1⟩
  case round =>
    obtain ⟨q, i0, pre, hi, rfl, hpre, hq, hJs, e0, e1⟩ := hrel
    have HI := Lib.hid hi; clear hi
    have HPRE := Lib.hid hpre; clear hpre
    have HQ := Lib.hid hq; clear hq
    by_cases hlt : i0 < len
    · have y0 : (0 : Int) ≤ (i0 : Int) := by omega
      have y1 : (i0 : Int) ≤ (len : Int) := by omega
      have y2 : (i0 : Int) ≤ (cap : Int) := by omega
      have hmx : Try.prog.follows .mixedOrders = true := by kernel_rfl
      obtain ⟨e, he⟩ : ∃ e, e = min size (len - i0) := ⟨_, rfl⟩
      have z0 : 1 ≤ e := by omega
      have z1 : i0 + e ≤ len := by omega
      have z2 : (i0 : Int) + (e : Int) ≤ (len : Int) := by omega
      have z3 : (i0 : Int) + (e : Int) ≤ (cap : Int) := by omega
      have zm : min (size : Int) ((len : Int) - (i0 : Int)) = (e : Int) := by omega
      have HE := Lib.hid he; clear he
      have hx : q * size < len := by rw [← HI.out]; exact hlt
      have hJd : J pre wr.drew := HJ.out pre wr wr.drew none hJs ⟨rfl, rfl, rfl, Nat.le_refl _, fun _ _ _ => rfl⟩ (fun r e => by cases e)
      have hpl : pre.length < len + 1 := by
        have h1 := congrArg List.length HPRE.out
        rw [List.length_map, List.length_range] at h1
        have h2 : q ≤ q * size := Nat.le_mul_of_pos_right q hs
        omega
      obtain ⟨fn, tmps, assign, body, hy, hR⟩ := HY.out pre ⟨q, hx⟩ wr.drew hJd hpl
      have hy' : (Instr.yield l #[.slice (some ⟨b, off + i0 * 3, none⟩) e e]).run Try.prog wr.drew = .ok (.round l fn tmps assign body) wr.drew := by
        have h1 : chunkEnc b off size len ⟨q, hx⟩ = #[.slice (some ⟨b, off + i0 * 3, none⟩) e e] := by
          unfold chunkEnc chunkLen
          simp only
          rw [← HI.out, ← HE.out]
        rw [← h1]; exact hy
      have HR := Lib.hid hR; clear hR
      have HYY := Lib.hid hy'; clear hy' hy
      have HEO := HE.out
      gi_wp2
      gi_region_o
      all_goals gi_wp2
      · rw [show (((i0 : Int) + ((len - i0 : Nat) : Int)).toNat - i0) = e by omega, HYY.out, Oper.uponIn_round]
        clear HEO
        refine ⟨fun h => by simp [Fence.wide] at h, HR.out.mono ?_⟩
        rintro e' W3 (⟨rfl, hJ3, hk3⟩ | ⟨rfl, hJx3⟩)
        · have f1 : W3.cell? ⟨Bn, 0, none⟩ = some (.int .i64 size) := (hk3 _).2 e1
          have f0 : W3.cell? ⟨Bs, 0, none⟩ = some (.slice (some ⟨b, off, none⟩) len cap) := (hk3 _).1 e0
          have HPX := Lib.hid (show (pre ++ [(⟨q, hx⟩ : ChunkAt size len)]).map (·.1) = List.range (q + 1) by rw [List.map_append, HPRE.out, List.range_succ]; rfl)
          have HJ3 := Lib.hid hJ3
          clear hJ3 HR HYY HY
          gi_wp2
          exact ⟨⟨q + 1, i0 + size, _, by rw [Nat.add_mul, Nat.one_mul, ← HI.out], by go_num, HPX.out, .inr (by simpa using hx), HJ3.out, f0, f1⟩, by simp [intOf]; omega⟩
        · have HJx := Lib.hid hJx3
          clear hJx3 HR HYY HY
          gi_wp2
          refine bodyPost_ret (results_none rfl _ _ _) rfl ?_
          exact ⟨⟨_, rfl⟩, .inr ⟨_, trivial, HJx.out⟩⟩
      · rw [show (((i0 : Int) + (size : Int)).toNat - i0) = e by omega, HYY.out, Oper.uponIn_round]
        clear HEO
        refine ⟨fun h => by simp [Fence.wide] at h, HR.out.mono ?_⟩
        rintro e' W3 (⟨rfl, hJ3, hk3⟩ | ⟨rfl, hJx3⟩)
        · have f1 : W3.cell? ⟨Bn, 0, none⟩ = some (.int .i64 size) := (hk3 _).2 e1
          have f0 : W3.cell? ⟨Bs, 0, none⟩ = some (.slice (some ⟨b, off, none⟩) len cap) := (hk3 _).1 e0
          have HPX := Lib.hid (show (pre ++ [(⟨q, hx⟩ : ChunkAt size len)]).map (·.1) = List.range (q + 1) by rw [List.map_append, HPRE.out, List.range_succ]; rfl)
          have HJ3 := Lib.hid hJ3
          clear hJ3 HR HYY HY
          gi_wp2
          exact ⟨⟨q + 1, i0 + size, _, by rw [Nat.add_mul, Nat.one_mul, ← HI.out], by go_num, HPX.out, .inr (by simpa using hx), HJ3.out, f0, f1⟩, by simp [intOf]; omega⟩
        · have HJx := Lib.hid hJx3
          clear hJx3 HR HYY HY
          gi_wp2
          refine bodyPost_ret (results_none rfl _ _ _) rfl ?_
          exact ⟨⟨_, rfl⟩, .inr ⟨_, trivial, HJx.out⟩⟩
    · have HD := Lib.hid (show AllChunks size len pre from ⟨q, HPRE.out, by rw [← HI.out]; omega, HQ.out⟩)
      have HJE := Lib.hid hJs
      clear hJs
      gi_wp2
      go_end0
      exact ⟨⟨_, rfl⟩, .inl ⟨pre, HD.out, HJE.out⟩⟩
set_option maxRecDepth 100000 in
set_option maxHeartbeats 2000000 in
theorem chunk1_none (n Bs Bn b off cap size : Nat) (S : Option Addr) (w : World) (hBs : Bs < w.heap.size)
    (h0 : w.cell? ⟨Bs, 0, none⟩ = some (.slice S 0 cap)) :
    SeqStopsK Fence.wide n Try.prog 41 #[.pointer (some ⟨Bs, 0, none⟩), .pointer (some ⟨Bn, 0, none⟩)] (chunkEnc b off size 0) (Keep2 Bs Bn) (AllChunks size 0) (fun _ => True) (0 + 1) w := fun l J Jx W hW hJ hJx hY hJ0 => by
  have d0 := (hW.cell (p := ⟨Bs, 0, none⟩) (by simp; omega)).trans h0
  clear h0 hY hJ hJx
  refine callsIn_of_wp Try.func41 rfl trivial ?_ rfl
  simp only [Try.ntmps41, List.size_toArray, List.length_cons, List.length_nil, Nat.reduceAdd, Nat.reduceSub, Array.replicate_succ, Array.replicate_zero, List.push_toArray, List.append_toArray, List.nil_append, List.cons_append]
  have HJ := Lib.hid hJ0; clear hJ0
  gi_wp2
  gi_loopw [4] (fun i wr => i = .int .i64 0 ∧ wr = W) (fun _ _ => 0)
  case atStart => exact ⟨rfl, rfl⟩
  case round =>
    obtain ⟨rfl, rfl⟩ := hrel
    gi_wp2
    go_end0
    exact ⟨⟨_, rfl⟩, .inl ⟨[], ⟨0, rfl, by omega, .inl rfl⟩, HJ.out⟩⟩
theorem chunk_stops (n Bs Bn b off len cap size : Nat) (S : Option Addr) (hS : 0 < len → S = some ⟨b, off, none⟩) (w : World) (hn : 1 ≤ n) (hs : 1 ≤ size) (hsz : size ≤ 4096) (hlen : len ≤ 1000000) (hlc : len ≤ cap) (hcm : cap ≤ 9223372036854775807) (hBs : Bs < w.heap.size) (hBn : Bn < w.heap.size)
    (h0 : w.cell? ⟨Bs, 0, none⟩ = some (.slice S len cap)) (h1 : w.cell? ⟨Bn, 0, none⟩ = some (.int .i64 size)) :
    SeqStopsK Fence.wide n Try.prog 41 #[.pointer (some ⟨Bs, 0, none⟩), .pointer (some ⟨Bn, 0, none⟩)] (chunkEnc b off size len) (Keep2 Bs Bn) (AllChunks size len) (fun _ => True) (len + 1) w := by
  rcases Nat.eq_zero_or_pos len with h | h
  · subst h; exact chunk1_none n Bs Bn b off cap size S w hBs h0
  · have e := hS h
    subst e
    exact chunk1_stops n Bs Bn b off len cap size w hn hs hsz hlen hlc hcm hBs hBn h0 h1
end Go.Proofs.Ytmdpdhdjbnhmeaa
