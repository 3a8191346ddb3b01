/- Acts: near a begin. -/
import Derived.Test.YtdaodpojcjbggaaRmW
namespace Go.Proofs.Ytdaodpojcjbggaa.Rm
open Go.RowKit Go.Proofs.Ytdaodpojcjbggaa.Ln
set_option linter.unusedVariables false
set_option linter.unusedSimpArgs false

/-- The mapping, near a begin. -/
def nearM (b : Int) (m : M) : M := ⟨b + (IntKind.u64.wrap m.at').tmod 25 - 2, m.off, (IntKind.u64.wrap m.len).tmod 12 - 1, m.sum⟩
theorem u64_nn (x : Int) : 0 ≤ IntKind.u64.wrap x := by
  unfold IntKind.wrap; rw [show (2 : Int) ^ IntKind.u64.bits = 18446744073709551616 from rfl]; simp [IntKind.signed] <;> omega
theorem tmod_rng {u n : Int} (hu : 0 ≤ u) (hn : 0 < n) : 0 ≤ u.tmod n ∧ u.tmod n < n := by
  rw [Int.tmod_eq_emod_of_nonneg hu]
  exact ⟨Int.emod_nonneg _ (by omega), Int.emod_lt_of_pos _ hn⟩
theorem nearM_wf {b : Int} (hb : 0 ≤ b ∧ b ≤ 2305843009213693952) {m : M} (hm : Wf m) : Wf (nearM b m) := by
  have h1 := tmod_rng (u64_nn m.at') (n := 25) (by omega)
  unfold Wf nearM at *
  simp only
  omega
abbrev actAgg (wh : Int) (m : M) (n : Int) : Value := .agg #[.int .u8 wh, .int .i64 m.at', .int .i64 m.off, .int .i64 m.len, .int .u16 m.sum, .int .i64 n]
abbrev actBox (wh : Int) (m : M) (n : Int) : Obj := .cells #[.int .u8 wh, .int .i64 m.at', .int .i64 m.off, .int .i64 m.len, .int .u16 m.sum, .int .i64 n] 62
def NearP (m : M) (w : World) (e : Ending) (w' : World) : Prop := e = .returned (agg m) ∧ Gw w w'
set_option maxRecDepth 100000 in
set_option maxHeartbeats 4000000 in
theorem near_ (wh : Int) (m : M) (n b : Int) (hb : 0 ≤ b ∧ b ≤ 2305843009213693952) (w : World) : Calls Try.prog 47 #[actAgg wh m n, .int .i64 b] w (NearP (nearM b m) w) := by
  obtain ⟨m0, m1, m2, m3⟩ := m
  unfold nearM
  simp only
  have r1 := tmod_rng (u64_nn m0) (n := 25) (by omega)
  have r2 := tmod_rng (u64_nn m2) (n := 12) (by omega)
  obtain ⟨u, hu⟩ : ∃ u, IntKind.u64.wrap m0 = u := ⟨_, rfl⟩
  obtain ⟨v, hv⟩ : ∃ v, IntKind.u64.wrap m2 = v := ⟨_, rfl⟩
  rw [hu] at r1 ⊢
  rw [hv] at r2 ⊢
  obtain ⟨t, ht⟩ : ∃ t, u.tmod 25 = t := ⟨_, rfl⟩
  obtain ⟨s, hs⟩ : ∃ s, v.tmod 12 = s := ⟨_, rfl⟩
  rw [ht] at r1 ⊢
  rw [hs] at r2 ⊢
  have w1 : IntKind.i64.wrap t = t := IntWalk.i64_in _ (by omega)
  have w2 : IntKind.i64.wrap (b + t) = b + t := IntWalk.i64_in _ (by omega)
  have w3 : IntKind.i64.wrap (b + t - 2) = b + t - 2 := IntWalk.i64_in _ (by omega)
  have w4 : IntKind.i64.wrap s = s := IntWalk.i64_in _ (by omega)
  have w5 : IntKind.i64.wrap (s - 1) = s - 1 := IntWalk.i64_in _ (by omega)
  show Calls Try.prog 47 #[.agg #[.int .u8 wh, .int .i64 m0, .int .i64 m1, .int .i64 m2, .int .u16 m3, .int .i64 n], .int .i64 b] w _
  go_enter Try.func47, Try.ntmps47
  go_wp2_with fail
  exact bodyPost_ret (v := .agg #[.int .i64 (b + t - 2), .int .i64 m1, .int .i64 (s - 1), .int .u16 m3]) (by simp [results, Try.results47, go_sem]) rfl ⟨rfl, gw_trans (gw_trans (gw_alloc1 _ _) (gw_alloc1 _ _)) (gw_alloc1 _ _)⟩
end Go.Proofs.Ytdaodpojcjbggaa.Rm
