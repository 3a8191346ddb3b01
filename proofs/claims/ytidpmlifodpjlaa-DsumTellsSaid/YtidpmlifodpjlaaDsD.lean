/- The document's bytes of a number (Laid), and what it sums (all, Of, Right). -/
import Derived.Test.YtidpmlifodpjlaaDsB
import Derived.OwnWalk
import Derived.Laws.AppendOwn
namespace Go.Proofs.Ytidpmlifodpjlaa.Sm
open Go.RowKit
set_option linter.unusedVariables false

theorem below_grown {base : Nat} {w w' : World} {v : Value} {e size n : Nat} {xs : List Value} {W : World} (h : w.grownBy w' v.ownBlock) (ho : W.ownsRow base e size v n xs) (hb : base ≤ w.heap.size) : Below base w w' :=
  ⟨h.os, h.tape, h.output, h.size, fun k hk => h.block k (by omega) (fun e => by
    rcases ho.2 with ⟨rfl, _⟩ | ⟨g, cap, cur, rfl, hg, _⟩
    · simp [Value.ownBlock] at e
    · simp [Value.ownBlock] at e; omega)⟩

/-- One byte more. -/
theorem app_byte {ops : Array Oper} {rest : List Oper} {o : Oper} {a : Act} {Q : Exit → Act → World → Prop} {w : World} (hgd : o.guard = none) (s x : Operand)
    (ho : o.op = .call { callee := .builtin .append, args := #[s, x], argTypes := #[38, 38] }) (base : Nat) (v : Value) (n : Nat) (xs : List Value) (hs : a.eval s = v) (hown : w.ownsRow base 5 1 v n xs)
    (b c : Nat) (u : Int) (hx : a.eval x = .slice (some ⟨b, 0, none⟩) 1 c) (hc : w.cell? ⟨b, 0, none⟩ = some (.int .u8 u)) (hn : n ≤ 1000000) (hbase : base ≤ w.heap.size)
    (h : ∀ v' w', w'.ownsRow base 5 1 v' (n + 1) (xs ++ [.int .u8 u]) → Below base w w' → wpList Try.prog ops Q rest (a.put o.dst v') w') : wpList Try.prog ops Q (o :: rest) a w := by
  obtain ⟨i, hi, hz, hsz, hb⟩ : ∃ i, Try.prog.info? 5 = some i ∧ i.zero = some (.int .u8 0) ∧ i.size = 1 ∧ i.bytes = 1 := ⟨_, rfl, rfl, rfl, rfl⟩
  refine wpList_append_own w hgd s x 38 ho base 5 i (.int .u8 0) 1 1 Try.underlying38 hi hz hsz hb rfl (by omega) v n xs hs hown ⟨b, 0, none⟩ 1 c [.int .u8 u] hx rfl (fun j y hj => ?_) (fun y hy => ?_) (by simp [maxLen]; omega) (by omega) hbase (fun v' w' h1 h2 h3 => h v' w' h1 (below_grown h2 hown hbase))
  · cases j with
    | zero => simp at hj; subst hj; exact hc
    | succ j => simp at hj
  · simp at hy; subst hy; rfl
theorem own_str {w : World} {base n : Nat} {v : Value} {xs : List Value} (h : w.ownsRow base 5 1 v n xs) (l : List UInt8) (hl : xs = l.map fun c => Value.int .u8 (c.toNat : Int)) : (convert 38 9 v).run Try.prog w = .ok (.string ⟨l.toArray⟩) w := by
  have hlen : l.length = n := by have := h.1; rw [hl] at this; simpa using this
  rcases h.2 with ⟨rfl, rfl⟩ | ⟨g, cap, cur, rfl, _⟩
  · obtain rfl : l = [] := List.eq_nil_of_length_eq_zero hlen
    rfl
  · have hc := h.cells (g := g) rfl
    have := run_convert_bytes_back (P := Try.prog) w 38 9 5 ⟨g, 0, none⟩ cap l Try.underlying38 Try.underlying5 Try.underlying9 (fun j hj => hc j _ (by rw [hl]; simp [hj]))
    rwa [hlen] at this

set_option maxRecDepth 100000 in
set_option maxHeartbeats 4000000 in
theorem laid2 (n : Int) (hn : 0 ≤ n ∧ n < 18446744073709551616) (w : World) :
    Calls Try.prog 37 #[.int .u64 n, .int .i64 2] w fun e w' => e = .returned (.string ⟨(be 2 n).toArray⟩) ∧ Gw w w' := by
  have h0 := World.ownsRow_nil w w.heap.size 5 1
  obtain ⟨B, hB⟩ : ∃ B, w.heap.size = B := ⟨_, rfl⟩
  have HB := Lib.hid hB
  have hs0 : B ≤ w.heap.size := by omega
  rw [hB] at h0
  clear hB
  go_enter Try.func37, Try.ntmps37
  go_wp2_with fail
  refine wp_loop_rounds 3 ?_
  iterate 2
    rw [rounds_succ]
    go_wp2_with (at_builtin; refine app_byte rfl (.tmp 13) (.tmp 20) rfl B _ _ _ rfl (World.ownsRow.alloc (by assumption) _) _ _ _ rfl (by (repeat (first | (with_reducible refine cell_new_at ?_; first | with_reducible rfl | (simp; done)) | with_reducible refine cell_alloc_l _ ?_ | with_reducible refine cell_drew ?_ | with_reducible refine cell_gw (by with_reducible assumption) ?_)); done) (by omega) (by rw [World.size_alloc]; omega) ?_; intro v1 w1 hh1 bb1; have hs1 := Nat.le_trans (show B ≤ (World.alloc _ _).heap.size by rw [World.size_alloc]; omega) bb1.size)
  rw [rounds_succ]
  go_wp2_with fail
  have hcv := own_str hh1 (be 2 n) (by simp [be, byt_toNat] <;> omega)
  rw [hcv]
  go_wp2_with fail
  go_ret
  refine ⟨rfl, ?_⟩
  unfold Gw; rw [HB.out]
  repeat (first | exact Below.refl _ _ | with_reducible refine Below.trans ?_ (by with_reducible assumption) | (refine Below.alloc ?_ (by with_reducible assumption) _))
set_option maxRecDepth 100000 in
set_option maxHeartbeats 4000000 in
theorem laid4 (n : Int) (hn : 0 ≤ n ∧ n < 18446744073709551616) (w : World) :
    Calls Try.prog 37 #[.int .u64 n, .int .i64 4] w fun e w' => e = .returned (.string ⟨(be 4 n).toArray⟩) ∧ Gw w w' := by
  have h0 := World.ownsRow_nil w w.heap.size 5 1
  obtain ⟨B, hB⟩ : ∃ B, w.heap.size = B := ⟨_, rfl⟩
  have HB := Lib.hid hB
  have hs0 : B ≤ w.heap.size := by omega
  rw [hB] at h0
  clear hB
  go_enter Try.func37, Try.ntmps37
  go_wp2_with fail
  refine wp_loop_rounds 5 ?_
  iterate 4
    rw [rounds_succ]
    go_wp2_with (at_builtin; refine app_byte rfl (.tmp 13) (.tmp 20) rfl B _ _ _ rfl (World.ownsRow.alloc (by assumption) _) _ _ _ rfl (by (repeat (first | (with_reducible refine cell_new_at ?_; first | with_reducible rfl | (simp; done)) | with_reducible refine cell_alloc_l _ ?_ | with_reducible refine cell_drew ?_ | with_reducible refine cell_gw (by with_reducible assumption) ?_)); done) (by omega) (by rw [World.size_alloc]; omega) ?_; intro v1 w1 hh1 bb1; have hs1 := Nat.le_trans (show B ≤ (World.alloc _ _).heap.size by rw [World.size_alloc]; omega) bb1.size)
  rw [rounds_succ]
  go_wp2_with fail
  have hcv := own_str hh1 (be 4 n) (by simp [be, byt_toNat] <;> omega)
  rw [hcv]
  go_wp2_with fail
  go_ret
  refine ⟨rfl, ?_⟩
  unfold Gw; rw [HB.out]
  repeat (first | exact Below.refl _ _ | with_reducible refine Below.trans ?_ (by with_reducible assumption) | (refine Below.alloc ?_ (by with_reducible assumption) _))
set_option maxRecDepth 100000 in
set_option maxHeartbeats 4000000 in
theorem laid8 (n : Int) (hn : 0 ≤ n ∧ n < 18446744073709551616) (w : World) :
    Calls Try.prog 37 #[.int .u64 n, .int .i64 8] w fun e w' => e = .returned (.string ⟨(be 8 n).toArray⟩) ∧ Gw w w' := by
  have h0 := World.ownsRow_nil w w.heap.size 5 1
  obtain ⟨B, hB⟩ : ∃ B, w.heap.size = B := ⟨_, rfl⟩
  have HB := Lib.hid hB
  have hs0 : B ≤ w.heap.size := by omega
  rw [hB] at h0
  clear hB
  go_enter Try.func37, Try.ntmps37
  go_wp2_with fail
  refine wp_loop_rounds 9 ?_
  iterate 8
    rw [rounds_succ]
    go_wp2_with (at_builtin; refine app_byte rfl (.tmp 13) (.tmp 20) rfl B _ _ _ rfl (World.ownsRow.alloc (by assumption) _) _ _ _ rfl (by (repeat (first | (with_reducible refine cell_new_at ?_; first | with_reducible rfl | (simp; done)) | with_reducible refine cell_alloc_l _ ?_ | with_reducible refine cell_drew ?_ | with_reducible refine cell_gw (by with_reducible assumption) ?_)); done) (by omega) (by rw [World.size_alloc]; omega) ?_; intro v1 w1 hh1 bb1; have hs1 := Nat.le_trans (show B ≤ (World.alloc _ _).heap.size by rw [World.size_alloc]; omega) bb1.size)
  rw [rounds_succ]
  go_wp2_with fail
  have hcv := own_str hh1 (be 8 n) (by simp [be, byt_toNat] <;> omega)
  rw [hcv]
  go_wp2_with fail
  go_ret
  refine ⟨rfl, ?_⟩
  unfold Gw; rw [HB.out]
  repeat (first | exact Below.refl _ _ | with_reducible refine Below.trans ?_ (by with_reducible assumption) | (refine Below.alloc ?_ (by with_reducible assumption) _))
end Go.Proofs.Ytidpmlifodpjlaa.Sm
