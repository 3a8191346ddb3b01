/- seg. -/
import Derived.Test.YtmjajepdlopkiaaShJ
namespace Go.Proofs.Ytmjajepdlopkiaa.Sh
open Go.RowKit
set_option linter.unusedVariables false
set_option linter.unusedSimpArgs false

/-- From where on. -/
def Pt.f (p : Pt) (n : Nat) : Nat := p.fr % (n + 1)
/-- Its bytes, as they are in the stream. -/
def Pt.raw (p : Pt) (l : List UInt8) : List UInt8 := (l.drop (p.f l.length)).take (min l.length (p.f l.length + p.lg % 40) - p.f l.length)
/-- Its bytes. -/
def Pt.data (p : Pt) (l : List UInt8) : List UInt8 := if (p.raw l).length = 0 then [] else (p.raw l).set (p.wh % (p.raw l).length) ((p.raw l).getD (p.wh % (p.raw l).length) 0 + UInt8.ofNat p.by')
abbrev segV (sq : Int) (data : ByteArray) : Value := segA (.int .i64 0) (.int .u16 0) (.int .u16 0) (.int .u32 0) (.bool false) (.bool false) (.bool false) (.int .u16 0) (.string ⟨#[]⟩) sq false data
theorem store12 {W : World} {Z e : Nat} {cur : Array Value} (h : W.heap[Z]? = some (.cells cur e (0, 0))) (hc : cur.size = 12) (vs : List Value) (hv : vs.length = 12) (j : Nat) (u : Value) (hu : vs[j]? = some u) : (W.setCells Z 0 vs).cell? ⟨Z, j, none⟩ = some u := by
  obtain ⟨cur', h1, h2, h3⟩ := heap_setCells_at vs 0 W cur h (by omega)
  rw [cell_of_row _ Z j cur' e (0, 0) h1]
  have hj : j < 12 := by have := (List.getElem?_eq_some_iff.1 hu).1; omega
  have : (cur'.toList.take (0 + vs.length))[j]? = some u := by rw [h3]; simpa using hu
  rw [List.getElem?_take_of_lt (by omega)] at this
  simpa using this
theorem cell12 {W : World} {Z e : Nat} {cur : Array Value} (h : W.heap[Z]? = some (.cells cur e (0, 0))) (j : Nat) (u : Value) (hu : cur[j]? = some u) : W.cell? ⟨Z, j, none⟩ = some u := by
  rw [cell_of_row _ Z j cur e (0, 0) h]; exact hu
theorem free12 {W : World} {Z e : Nat} {cur : Array Value} (h : W.heap[Z]? = some (.cells cur e (0, 0))) (j : Nat) : W.frozen? ⟨Z, j, none⟩ = false := by
  unfold World.frozen?; simp only [h]; simp
theorem gw_sets {w W : World} {Z : Nat} (h : Gw w W) (hZ : w.heap.size ≤ Z) (vs : List Value) : ∀ o, Gw w (W.setCells Z o vs) := by
  induction vs generalizing W with
  | nil => intro o; exact h
  | cons v r ih => intro o; exact ih (gw_set h ⟨Z, o, none⟩ hZ v) _
def SegP (isn : Int) (l : List UInt8) (p : Pt) (w : World) (e : Ending) (w' : World) : Prop := e = .returned (segV ((isn + 1 + p.f l.length) % 4294967296) (bs (p.data l))) ∧ Gw w w'
set_option maxRecDepth 100000 in
set_option maxHeartbeats 2000000 in
theorem seg_ (p : Pt) (hp : p.Ok) (isn : Int) (hi : 0 ≤ isn ∧ isn < 4294967296) (s : ByteArray) (hs : s.size ≤ 1000) (w : World) :
    Calls Try.prog 31 #[.agg #[.int .u16 p.fr, .int .u16 p.lg, .int .u8 p.wh, .int .u8 p.by'], .int .u32 isn, .string s] w (SegP isn s.data.toList p w) := by
  obtain ⟨fr, lg, wh, bb⟩ := p
  obtain ⟨h1, h2, h3, h4⟩ := hp
  simp only at h1 h2 h3 h4 ⊢
  obtain ⟨f, hf⟩ : ∃ f : Nat, (fr : Int) % ((s.size : Int) + 1) = f := ⟨fr % (s.size + 1), rfl⟩
  obtain ⟨u, hu⟩ : ∃ u : Nat, (lg : Int) % 40 = u := ⟨lg % 40, by omega⟩
  have hfl : f ≤ s.size := by
    have := Int.emod_lt_of_pos (fr : Int) (b := (s.size : Int) + 1) (by omega); omega
  have hul : u < 40 := by omega
  have hfn : fr % (s.size + 1) = f := by
    have : ((fr % (s.size + 1) : Nat) : Int) = f := by rw [← hf]; rfl
    omega
  have hun : lg % 40 = u := by omega
  have hmn : ∃ e : Nat, (if (f : Int) + u < s.size then (f : Int) + u else s.size) = e ∧ f ≤ e ∧ e ≤ s.size ∧ e = min s.size (f + u) := by
    by_cases h : (f : Int) + u < s.size
    · exact ⟨f + u, by rw [if_pos h]; rfl, by omega, by omega, by omega⟩
    · exact ⟨s.size, by rw [if_neg h], by omega, by omega, by omega⟩
  obtain ⟨e, he, he1, he2, he3⟩ := hmn
  have HFN := Lib.hid hfn
  have HUN := Lib.hid hun
  have HE3 := Lib.hid he3
  have z1 : (f : Int) ≤ e := by omega
  have z2 : (e : Int) ≤ s.size := by omega
  clear hfn hun he3
  go_enter Try.func31, Try.ntmps31
  have hsz : (s.extract f e).size = e - f := by rw [ByteArray.size_extract]; omega
  have hraw : (s.extract f e).data.toList = Pt.raw ⟨fr, lg, wh, bb⟩ s.data.toList := by
    have hl : s.data.toList.length = s.size := Array.length_toList
    unfold Pt.raw Pt.f
    rw [hl]
    simp only [HFN.out, HUN.out, ← HE3.out]
    simp [ByteArray.data_extract]
  have HSZ := Lib.hid hsz
  have HRAW := Lib.hid hraw
  clear hsz hraw
  go_wp2_with fail
  obtain ⟨W, hW⟩ : ∃ W, (w.alloc (.cells #[.int .u16 fr, .int .u16 lg, .int .u8 wh, .int .u8 bb] 50)).alloc (.cells #[.int .i64 0, .int .u16 0, .int .u16 0, .int .u32 0, .int .u32 0, .bool false, .bool false, .bool false, .bool false, .int .u16 0, .string ⟨#[]⟩, .string ⟨#[]⟩] 48) = W := ⟨_, rfl⟩
  rw [hW]
  have hg : Gw w W := by rw [← hW]; exact gw_trans (gw_alloc1 _ _) (gw_alloc1 _ _)
  have d2 : W.cell? ⟨w.heap.size, 2, none⟩ = some (.int .u8 wh) := by rw [← hW]; refine cell_alloc_old _ ?_; rw [World.cell?_alloc_new]; rfl
  have d3 : W.cell? ⟨w.heap.size, 3, none⟩ = some (.int .u8 bb) := by rw [← hW]; refine cell_alloc_old _ ?_; rw [World.cell?_alloc_new]; rfl
  have hZ : W.heap[w.heap.size + 1]? = some (.cells #[.int .i64 0, .int .u16 0, .int .u16 0, .int .u32 0, .int .u32 0, .bool false, .bool false, .bool false, .bool false, .int .u16 0, .string ⟨#[]⟩, .string ⟨#[]⟩] 48) := by
    rw [← hW, ← World.size_alloc w (.cells #[.int .u16 fr, .int .u16 lg, .int .u8 wh, .int .u8 bb] 50)]; exact heap_alloc_new _ _
  clear hW
  rw [run_bytes_of_string W 9 53 5 (s.extract f e) Try.underlying9 Try.underlying53 Try.underlying5]
  have hbuf := buf_new W (s.extract f e) (grownCap W (s.extract f e).size 0 5)
  rw [HRAW.out] at hbuf
  rw [HSZ.out] at hbuf ⊢
  have hgc : Gw W (W.drew.alloc (.cells (bytesRow (s.extract f e) (grownCap W (e - f) 0 5)) 5 ((bytesRow (s.extract f e) (grownCap W (e - f) 0 5)).size, (bytesRow (s.extract f e) (grownCap W (e - f) 0 5)).size + 1))) := ((Fr.refl _ W).drew).alloc _
  obtain ⟨B, hB⟩ : ∃ B, W.heap.size = B := ⟨_, rfl⟩
  have hBZ : w.heap.size + 1 < B := by rw [← hB]; exact (Array.getElem?_eq_some_iff.1 hZ).1
  rw [hB] at hbuf ⊢
  have d2 := cell_gw hgc d2
  have d3 := cell_gw hgc d3
  have hZ := (hgc.block _ (by rw [hB]; exact hBZ) (fun h => h)).trans hZ
  have hg := gw_trans hg hgc
  generalize W.drew.alloc (.cells (bytesRow (s.extract f e) (grownCap W (e - f) 0 5)) 5 ((bytesRow (s.extract f e) (grownCap W (e - f) 0 5)).size, (bytesRow (s.extract f e) (grownCap W (e - f) 0 5)).size + 1)) = W1 at *
  generalize grownCap W (e - f) 0 5 = cap
  have hlen : (Pt.raw ⟨fr, lg, wh, bb⟩ s.data.toList).length = e - f := by rw [← HRAW.out, ← HSZ.out]; exact Array.length_toList
  have hdat : Pt.data ⟨fr, lg, wh, bb⟩ s.data.toList = if (Pt.raw ⟨fr, lg, wh, bb⟩ s.data.toList).length = 0 then [] else (Pt.raw ⟨fr, lg, wh, bb⟩ s.data.toList).set (wh % (Pt.raw ⟨fr, lg, wh, bb⟩ s.data.toList).length) ((Pt.raw ⟨fr, lg, wh, bb⟩ s.data.toList).getD (wh % (Pt.raw ⟨fr, lg, wh, bb⟩ s.data.toList).length) 0 + UInt8.ofNat bb) := rfl
  have hfd : Pt.f ⟨fr, lg, wh, bb⟩ s.data.toList.length = f := by unfold Pt.f; rw [Array.length_toList]; exact HFN.out
  have HSP : Hid (SegP isn s.data.toList ⟨fr, lg, wh, bb⟩ w = fun e w' => e = .returned (segV ((isn + 1 + f) % 4294967296) (bs (Pt.data ⟨fr, lg, wh, bb⟩ s.data.toList))) ∧ Gw w w') := Lib.hid (by unfold SegP; rw [hfd])
  clear hfd HRAW HSZ HE3 HFN HUN
  generalize Pt.raw ⟨fr, lg, wh, bb⟩ s.data.toList = l at *
  generalize Pt.data ⟨fr, lg, wh, bb⟩ s.data.toList = l' at *
  obtain ⟨N, hN⟩ : ∃ N, e - f = N := ⟨_, rfl⟩
  have hN4 : N ≤ 1000 := by omega
  rw [hN] at hlen ⊢
  have HBUF := Lib.hid hbuf
  have HG := Lib.hid hg
  have HZ := Lib.hid hZ
  have HD := Lib.hid hdat
  have HBZ := Lib.hid hBZ
  have HL := Lib.hid hlen
  clear hbuf hg hZ hdat hN he hB hgc hBZ hlen
  by_cases hN0 : N = 0
  · subst hN0
    have hl' : l' = [] := by rw [HD.out, HL.out]; rfl
    have hl0 : l = [] := List.eq_nil_of_length_eq_zero HL.out
    subst hl' hl0
    have hfz := free12 HZ.out
    have k0 := cell12 HZ.out 0 _ rfl
    have k1 := cell12 HZ.out 1 _ rfl
    have k2 := cell12 HZ.out 2 _ rfl
    have k3 := cell12 HZ.out 3 _ rfl
    have k4 := cell12 HZ.out 4 _ rfl
    have k5 := cell12 HZ.out 5 _ rfl
    have k6 := cell12 HZ.out 6 _ rfl
    have k7 := cell12 HZ.out 7 _ rfl
    have k8 := cell12 HZ.out 8 _ rfl
    have k9 := cell12 HZ.out 9 _ rfl
    have k10 := cell12 HZ.out 10 _ rfl
    have k11 := cell12 HZ.out 11 _ rfl
    have hcv := buf_str HBUF.out (n := 0) rfl cap
    have r0 := store12 HZ.out rfl [.int .i64 0, .int .u16 0, .int .u16 0, .int .u32 ((isn + 1 + f) % 4294967296), .int .u32 0, .bool false, .bool false, .bool false, .bool false, .int .u16 0, .string ⟨#[]⟩, .string (bs [])] rfl 0 _ rfl
    have r1 := store12 HZ.out rfl [.int .i64 0, .int .u16 0, .int .u16 0, .int .u32 ((isn + 1 + f) % 4294967296), .int .u32 0, .bool false, .bool false, .bool false, .bool false, .int .u16 0, .string ⟨#[]⟩, .string (bs [])] rfl 1 _ rfl
    have r2 := store12 HZ.out rfl [.int .i64 0, .int .u16 0, .int .u16 0, .int .u32 ((isn + 1 + f) % 4294967296), .int .u32 0, .bool false, .bool false, .bool false, .bool false, .int .u16 0, .string ⟨#[]⟩, .string (bs [])] rfl 2 _ rfl
    have r3 := store12 HZ.out rfl [.int .i64 0, .int .u16 0, .int .u16 0, .int .u32 ((isn + 1 + f) % 4294967296), .int .u32 0, .bool false, .bool false, .bool false, .bool false, .int .u16 0, .string ⟨#[]⟩, .string (bs [])] rfl 3 _ rfl
    have r4 := store12 HZ.out rfl [.int .i64 0, .int .u16 0, .int .u16 0, .int .u32 ((isn + 1 + f) % 4294967296), .int .u32 0, .bool false, .bool false, .bool false, .bool false, .int .u16 0, .string ⟨#[]⟩, .string (bs [])] rfl 4 _ rfl
    have r5 := store12 HZ.out rfl [.int .i64 0, .int .u16 0, .int .u16 0, .int .u32 ((isn + 1 + f) % 4294967296), .int .u32 0, .bool false, .bool false, .bool false, .bool false, .int .u16 0, .string ⟨#[]⟩, .string (bs [])] rfl 5 _ rfl
    have r6 := store12 HZ.out rfl [.int .i64 0, .int .u16 0, .int .u16 0, .int .u32 ((isn + 1 + f) % 4294967296), .int .u32 0, .bool false, .bool false, .bool false, .bool false, .int .u16 0, .string ⟨#[]⟩, .string (bs [])] rfl 6 _ rfl
    have r7 := store12 HZ.out rfl [.int .i64 0, .int .u16 0, .int .u16 0, .int .u32 ((isn + 1 + f) % 4294967296), .int .u32 0, .bool false, .bool false, .bool false, .bool false, .int .u16 0, .string ⟨#[]⟩, .string (bs [])] rfl 7 _ rfl
    have r8 := store12 HZ.out rfl [.int .i64 0, .int .u16 0, .int .u16 0, .int .u32 ((isn + 1 + f) % 4294967296), .int .u32 0, .bool false, .bool false, .bool false, .bool false, .int .u16 0, .string ⟨#[]⟩, .string (bs [])] rfl 8 _ rfl
    have r9 := store12 HZ.out rfl [.int .i64 0, .int .u16 0, .int .u16 0, .int .u32 ((isn + 1 + f) % 4294967296), .int .u32 0, .bool false, .bool false, .bool false, .bool false, .int .u16 0, .string ⟨#[]⟩, .string (bs [])] rfl 9 _ rfl
    have r10 := store12 HZ.out rfl [.int .i64 0, .int .u16 0, .int .u16 0, .int .u32 ((isn + 1 + f) % 4294967296), .int .u32 0, .bool false, .bool false, .bool false, .bool false, .int .u16 0, .string ⟨#[]⟩, .string (bs [])] rfl 10 _ rfl
    have r11 := store12 HZ.out rfl [.int .i64 0, .int .u16 0, .int .u16 0, .int .u32 ((isn + 1 + f) % 4294967296), .int .u32 0, .bool false, .bool false, .bool false, .bool false, .int .u16 0, .string ⟨#[]⟩, .string (bs [])] rfl 11 _ rfl
    have R0 := Lib.hid r0
    have R1 := Lib.hid r1
    have R2 := Lib.hid r2
    have R3 := Lib.hid r3
    have R4 := Lib.hid r4
    have R5 := Lib.hid r5
    have R6 := Lib.hid r6
    have R7 := Lib.hid r7
    have R8 := Lib.hid r8
    have R9 := Lib.hid r9
    have R10 := Lib.hid r10
    have R11 := Lib.hid r11
    clear r0 r1 r2 r3 r4 r5 r6 r7 r8 r9 r10 r11
    go_wp2_with fail
    have r0 := R0.out
    have r1 := R1.out
    have r2 := R2.out
    have r3 := R3.out
    have r4 := R4.out
    have r5 := R5.out
    have r6 := R6.out
    have r7 := R7.out
    have r8 := R8.out
    have r9 := R9.out
    have r10 := R10.out
    have r11 := R11.out
    exact bodyPost_ret (v := segV ((isn + 1 + f) % 4294967296) (bs [])) (by simp only [World.setCells] at r0 r1 r2 r3 r4 r5 r6 r7 r8 r9 r10 r11; simp [results, Try.results31, go_sem, r0, r1, r2, r3, r4, r5, r6, r7, r8, r9, r10, r11]) rfl (by rw [HSP.out]; exact ⟨rfl, gw_sets HG.out (by omega) [.int .i64 0, .int .u16 0, .int .u16 0, .int .u32 ((isn + 1 + f) % 4294967296), .int .u32 0, .bool false, .bool false, .bool false, .bool false, .int .u16 0, .string ⟨#[]⟩, .string (bs [])] 0⟩)
  · obtain ⟨k, hk⟩ : ∃ k : Nat, (wh : Int) % (N : Int) = k := ⟨wh % N, rfl⟩
    have hkn : wh % N = k := by
      have : ((wh % N : Nat) : Int) = k := by rw [← hk]; rfl
      omega
    have hkN : k < N := by rw [← hkn]; exact Nat.mod_lt _ (by omega)
    have hkt : Int.tmod (wh : Int) (N : Int) = k := by rw [Int.tmod_eq_emod_of_nonneg (by omega)]; exact hk
    have hkl : k < l.length := by rw [HL.out]; exact hkN
    have e5 := (HBUF.out.2 k hkl).1
    have f5 := (HBUF.out.2 k hkl).2
    have hset := Buf.set HBUF.out hkl (l[k] + UInt8.ofNat bb)
    have hl' : l' = l.set k (l[k] + UInt8.ofNat bb) := by
      rw [HD.out, HL.out, hkn, if_neg hN0, List.getD_eq_getElem?_getD, List.getElem?_eq_getElem hkl]; rfl
    have hv : IntKind.u8.wrap ((l[k].toNat : Int) + bb) = ((l[k] + UInt8.ofNat bb).toNat : Int) := by
      rw [IntKind.wrap_u8', UInt8.toNat_add]
      simp
    rw [← hl'] at hset
    have z5 : (0 : Int) < N := by omega
    have z6 : (k : Int) < N := by omega
    have hw1 : IntKind.i64.wrap (wh : Int) = wh := IntWalk.i64_in _ (by omega)
    have HV := Lib.hid hv
    generalize (l[k] + UInt8.ofNat bb) = c' at *
    generalize (l[k].toNat : Int) = x at *
    have HSET := Lib.hid hset
    have HL' := Lib.hid hl'
    clear hset hl' hkn hkt
    go_upto_region 4 with fail
    go_region
    have hsz : (W1.setCell ⟨B, k, none⟩ (.int .u8 (c'.toNat : Int))).heap[w.heap.size + 1]? = W1.heap[w.heap.size + 1]? := Below.heap_setCell W1 ⟨B, k, none⟩ _ _ (by have := HBZ.out; show w.heap.size + 1 ≠ B; omega)
    have hz2 := hsz.trans HZ.out
    have hg2 := gw_set HG.out ⟨B, k, none⟩ (by have := HBZ.out; show w.heap.size ≤ B; omega) (.int .u8 (c'.toNat : Int))
    generalize W1.setCell ⟨B, k, none⟩ (.int .u8 (c'.toNat : Int)) = W2 at *
    have hz2 : W2.drew.heap[w.heap.size + 1]? = _ := hz2
    have hb2 : Buf W2.drew B l' := HSET.out.gw (gw_drew _)
    have hg2 : Gw w W2.drew := hg2.drew
    generalize W2.drew = W3 at *
    have HZ3 := Lib.hid hz2
    have HB3 := Lib.hid hb2
    have HG3 := Lib.hid hg2
    clear hsz hz2 hb2 hg2 HZ HBUF HG HSET d2 d3 e5 f5
    have hfz := free12 HZ3.out
    have k0 := cell12 HZ3.out 0 _ rfl
    have k1 := cell12 HZ3.out 1 _ rfl
    have k2 := cell12 HZ3.out 2 _ rfl
    have k3 := cell12 HZ3.out 3 _ rfl
    have k4 := cell12 HZ3.out 4 _ rfl
    have k5 := cell12 HZ3.out 5 _ rfl
    have k6 := cell12 HZ3.out 6 _ rfl
    have k7 := cell12 HZ3.out 7 _ rfl
    have k8 := cell12 HZ3.out 8 _ rfl
    have k9 := cell12 HZ3.out 9 _ rfl
    have k10 := cell12 HZ3.out 10 _ rfl
    have k11 := cell12 HZ3.out 11 _ rfl
    have hcv := buf_str HB3.out (n := N) (by rw [HL'.out, List.length_set]; exact HL.out) cap
    have r0 := store12 HZ3.out rfl [.int .i64 0, .int .u16 0, .int .u16 0, .int .u32 ((isn + 1 + f) % 4294967296), .int .u32 0, .bool false, .bool false, .bool false, .bool false, .int .u16 0, .string ⟨#[]⟩, .string (bs l')] rfl 0 _ rfl
    have r1 := store12 HZ3.out rfl [.int .i64 0, .int .u16 0, .int .u16 0, .int .u32 ((isn + 1 + f) % 4294967296), .int .u32 0, .bool false, .bool false, .bool false, .bool false, .int .u16 0, .string ⟨#[]⟩, .string (bs l')] rfl 1 _ rfl
    have r2 := store12 HZ3.out rfl [.int .i64 0, .int .u16 0, .int .u16 0, .int .u32 ((isn + 1 + f) % 4294967296), .int .u32 0, .bool false, .bool false, .bool false, .bool false, .int .u16 0, .string ⟨#[]⟩, .string (bs l')] rfl 2 _ rfl
    have r3 := store12 HZ3.out rfl [.int .i64 0, .int .u16 0, .int .u16 0, .int .u32 ((isn + 1 + f) % 4294967296), .int .u32 0, .bool false, .bool false, .bool false, .bool false, .int .u16 0, .string ⟨#[]⟩, .string (bs l')] rfl 3 _ rfl
    have r4 := store12 HZ3.out rfl [.int .i64 0, .int .u16 0, .int .u16 0, .int .u32 ((isn + 1 + f) % 4294967296), .int .u32 0, .bool false, .bool false, .bool false, .bool false, .int .u16 0, .string ⟨#[]⟩, .string (bs l')] rfl 4 _ rfl
    have r5 := store12 HZ3.out rfl [.int .i64 0, .int .u16 0, .int .u16 0, .int .u32 ((isn + 1 + f) % 4294967296), .int .u32 0, .bool false, .bool false, .bool false, .bool false, .int .u16 0, .string ⟨#[]⟩, .string (bs l')] rfl 5 _ rfl
    have r6 := store12 HZ3.out rfl [.int .i64 0, .int .u16 0, .int .u16 0, .int .u32 ((isn + 1 + f) % 4294967296), .int .u32 0, .bool false, .bool false, .bool false, .bool false, .int .u16 0, .string ⟨#[]⟩, .string (bs l')] rfl 6 _ rfl
    have r7 := store12 HZ3.out rfl [.int .i64 0, .int .u16 0, .int .u16 0, .int .u32 ((isn + 1 + f) % 4294967296), .int .u32 0, .bool false, .bool false, .bool false, .bool false, .int .u16 0, .string ⟨#[]⟩, .string (bs l')] rfl 7 _ rfl
    have r8 := store12 HZ3.out rfl [.int .i64 0, .int .u16 0, .int .u16 0, .int .u32 ((isn + 1 + f) % 4294967296), .int .u32 0, .bool false, .bool false, .bool false, .bool false, .int .u16 0, .string ⟨#[]⟩, .string (bs l')] rfl 8 _ rfl
    have r9 := store12 HZ3.out rfl [.int .i64 0, .int .u16 0, .int .u16 0, .int .u32 ((isn + 1 + f) % 4294967296), .int .u32 0, .bool false, .bool false, .bool false, .bool false, .int .u16 0, .string ⟨#[]⟩, .string (bs l')] rfl 9 _ rfl
    have r10 := store12 HZ3.out rfl [.int .i64 0, .int .u16 0, .int .u16 0, .int .u32 ((isn + 1 + f) % 4294967296), .int .u32 0, .bool false, .bool false, .bool false, .bool false, .int .u16 0, .string ⟨#[]⟩, .string (bs l')] rfl 10 _ rfl
    have r11 := store12 HZ3.out rfl [.int .i64 0, .int .u16 0, .int .u16 0, .int .u32 ((isn + 1 + f) % 4294967296), .int .u32 0, .bool false, .bool false, .bool false, .bool false, .int .u16 0, .string ⟨#[]⟩, .string (bs l')] rfl 11 _ rfl
    have R0 := Lib.hid r0
    have R1 := Lib.hid r1
    have R2 := Lib.hid r2
    have R3 := Lib.hid r3
    have R4 := Lib.hid r4
    have R5 := Lib.hid r5
    have R6 := Lib.hid r6
    have R7 := Lib.hid r7
    have R8 := Lib.hid r8
    have R9 := Lib.hid r9
    have R10 := Lib.hid r10
    have R11 := Lib.hid r11
    clear r0 r1 r2 r3 r4 r5 r6 r7 r8 r9 r10 r11
    go_wp2_with fail
    have r0 := R0.out
    have r1 := R1.out
    have r2 := R2.out
    have r3 := R3.out
    have r4 := R4.out
    have r5 := R5.out
    have r6 := R6.out
    have r7 := R7.out
    have r8 := R8.out
    have r9 := R9.out
    have r10 := R10.out
    have r11 := R11.out
    exact bodyPost_ret (v := segV ((isn + 1 + f) % 4294967296) (bs l')) (by simp only [World.setCells] at r0 r1 r2 r3 r4 r5 r6 r7 r8 r9 r10 r11; simp [results, Try.results31, go_sem, r0, r1, r2, r3, r4, r5, r6, r7, r8, r9, r10, r11]) rfl (by rw [HSP.out]; exact ⟨rfl, gw_sets HG3.out (by omega) [.int .i64 0, .int .u16 0, .int .u16 0, .int .u32 ((isn + 1 + f) % 4294967296), .int .u32 0, .bool false, .bool false, .bool false, .bool false, .int .u16 0, .string ⟨#[]⟩, .string (bs l')] 0⟩)
end Go.Proofs.Ytmjajepdlopkiaa.Sh
