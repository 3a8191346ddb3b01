/- What the printed functions of cut, plaitref03.Of and plaitref03.All compute: the parts cut short, their bytes, their sum. -/
import Derived.Test.YtidpmlifodpjlaaPSumTellsx1
import Derived.Test.YtidpmlifodpjlaaSumE
namespace Go.Proofs.Ytidpmlifodpjlaa.Sm
open Go.RowKit Go.Proofs.YtidpmlifodpjlaaW.PrintWords Go.Proofs.YtidpmlifodpjlaaW.PrintLast Go.Proofs.YtidpmlifodpjlaaW.PrintMore
open Go.Proofs.Ytidpmlifodpjlaa.PSumTells
set_option linter.unusedVariables false

def c200 (s : ByteArray) : ByteArray := s.extract 0 ((mn (s.size : Int) 200) : Int).toNat
theorem mn_size (s : ByteArray) : 0 ≤ mn (s.size : Int) 200 ∧ mn (s.size : Int) 200 ≤ (s.size : Int) ∧ mn (s.size : Int) 200 ≤ 200 := by unfold mn; split <;> omega
theorem c200_size (s : ByteArray) : (c200 s).size ≤ 200 := by
  have := mn_size s
  unfold c200; rw [ByteArray.size_extract]; omega
theorem wrap_one {i : Int} (h0 : 0 ≤ i) (h1 : i < 9223372036854775800) : wrap64 (i + 1) = i + 1 := by unfold wrap64; omega
theorem wrap_two {i : Int} (h0 : 0 ≤ i) (h1 : i < 9223372036854775800) : wrap64 (i + 2) = i + 2 := by unfold wrap64; omega
theorem rdOf_get {α : Type} (d : α) (l : List α) (i : Nat) (h : i < l.length) : rdOf d l (i : Int) = l[i] := by
  unfold rdOf; simp [h]
def cutp (l : List ByteArray) : List ByteArray := (l.take 20).map c200

theorem cut_l0 (l : List ByteArray) (d : Nat) : ∀ (k i : Nat) (x3 : List ByteArray), i ≤ (l.take 20).length → (l.take 20).length - i = d → d < k → x3.length ≤ i →
    plaitlaw03_cut.l0 k l x3 (i : Int) = some (x3 ++ ((l.take 20).drop i).map c200) := by
  induction d with
  | zero =>
    intro k i x3 h0 h1 hk hx
    obtain ⟨k, rfl⟩ : ∃ m, k = m + 1 := ⟨k - 1, by omega⟩
    have hl : (l.take 20).length = min 20 l.length := by simp
    rw [List.drop_of_length_le (by omega)]
    simp only [plaitlaw03_cut.l0, List.map_nil, List.append_nil]
    by_cases h : (i : Int) < l.length
    · rw [if_pos h, if_neg (by omega)]
    · rw [if_neg h]
  | succ d ih =>
    intro k i x3 h0 h1 hk hx
    obtain ⟨k, rfl⟩ : ∃ m, k = m + 1 := ⟨k - 1, by omega⟩
    have hl : (l.take 20).length = min 20 l.length := by simp
    have hi : i < l.length := by omega
    have hi2 : i < (l.take 20).length := by omega
    have hm := mn_size l[i]
    rw [List.drop_eq_getElem_cons hi2, List.map_cons]
    simp only [plaitlaw03_cut.l0]
    rw [if_pos (by omega), if_pos (by omega), if_pos (by omega), rdOf_get _ _ _ hi, if_pos hm.1, if_pos hm.2.1, if_pos (by omega), wrap_one (by omega) (by omega)]
    have := ih k (i + 1) (x3 ++ [c200 l[i]]) (by omega) (by omega) (by omega) (by simp; omega)
    have e : (l.take 20)[i] = l[i] := by simp
    rw [e, show (x3 ++ c200 l[i] :: ((l.take 20).drop (i + 1)).map c200) = (x3 ++ [c200 l[i]]) ++ ((l.take 20).drop (i + 1)).map c200 by simp]
    rw [show ((i + 1 : Nat) : Int) = (i : Int) + 1 by omega] at this
    exact this
theorem cut_f (l : List ByteArray) : plaitlaw03_cut.f 21 l = some (cutp l) := by
  have hl : (l.take 20).length = min 20 l.length := by simp
  have := cut_l0 l (l.take 20).length 21 0 [] (by omega) (by omega) (by omega) (by simp)
  rw [show ((0 : Nat) : Int) = 0 from rfl] at this
  unfold plaitlaw03_cut.f
  rw [this, List.drop_zero, List.nil_append]; rfl

def cat (l : List ByteArray) : ByteArray := ⟨(bytesOf l).toArray⟩
theorem all_l0 (l : List ByteArray) (hs : ∀ s ∈ l, s.size ≤ 1000) (hl : l.length ≤ 1000) (d : Nat) : ∀ (k i : Nat) (x3 : ByteArray), i ≤ l.length → l.length - i = d → d < k → x3.size ≤ 1000 * i → x3.data.toList = bytesOf (l.take i) →
    plaitref03_All.l0 k l x3 (i : Int) = some (cat l) := by
  induction d with
  | zero =>
    intro k i x3 h0 h1 hk hx he
    obtain ⟨k, rfl⟩ : ∃ m, k = m + 1 := ⟨k - 1, by omega⟩
    simp only [plaitref03_All.l0]
    rw [if_neg (by omega)]
    rw [List.take_of_length_le (by omega)] at he
    congr 1
    unfold cat; rw [← he]
  | succ d ih =>
    intro k i x3 h0 h1 hk hx he
    obtain ⟨k, rfl⟩ : ∃ m, k = m + 1 := ⟨k - 1, by omega⟩
    have hi : i < l.length := by omega
    have hsi := hs l[i] (List.getElem_mem hi)
    simp only [plaitref03_All.l0]
    rw [if_pos (by omega), if_pos (by omega), rdOf_get _ _ _ hi, if_pos (by omega), wrap_one (by omega) (by omega)]
    have := ih k (i + 1) (x3 ++ l[i]) (by omega) (by omega) (by omega) (by rw [ByteArray.size_append]; omega) (by
      rw [ByteArray.data_append, Array.toList_append, he, List.take_succ_eq_append_getElem hi]
      unfold bytesOf; rw [List.flatMap_append]; simp only [List.flatMap_cons, List.flatMap_nil, List.append_nil])
    rw [show ((i + 1 : Nat) : Int) = (i : Int) + 1 by omega] at this
    exact this
theorem all_f (l : List ByteArray) (hs : ∀ s ∈ l, s.size ≤ 1000) (hl : l.length ≤ 1000) : plaitref03_All.f (l.length + 1) l = some (cat l) := by
  have := all_l0 l hs hl l.length (l.length + 1) 0 ⟨#[]⟩ (by omega) (by omega) (by omega) (Nat.le_refl 0) (by rfl)
  rw [show ((0 : Nat) : Int) = 0 from rfl] at this
  unfold plaitref03_All.f
  exact this

theorem fold_f (n : Int) (h : 0 ≤ n ∧ n < 18446744073709551616) : plaitref03_Fold.f n = some (Fo n) := by
  unfold plaitref03_Fold.f Fo
  by_cases h0 : n = 0
  · rw [if_pos h0, if_pos h0]
  · rw [if_neg h0, if_neg h0]
    simp only [IntKind.wrap_u64, IntKind.wrap_u16]
    rw [Int.tmod_eq_emod_of_nonneg (by omega)]
    congr 1; omega
theorem bt_get (s : ByteArray) (i : Nat) (h : i < s.data.toList.length) : bt s (i : Int) = (s.data.toList[i].toNat : Int) := by
  have h' : i < s.size := by simpa using h
  unfold bt
  simp only [Int.toNat_natCast, h', dif_pos]; rfl
theorem of_l0 (s : ByteArray) (he : s.size % 2 = 0) (hz : s.size ≤ 9000000000000000000) (d : Nat) : ∀ (k i : Nat) (n : Int), i ≤ s.size → i % 2 = 0 → s.size - i = 2 * d → d < k → 0 ≤ n → n < 18446744073709551616 →
    plaitref03_Of.l0 k s n (i : Int) = some (Fo ((n + wsum (s.data.toList.drop i)) % 18446744073709551616)) := by
  induction d with
  | zero =>
    intro k i n h0 h1 h2 hk hn hn2
    obtain ⟨k, rfl⟩ : ∃ m, k = m + 1 := ⟨k - 1, by omega⟩
    simp only [plaitref03_Of.l0]
    rw [if_neg (by omega), fold_f n ⟨hn, hn2⟩, List.drop_of_length_le (by simp; omega)]
    simp only [Option.bind_some, wsum]
    congr 2; omega
  | succ d ih =>
    intro k i n h0 h1 h2 hk hn hn2
    obtain ⟨k, rfl⟩ : ∃ m, k = m + 1 := ⟨k - 1, by omega⟩
    have hi : i < s.data.toList.length := by simp; omega
    have hi1 : i + 1 < s.data.toList.length := by simp; omega
    simp only [plaitref03_Of.l0]
    rw [if_pos (by omega), if_pos (by omega), wrap_one (by omega) (by omega), if_pos (by omega), if_pos (by omega), wrap_two (by omega) (by omega)]
    have e1 := bt_get s i hi
    have e2 := bt_get s (i + 1) hi1
    rw [show ((i + 1 : Nat) : Int) = (i : Int) + 1 by omega] at e2
    rw [e1, e2]
    have b1 := (s.data.toList[i]).toNat_lt
    have b2 := (s.data.toList[i + 1]).toNat_lt
    have := ih k (i + 2) (IntKind.u64.wrap (IntKind.u64.wrap (n + IntKind.u64.wrap (256 * IntKind.u64.wrap (s.data.toList[i].toNat))) + IntKind.u64.wrap (s.data.toList[i + 1].toNat))) (by omega) (by omega) (by omega) (by omega)
      (by rw [IntKind.wrap_u64]; omega) (by rw [IntKind.wrap_u64]; omega)
    rw [show ((i + 2 : Nat) : Int) = (i : Int) + 2 by omega] at this
    rw [this, List.drop_eq_getElem_cons hi, List.drop_eq_getElem_cons hi1]
    simp only [wsum, IntKind.wrap_u64]
    rw [show i + 1 + 1 = i + 2 from rfl]
    congr 2; omega
theorem wsum_zero (l : List UInt8) (h : l.length % 2 = 1) : wsum (l ++ [0]) = wsum l := by
  match l, h with
  | [a], _ => simp [wsum]
  | [a, b], h => simp at h
  | a :: b :: c :: r, h => 
    have := wsum_zero (c :: r) (by simp at h ⊢; omega)
    simp only [List.cons_append, wsum] at this ⊢
    rw [this]
theorem of_f (s : ByteArray) (hz : s.size ≤ 8000000000000000000) : ∃ k, plaitref03_Of.f k s = some (Sm s.data.toList) := by
  by_cases h : (s.size : Int) % 2 = 1
  · have hs : (s ++ (⟨#[0]⟩ : ByteArray)).size = s.size + 1 := by rw [ByteArray.size_append]; rfl
    refine ⟨s.size + 3, ?_⟩
    unfold plaitref03_Of.f
    rw [if_pos h, if_pos (by omega)]
    simp only [plaitref03_Of.j0]
    have := of_l0 (s ++ (⟨#[0]⟩ : ByteArray)) (by omega) (by omega) ((s.size + 1) / 2) (s.size + 2) 0 0 (by omega) rfl (by omega) (by omega) (by omega) (by omega)
    rw [show (((0 : Nat) : Int)) = 0 from rfl] at this
    rw [this]
    unfold Sm
    rw [ByteArray.data_append, Array.toList_append, List.drop_zero, wsum_zero _ (by simp; omega)]
    simp
  · refine ⟨s.size + 3, ?_⟩
    unfold plaitref03_Of.f
    rw [if_neg h]
    simp only [plaitref03_Of.j0]
    have := of_l0 s (by omega) (by omega) (s.size / 2) (s.size + 2) 0 0 (by omega) rfl (by omega) (by omega) (by omega) (by omega)
    rw [show (((0 : Nat) : Int)) = 0 from rfl] at this
    rw [this]
    unfold Sm; simp
end Go.Proofs.Ytidpmlifodpjlaa.Sm
