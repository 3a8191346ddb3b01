/- The walk of DsumByte: its cases joined. -/
import Derived.Test.YtidpmlifodpjlaaDsH0
import Derived.Test.YtidpmlifodpjlaaDsH1
import Derived.Test.YtidpmlifodpjlaaDsH2
import Derived.Test.YtidpmlifodpjlaaDsH3
import Derived.Test.YtidpmlifodpjlaaDsH4
import Derived.Test.YtidpmlifodpjlaaDsH5
import Derived.Test.YtidpmlifodpjlaaDsH6
import Derived.Test.YtidpmlifodpjlaaDsH7
namespace Go.Proofs.Ytidpmlifodpjlaa.Sm
theorem dsumByte (dsn ssn n p q : Int) (text : ByteArray) (hd : 0 ≤ dsn ∧ dsn < 18446744073709551616) (hs : 0 ≤ ssn ∧ ssn < 4294967296) (hn : 0 ≤ n ∧ n ≤ 65535) (hp : 0 ≤ p ∧ p ≤ 65535) (hq : 0 ≤ q ∧ q ≤ 65535) (hz : text.size ≤ 9223372036854775807) (w : World) :
    Calls Try.prog 11 #[.int .u64 dsn, .int .u32 ssn, .int .u16 n, .string text, .agg #[.int .u16 p, .int .u16 q]] w fun e w' => e = .returned (.bool true) ∧ Gw w w' := by
  have hcases : ∃ t : ByteArray, t.size ≤ 500 ∧ ((500 < (text.size : Int) ∧ text.extract 0 500 = t) ∨ (¬ 500 < (text.size : Int) ∧ t = text)) := by
    by_cases h : 500 < (text.size : Int)
    · exact ⟨_, by rw [ByteArray.size_extract]; omega, .inl ⟨h, rfl⟩⟩
    · exact ⟨_, by omega, .inr ⟨h, rfl⟩⟩
  obtain ⟨t, ht, hc⟩ := hcases
  have : p % 8 = 0 ∨ p % 8 = 1 ∨ p % 8 = 2 ∨ p % 8 = 3 ∨ p % 8 = 4 ∨ p % 8 = 5 ∨ p % 8 = 6 ∨ p % 8 = 7 := by omega
  rcases this with hj | hj | hj | hj | hj | hj | hj | hj
  · exact dsumByte0 dsn ssn n p q text t hc ht hd hs hn hp hq hj hz w
  · exact dsumByte1 dsn ssn n p q text t hc ht hd hs hn hp hq hj hz w
  · exact dsumByte2 dsn ssn n p q text t hc ht hd hs hn hp hq hj hz w
  · exact dsumByte3 dsn ssn n p q text t hc ht hd hs hn hp hq hj hz w
  · exact dsumByte4 dsn ssn n p q text t hc ht hd hs hn hp hq hj hz w
  · exact dsumByte5 dsn ssn n p q text t hc ht hd hs hn hp hq hj hz w
  · exact dsumByte6 dsn ssn n p q text t hc ht hd hs hn hp hq hj hz w
  · exact dsumByte7 dsn ssn n p q text t hc ht hd hs hn hp hq hj hz w
end Go.Proofs.Ytidpmlifodpjlaa.Sm
