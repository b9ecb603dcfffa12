/- General words on bytes and strings. -/
import Derived.Test.YtljknhocfjpolaaDoorKit2
import Derived.Laws.BytesArg
import Derived.Lib.BufferRead
namespace Go.RowKit
def vBytes (l : List UInt8) : List Value := l.map (fun b => Value.int .u8 (b.toNat : Int))
theorem vBytes_len (l : List UInt8) : (vBytes l).length = l.length := by simp [vBytes]
/-- string(b) of a slice that reads as the bytes l. -/
theorem conv_rd {P : Program} {w : World} {src dst e : TypeId} {v : Value} {l : List UInt8} {n : Nat} (hs : P.underlying src = some (.slice e)) (he : P.underlying e = some (.int .u8)) (hd : P.underlying dst = some .string)
    (h : Rd w 1 v n (vBytes l)) : (convert src dst v).run P w = .ok (.string ⟨l.toArray⟩) w := by
  obtain ⟨h1, p, cap, rfl, h4⟩ := h
  obtain rfl : n = l.length := by rw [vBytes_len] at h1; omega
  rcases h4 with h0 | ⟨b, off, rfl, h6⟩
  · obtain rfl : l = [] := List.eq_nil_of_length_eq_zero h0
    cases p with
    | none => exact Lib.run_convert_nil_bytes w src dst e cap hs he hd
    | some a => exact run_convert_bytes_back w src dst e a cap [] hs he hd (fun j hj => by simp at hj)
  · refine run_convert_bytes_back w src dst e ⟨b, off, none⟩ cap l hs he hd (fun j hj => ?_)
    have := h6 j (by rw [vBytes_len]; exact hj)
    have hplain : (⟨b, off, none⟩ : Addr).add j = ⟨b, off + j, none⟩ := by unfold Addr.add; split <;> simp_all
    rw [hplain, this]
    simp [vBytes]
end Go.RowKit
