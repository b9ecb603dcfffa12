/- DropMessage of the reference. -/
import Derived.Test.YtnngklclehffhaaGreatDoorKWPd
namespace Go.Proofs.YtnngklclehffhaaGreatDoor
open Go.RowKit
set_option maxHeartbeats 1000000
set_option maxRecDepth 100000
def slc3 (a : Option Addr) (l h m : Nat) : Value := .slice (if m = l then a else a.map (·.add (l * 3))) (h - l) (m - l)
theorem run_upto3 (a : Option Addr) (n k cap : Nat) (h : k ≤ cap) : ∀ w, (Instr.slice 29 (.slice a n cap) none (some (.int .i64 k)) none).run Tryz.prog w = .ok (.slice a k cap) w := fun w => by
  rw [run_slice_h (P := Tryz.prog) w 29 a n cap (by kernel_rfl) .i64 k (by omega) (by omega)]
  have e : (Go.sizeOf (Tryz.prog.elem 29)).run Tryz.prog w = .ok 3 w := by kernel_rfl
  rw [e]
  show Result.ok _ _ = _
  congr 1
  simp only [sliced, Int.toNat_natCast, Nat.sub_zero, Nat.zero_mul]
  cases a with
  | none => simp
  | some a => simp [Addr.add]
theorem run_from3 (a : Option Addr) (n k cap : Nat) (h : k ≤ n) : ∀ w, (Instr.slice 29 (.slice a n cap) (some (.int .i64 k)) none none).run Tryz.prog w = .ok (slc3 a k n cap) w := fun w => by
  rw [run_slice_l (P := Tryz.prog) w 29 a n cap (by kernel_rfl) .i64 k (by omega) (by omega)]
  have e : (Go.sizeOf (Tryz.prog.elem 29)).run Tryz.prog w = .ok 3 w := by kernel_rfl
  rw [e]
  rfl
theorem run_uptoAt3 (a : Option Addr) (n k cap : Nat) (h : k ≤ cap) : ∀ w, (Instr.sliceAt 29 (.slice a n cap) none (some (.int .i64 k)) none).run Tryz.prog w = .ok (.slice a k cap) w := fun w => by
  rw [run_sliceAt_slice (P := Tryz.prog) w 29 _ _ _ _ (by kernel_rfl)]
  exact run_upto3 a n k cap h w
theorem run_fromAt3 (a : Option Addr) (n k cap : Nat) (h : k ≤ n) : ∀ w, (Instr.sliceAt 29 (.slice a n cap) (some (.int .i64 k)) none none).run Tryz.prog w = .ok (slc3 a k n cap) w := fun w => by
  rw [run_sliceAt_slice (P := Tryz.prog) w 29 _ _ _ _ (by kernel_rfl)]
  exact run_from3 a n k cap h w
theorem PRd.drop {w : World} {ps : List Pnd} {es : List Pe} {b off n cap : Nat} (h : PRd w (.slice (some ⟨b, off, none⟩) n cap) ps es) (hc : n ≤ cap) (k : Nat) (hk : k ≤ ps.length) : PRd w (slc3 (some ⟨b, off, none⟩) k n cap) (ps.drop k) (es.drop k) := by
  have hl := h.len
  obtain ⟨h1, ⟨h2, p, c, e, h4⟩, h5⟩ := h
  cases e
  refine ⟨by rw [← h1, List.map_drop], ⟨by rw [pes_len], _, _, by rw [slc3, List.length_drop], ?_⟩, fun e he => h5 e (List.mem_of_mem_drop he)⟩
  by_cases h0 : (es.drop k).length = 0
  · exact .inl h0
  · rw [List.length_drop] at h0
    obtain ⟨b', off', e, h6⟩ := h4.resolve_left (by omega)
    cases e
    rw [if_neg (by omega)]
    refine .inr ⟨b, off + k * 3, by simp [Addr.add_lit], fun j hj => ?_⟩
    have e3 : (es.flatMap Pe.cs) = (es.take k).flatMap Pe.cs ++ (es.drop k).flatMap Pe.cs := by rw [← List.flatMap_append, List.take_append_drop]
    have e4 : ((es.take k).flatMap Pe.cs).length = k * 3 := by rw [pes_len, List.length_take]; omega
    have hj2 : k * 3 + j < (es.flatMap Pe.cs).length := by rw [e3, List.length_append, e4]; omega
    rw [Nat.add_assoc, h6 _ hj2]
    congr 1
    simp only [e3]
    rw [List.getElem_append_right (by omega)]
    simp only [e4, Nat.add_sub_cancel_left]
theorem pes_one {w : World} {v : Value} {es : List Pe} (h : PRe w v es) : ∀ u ∈ es.flatMap Pe.cs, u.oneCell' = true := by
  intro u hu
  obtain ⟨x, hx0, hx⟩ := List.mem_flatMap.1 hu
  have hi := h.2 x hx0
  simp only [Pe.cs, List.mem_cons, List.not_mem_nil, or_false] at hx
  rcases hx with rfl | rfl | rfl
  · rfl
  · obtain ⟨p, c, e, -⟩ := rd_block hi.1
    rw [e]; rfl
  · obtain ⟨p, c, e, -⟩ := rd_block hi.2
    rw [e]; rfl
theorem PRd.empty (w : World) (a : Option Addr) (c : Nat) : PRd w (.slice a 0 c) [] [] := ⟨rfl, Rd.nil _ _ _ _, fun _ h => by cases h⟩
theorem PRd.ersOwn {w : World} {B k : Nat} {v : Value} {ps : List Pnd} {ds : List Pe} (h1 : ds.map Pe.p = ps) (h2 : ∀ e ∈ ds, Rd w 1 e.u e.d.length (vStrs e.d) ∧ Rd w 1 e.v e.h.length (vBools e.h))
    (ho : w.ownsRow B 62 3 v ((ds.take k).length + (ds.drop (k + 1)).length) ((ds.take k).flatMap Pe.cs ++ (ds.drop (k + 1)).flatMap Pe.cs)) : PRd w v (ers ps k) (ers ds k) ∧ w.ownsRow B 62 3 v (ers ds k).length ((ers ds k).flatMap Pe.cs) := by
  have e1 : (ers ds k).length = (ds.take k).length + (ds.drop (k + 1)).length := by rw [ers, List.length_append]
  have e2 : (ers ds k).flatMap Pe.cs = (ds.take k).flatMap Pe.cs ++ (ds.drop (k + 1)).flatMap Pe.cs := by rw [ers, List.flatMap_append]
  rw [← e1, ← e2] at ho
  exact ⟨⟨by rw [ers_map, h1], Rd.own ho, fun e he => h2 e (ers_mem he)⟩, ho⟩
end Go.Proofs.YtnngklclehffhaaGreatDoor
