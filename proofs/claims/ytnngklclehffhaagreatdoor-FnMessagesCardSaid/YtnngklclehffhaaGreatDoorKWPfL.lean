/- The fragment of a text, in plain words. -/
import Derived.Test.YtnngklclehffhaaGreatDoorKWSpl
import Derived.Test.YtnngklclehffhaaGreatDoorKWRdN
import Derived.Test.YtnngklclehffhaaGreatDoorKWFra2
namespace Go.Proofs.YtnngklclehffhaaGreatDoor
open Go.RowKit
set_option maxHeartbeats 400000
theorem cut_hit {b : UInt8} {p : List UInt8} (r : List UInt8) (h : ∀ c ∈ p, c ≠ b) : Lib.cut (p ++ b :: r) [b] = (p, r, true) := by
  have hi : Lib.index (p ++ b :: r) [b] = p.length := by rw [Lib.index_one, indexB_hit r h]
  have hd : (p ++ b :: r).drop (p.length + 1) = r := by rw [← List.drop_drop, List.drop_left]; rfl
  rw [Lib.cut, if_pos (by rw [hi]; omega), hi, Int.toNat_natCast, List.take_left, List.length_singleton, hd]
theorem cut_miss {b : UInt8} {l : List UInt8} (h : ∀ c ∈ l, c ≠ b) : Lib.cut l [b] = (l, [], false) := by
  have hi : Lib.index l [b] = -1 := by rw [Lib.index_one, indexB_miss h]
  rw [Lib.cut, if_neg (by rw [hi]; omega)]
theorem itoa_le2 {v : Int} (h : 0 ≤ v ∧ v ≤ 99) : (itoaS v).size ≤ 2 := by
  have e : (itoaS v).size = (Lib.itoa v).length := by show (Lib.itoa v).toArray.size = _; simp
  rw [e, Lib.itoa, if_neg (by omega)]
  exact decDigits_le 1 _ (by omega)
theorem itoa_pos (v : Int) : 0 < (itoaS v).data.toList.length := by
  have := itoaS_pos v
  have e : (itoaS v).data.toList.length = (itoaS v).size := by simp
  omega
theorem itoa_clean {v : Int} (h : 0 ≤ v) (b : UInt8) (hb : b.toNat < 48 ∨ 57 < b.toNat) : ∀ c ∈ (itoaS v).data.toList, c ≠ b := by
  intro c hc
  rw [itoaS, Lib.itoa, if_neg (by omega)] at hc
  obtain ⟨k, hk, rfl⟩ := List.mem_iff_getElem.1 hc
  have := dig_all _ k _ (List.getElem?_eq_getElem hk)
  intro e
  have e2 := congrArg UInt8.toNat e
  omega
theorem itm_chars {m : Nat} {a : ByteArray} (h : itm m a = true) : ∀ c ∈ a.data.toList, c ≠ 58 := by
  simp only [itm, Bool.and_eq_true] at h
  intro c hc
  have h1 := h.1
  rw [lets_eq] at h1
  have := List.all_eq_true.1 h1 c hc
  simp only [isLet, Bool.and_eq_true, decide_eq_true_eq] at this
  rintro rfl
  simp at this
/-- The parts of a text before and behind a byte. -/
def ctN (s : ByteArray) (b : UInt8) : ByteArray := mkS (Lib.cut s.data.toList [b]).1
def ctR (s : ByteArray) (b : UInt8) : ByteArray := mkS (Lib.cut s.data.toList [b]).2.1
theorem ctN_size (s : ByteArray) (b : UInt8) : (ctN s b).size ≤ s.size := by
  have e : s.data.toList.length = s.size := by simp
  rw [ctN, mkS_size, Lib.cut]
  split
  · dsimp only; rw [List.length_take]; omega
  · dsimp only; omega
theorem ctR_size (s : ByteArray) (b : UInt8) : (ctR s b).size ≤ s.size := by
  have e : s.data.toList.length = s.size := by simp
  rw [ctR, mkS_size, Lib.cut]
  split
  · dsimp only; rw [List.length_drop]; omega
  · exact Nat.zero_le _
def fOf (vs : List Int) (d : ByteArray) : Fra := ⟨vs.getD 0 0, vs.getD 1 0, vs.getD 2 0, d⟩
def PFl (s : ByteArray) : List ByteArray := [ctN (ctN s 58) 46, ctN (ctR (ctN s 58) 46) 47, ctR (ctR (ctN s 58) 46) 47]
def PFi (s : ByteArray) : Option Fra := (pIs (PFl s)).bind fun vs => if ftT (fOf vs (ctR s 58)) = s then some (fOf vs (ctR s 58)) else none
/-- The reference's reading. -/
def PFdt (s : ByteArray) : List ByteArray := splS ((splS s 58).getD 0 ByteArray.empty) 46
def PFpt (s : ByteArray) : List ByteArray := splS ((PFdt s).getD 1 ByteArray.empty) 47
def PFd (s : ByteArray) : ByteArray := if (splS s 58).length = 2 then (splS s 58).getD 1 ByteArray.empty else ⟨#[]⟩
def PFn (s : ByteArray) : Option Int := pI ((PFdt s).getD 0 ByteArray.empty)
def PFp (s : ByteArray) : Option Int := pI ((PFpt s).getD 0 ByteArray.empty)
def PFq (s : ByteArray) : Option Int := pI ((PFpt s).getD 1 ByteArray.empty)
def PFf (s : ByteArray) : Fra := ⟨(PFn s).getD 0, (PFp s).getD 0, (PFq s).getD 0, PFd s⟩
def PFb (s : ByteArray) : Bool := decide (s.size ≤ 40) && (decide ((splS s 58).length ≤ 2) && decide ((PFdt s).length = 2))
def PFs (s : ByteArray) : Option Fra := if PFb s && (decide ((PFpt s).length = 2) && ((PFn s).isSome && ((PFp s).isSome && ((PFq s).isSome && (okF (PFf s) && decide (fraT (PFf s) = s)))))) then some (PFf s) else none
theorem fraH_data (x : Fra) : (fraH x).data.toList = (itoaS x.n).data.toList ++ 46 :: ((itoaS x.p).data.toList ++ 47 :: (itoaS x.q).data.toList) := by
  simp only [fraH, ByteArray.data_append, Array.toList_append, List.append_assoc]; rfl
theorem fraH_clean {x : Fra} (h : okF x = true) : ∀ c ∈ (fraH x).data.toList, c ≠ 58 := by
  obtain ⟨h1, h2, h3, -⟩ := okF_iff h
  intro c hc
  rw [fraH_data] at hc
  rcases List.mem_append.1 hc with hc | hc
  · exact itoa_clean (by omega) 58 (by decide) c hc
  · rcases List.mem_cons.1 hc with rfl | hc
    · decide
    · rcases List.mem_append.1 hc with hc | hc
      · exact itoa_clean (by omega) 58 (by decide) c hc
      · rcases List.mem_cons.1 hc with rfl | hc
        · decide
        · exact itoa_clean (by omega) 58 (by decide) c hc
theorem fraT_sides {x : Fra} (h : okF x = true) : ctN (fraT x) 58 = fraH x ∧ ctR (fraT x) 58 = x.d ∧ (splS (fraT x) 58 = [fraH x] ∧ x.d = ⟨#[]⟩ ∨ splS (fraT x) 58 = [fraH x, x.d]) := by
  have hc := fraH_clean h
  have hi := (okF_iff h).2.2.2
  cases he : x.d.data.toList.isEmpty
  · have hd : (fraT x).data.toList = (fraH x).data.toList ++ 58 :: x.d.data.toList := by
      rw [fra_n he, ByteArray.data_append, ByteArray.data_append, Array.toList_append, Array.toList_append, List.append_assoc]; rfl
    refine ⟨?_, ?_, .inr ?_⟩
    · rw [ctN, hd, cut_hit _ hc, mkS_of]
    · rw [ctR, hd, cut_hit _ hc, mkS_of]
    · rw [splS, hd, spl_hit _ hc, spl_end (itm_chars hi)]
      simp only [List.map_cons, List.map_nil, mkS_of]
  · have hn := ba_nil he
    have hd : (fraT x).data.toList = (fraH x).data.toList := by rw [fra_e he]
    refine ⟨?_, ?_, .inl ⟨?_, hn⟩⟩
    · rw [ctN, hd, cut_miss hc, mkS_of]
    · rw [ctR, hd, cut_miss hc, hn]; rfl
    · rw [splS, hd, spl_end hc]
      simp only [List.map_cons, List.map_nil, mkS_of]
theorem fraH_dots {x : Fra} (h : okF x = true) : ctN (fraH x) 46 = itoaS x.n ∧ ctN (ctR (fraH x) 46) 47 = itoaS x.p ∧ ctR (ctR (fraH x) 46) 47 = itoaS x.q ∧
    splS (fraH x) 46 = [itoaS x.n, mkS ((itoaS x.p).data.toList ++ 47 :: (itoaS x.q).data.toList)] ∧ splS (mkS ((itoaS x.p).data.toList ++ 47 :: (itoaS x.q).data.toList)) 47 = [itoaS x.p, itoaS x.q] := by
  obtain ⟨h1, h2, h3, -⟩ := okF_iff h
  have c1 := itoa_clean (v := x.n) (by omega) 46 (by decide)
  have c2 := itoa_clean (v := x.p) (by omega) 47 (by decide)
  have c3 := itoa_clean (v := x.p) (by omega) 46 (by decide)
  have c4 := itoa_clean (v := x.q) (by omega) 46 (by decide)
  have c5 := itoa_clean (v := x.q) (by omega) 47 (by decide)
  have c6 : ∀ c ∈ (itoaS x.p).data.toList ++ 47 :: (itoaS x.q).data.toList, c ≠ 46 := by
    intro c hc
    rcases List.mem_append.1 hc with hc | hc
    · exact c3 c hc
    · rcases List.mem_cons.1 hc with rfl | hc
      · decide
      · exact c4 c hc
  have e1 : ctR (fraH x) 46 = mkS ((itoaS x.p).data.toList ++ 47 :: (itoaS x.q).data.toList) := by rw [ctR, fraH_data, cut_hit _ c1]
  refine ⟨?_, ?_, ?_, ?_, ?_⟩
  · rw [ctN, fraH_data, cut_hit _ c1, mkS_of]
  · rw [e1, ctN, mkS_data, cut_hit _ c2, mkS_of]
  · rw [e1, ctR, mkS_data, cut_hit _ c2, mkS_of]
  · rw [splS, fraH_data, spl_hit _ c1, spl_end c6]
    simp only [List.map_cons, List.map_nil, mkS_of]
  · rw [splS, mkS_data, spl_hit _ c2, spl_end c5]
    simp only [List.map_cons, List.map_nil, mkS_of]
theorem fraT_size {x : Fra} (h : okF x = true) : (fraT x).size ≤ 40 := by
  obtain ⟨⟨n0, n1⟩, ⟨q0, q1⟩, ⟨p0, p1⟩, hi⟩ := okF_iff h
  have hd := itm_size hi
  have s2 := itoa_le2 (v := x.p) (by omega)
  have s3 := itoa_le2 (v := x.q) (by omega)
  have s4 := itoa_le2 (v := x.n) (by omega)
  have e1 : ∀ b : UInt8, (⟨#[b]⟩ : ByteArray).size = 1 := fun _ => rfl
  have hh : (fraH x).size ≤ 8 := by
    simp only [fraH, ByteArray.size_append, e1]; omega
  rw [fraT]
  split
  · omega
  · simp only [ByteArray.size_append, e1]; omega
theorem PFi_iff {s : ByteArray} {f : Fra} : PFi s = some f ↔ okF f = true ∧ fraT f = s := by
  constructor
  · intro h
    obtain ⟨vs, hp, h⟩ := Option.bind_eq_some_iff.1 h
    split at h
    · rename_i hk
      cases h
      cases e : okF (fOf vs (ctR s 58))
      · rw [ftT, e, if_neg (by decide)] at hk
        subst hk
        have := (pIs_iff.1 hp).1
        have h1 := congrArg (fun L => (L.getD 0 ByteArray.empty).size) this
        cases vs with
        | nil => cases this
        | cons v vs =>
          have h2 : (itoaS v).size = 0 := h1
          have := itoaS_pos v
          omega
      · rw [ftT, e, if_pos rfl] at hk
        exact ⟨rfl, hk⟩
    · cases h
  · rintro ⟨h, rfl⟩
    obtain ⟨a1, a2, -⟩ := fraT_sides h
    obtain ⟨b1, b2, b3, -⟩ := fraH_dots h
    obtain ⟨h1, h2, h3, -⟩ := okF_iff h
    have hp : pIs (PFl (fraT f)) = some [f.n, f.p, f.q] := by
      rw [PFl, a1, b1, b2, b3]
      exact pIs_iff.2 ⟨rfl, fun v hv => by
        simp only [List.mem_cons, List.not_mem_nil, or_false] at hv
        rcases hv with rfl | rfl | rfl <;> omega⟩
    rw [PFi, hp, Option.bind_some, a2]
    have e : fOf [f.n, f.p, f.q] f.d = f := rfl
    rw [e, ftT, h, if_pos rfl, if_pos rfl]
theorem PFs_iff {s : ByteArray} {f : Fra} : PFs s = some f ↔ okF f = true ∧ fraT f = s := by
  constructor
  · intro h
    rw [PFs] at h
    split at h
    · rename_i hk
      simp only [Bool.and_eq_true, decide_eq_true_eq] at hk
      cases h
      exact ⟨hk.2.2.2.2.2.1, hk.2.2.2.2.2.2⟩
    · cases h
  · rintro ⟨h, rfl⟩
    obtain ⟨-, -, a3⟩ := fraT_sides h
    obtain ⟨-, -, -, b4, b5⟩ := fraH_dots h
    obtain ⟨h1, h2, h3, -⟩ := okF_iff h
    have g0 : (splS (fraT f) 58).getD 0 ByteArray.empty = fraH f ∧ (splS (fraT f) 58).length ≤ 2 ∧ PFd (fraT f) = f.d := by
      rcases a3 with ⟨a, b⟩ | a
      · rw [PFd, a, b]; exact ⟨rfl, Nat.le_of_ble_eq_true rfl, rfl⟩
      · rw [PFd, a]; exact ⟨rfl, Nat.le_of_ble_eq_true rfl, rfl⟩
    have g1 : PFdt (fraT f) = [itoaS f.n, mkS ((itoaS f.p).data.toList ++ 47 :: (itoaS f.q).data.toList)] := by rw [PFdt, g0.1, b4]
    have g2 : PFpt (fraT f) = [itoaS f.p, itoaS f.q] := by rw [PFpt, g1]; exact b5
    have n1 : PFn (fraT f) = some f.n := by rw [PFn, g1]; exact pI_itoa (by omega) (by omega)
    have n2 : PFp (fraT f) = some f.p := by rw [PFp, g2]; exact pI_itoa (by omega) (by omega)
    have n3 : PFq (fraT f) = some f.q := by rw [PFq, g2]; exact pI_itoa (by omega) (by omega)
    have hf : PFf (fraT f) = f := by rw [PFf, n1, n2, n3, g0.2.2]; rfl
    have hb : PFb (fraT f) = true := by
      rw [PFb, g1]
      simp only [Bool.and_eq_true, decide_eq_true_eq]
      exact ⟨fraT_size h, g0.2.1, rfl⟩
    rw [PFs, hf, hb, n1, n2, n3, g2, h]
    simp
theorem PF_same (s : ByteArray) : PFi s = PFs s := by
  cases h : PFs s with
  | none =>
    cases h2 : PFi s with
    | none => rfl
    | some x => rw [PFs_iff.2 (PFi_iff.1 h2)] at h; cases h
  | some x => exact PFi_iff.2 (PFs_iff.1 h)
end Go.Proofs.YtnngklclehffhaaGreatDoor
