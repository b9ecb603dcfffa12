/- The number of a text, in plain words: where it is the text of a number that is not too great. -/
import Derived.Test.YtljknhocfjpolaaGreatDoorJ19
import Derived.Lib.AtoiTie
namespace Go.Proofs.YtljknhocfjpolaaGreatDoor
open Go.RowKit
set_option maxHeartbeats 400000
theorem digit_val {d : Nat} (h : d < 10) : Lib.digitVal (UInt8.ofNat (48 + d)) = some d := by
  have e : (UInt8.ofNat (48 + d)).toNat = 48 + d := UInt8.toNat_ofNat_of_lt' (by show _ < 256; omega)
  rw [Lib.digitVal, e, if_pos (by omega)]
  congr 1; omega
theorem decFrom_snoc (b : UInt8) : ∀ (l : List UInt8) (a : Nat), Lib.decFrom a (l ++ [b]) = (Lib.decFrom a l).bind fun m => (Lib.digitVal b).map fun d => m * 10 + d
  | [], a => by
    simp only [List.nil_append, Lib.decFrom, Option.bind_some]
    cases Lib.digitVal b <;> rfl
  | c :: l, a => by
    simp only [List.cons_append, Lib.decFrom]
    cases Lib.digitVal c with
    | none => rfl
    | some d => exact decFrom_snoc b l _
theorem decFrom_dig : ∀ n : Nat, Lib.decFrom 0 (Lib.decDigits n) = some n
  | n => by
    by_cases h : n < 10
    · rw [Lib.decDigits_one h]
      simp only [Lib.decFrom, digit_val h]
      congr 1; omega
    · rw [Lib.decDigits, dif_neg h, decFrom_snoc, decFrom_dig (n / 10), digit_val (by omega)]
      simp only [Option.bind_some, Option.map_some]
      congr 1; omega
termination_by n => n
decreasing_by omega
theorem dig_pos (n : Nat) : Lib.decDigits n ≠ [] := by
  rw [Lib.decDigits]
  split <;> simp
theorem dig_all (n k : Nat) (b : UInt8) (h : (Lib.decDigits n)[k]? = some b) : 48 ≤ b.toNat ∧ b.toNat ≤ 57 := by
  obtain ⟨d, hd⟩ := Lib.digit_of_decFrom _ _ _ (decFrom_dig n) k b h
  have := Lib.digitVal_eq hd
  omega
theorem dig_len {n : Nat} (h : n ≤ 999999) : (Lib.decDigits n).length ≤ 6 := decDigits_le 5 n (by omega)
theorem decNat_dig (n : Nat) : Lib.decNat (Lib.decDigits n) = some n := by
  rw [Lib.decNat, decFrom_dig]
  have := dig_pos n
  cases h : Lib.decDigits n with
  | nil => exact absurd h this
  | cons a b => rfl
theorem atoi_itoa {v : Int} (h1 : -999999 ≤ v) (h2 : v ≤ 999999) : Lib.atoiAll (Lib.itoa v) = .ok v := by
  have hl : (Lib.itoa v).length ≤ 18 := by
    rw [Lib.itoa]
    split
    · have := dig_len (n := v.natAbs) (by omega); rw [List.length_cons]; omega
    · have := dig_len (n := v.toNat) (by omega); omega
  rw [Lib.atoiAll_short _ hl]
  suffices h : Lib.atoi (Lib.itoa v) = some v by rw [h]; rfl
  rw [Lib.itoa]
  split
  · rw [Lib.atoi, if_pos (by decide), decNat_dig]
    simp only [Option.map_some]
    congr 1; omega
  · have hd := decNat_dig v.toNat
    have ha := dig_all v.toNat 0
    cases e : Lib.decDigits v.toNat with
    | nil => exact absurd e (dig_pos _)
    | cons c r =>
      rw [e] at hd ha
      have hc := ha c rfl
      have n1 : (c == 45) = false := by rw [beq_eq_false_iff_ne]; rintro rfl; simp at hc
      have n2 : (c == 43) = false := by rw [beq_eq_false_iff_ne]; rintro rfl; simp at hc
      rw [Lib.atoi, n1, n2, hd]
      simp only [Bool.false_eq_true, if_false, Option.map_some]
      congr 1; omega
/-- The number of a text. -/
def pI (s : ByteArray) : Option Int :=
  match Lib.atoiAll s.data.toList with
  | .ok v => if inB v (-999999) 999999 && decide (itoaS v = s) then some v else none
  | _ => none
theorem pI_iff {s : ByteArray} {v : Int} : pI s = some v ↔ (-999999 ≤ v ∧ v ≤ 999999) ∧ itoaS v = s := by
  constructor
  · intro h
    rw [pI] at h
    split at h
    · rename_i u hu
      split at h
      · rename_i hc
        rw [Bool.and_eq_true, decide_eq_true_eq] at hc
        cases h
        exact ⟨inB_iff.1 hc.1, hc.2⟩
      · cases h
    · cases h
  · rintro ⟨⟨h1, h2⟩, rfl⟩
    rw [pI, show (itoaS v).data.toList = Lib.itoa v by rw [itoaS], atoi_itoa h1 h2]
    dsimp only
    rw [if_pos (by rw [Bool.and_eq_true, decide_eq_true_eq]; exact ⟨inB_iff.2 ⟨h1, h2⟩, rfl⟩)]
theorem pI_itoa {v : Int} (h1 : -999999 ≤ v) (h2 : v ≤ 999999) : pI (itoaS v) = some v := pI_iff.2 ⟨⟨h1, h2⟩, rfl⟩
/-- Is a sign ahead, and what stands behind it? -/
def ngB (s : ByteArray) : Bool := decide (1 < s.size) && (s.data.toList.getD 0 0 == 45)
def bdL (s : ByteArray) : List UInt8 := if ngB s then s.data.toList.drop 1 else s.data.toList
theorem pI_form {s : ByteArray} {v : Int} (h : pI s = some v) : ngB s = decide (v < 0) ∧ bdL s = Lib.decDigits v.natAbs := by
  obtain ⟨hb, rfl⟩ := pI_iff.1 h
  have hd : (itoaS v).data.toList = Lib.itoa v := by rw [itoaS]
  have hsz : (itoaS v).size = (Lib.itoa v).length := by show (Lib.itoa v).toArray.size = _; simp
  have hn : ngB (itoaS v) = decide (v < 0) := by
    rw [ngB, hd, hsz, Lib.itoa]
    by_cases hv : v < 0
    · have := List.length_pos_iff.2 (dig_pos v.natAbs)
      rw [if_pos hv, List.length_cons]
      simp [hv]; omega
    · rw [if_neg hv]
      have ha := dig_all v.toNat 0
      cases e : Lib.decDigits v.toNat with
      | nil => exact absurd e (dig_pos _)
      | cons c r =>
        rw [e] at ha
        have hc := ha c rfl
        have n1 : (c == 45) = false := by rw [beq_eq_false_iff_ne]; rintro rfl; simp at hc
        simp [n1, hv]
  refine ⟨hn, ?_⟩
  rw [bdL, hn, hd, Lib.itoa]
  by_cases hv : v < 0
  · rw [if_pos (by simpa using hv), if_pos hv]; rfl
  · rw [if_neg (by simpa using hv), if_neg hv, show v.natAbs = v.toNat by omega]
/-- What the reference makes of what it has read. -/
theorem pI_of {s : ByteArray} {n : Nat} (hl : (bdL s).length ≤ 6) (hd : Lib.decFrom 0 (bdL s) = some n) (m : Int) (hm : m = if ngB s then -(n : Int) else n) : pI s = if itoaS m = s then some m else none := by
  have hlt := Lib.decFrom_lt _ _ _ hd
  have h6 : n < 1000000 := by
    have : 10 ^ (bdL s).length ≤ 10 ^ 6 := Nat.pow_le_pow_right (by omega) hl
    omega
  by_cases he : itoaS m = s
  · rw [if_pos he]
    exact pI_iff.2 ⟨by subst hm; split <;> omega, he⟩
  · rw [if_neg he]
    cases hp : pI s with
    | none => rfl
    | some v =>
      obtain ⟨h1, h2⟩ := pI_form hp
      rw [h2, decFrom_dig] at hd
      cases hd
      refine absurd (?_ : itoaS m = s) he
      have : m = v := by
        rw [hm, h1]
        by_cases hv : v < 0
        · rw [if_pos (by simpa using hv)]; omega
        · rw [if_neg (by simpa using hv)]; omega
      rw [this]
      exact (pI_iff.1 hp).2
theorem pI_bad {s : ByteArray} (h : ¬ (1 ≤ (bdL s).length ∧ (bdL s).length ≤ 6)) : pI s = none := by
  cases hp : pI s with
  | none => rfl
  | some v =>
    obtain ⟨h1, h2⟩ := pI_form hp
    have := (pI_iff.1 hp).1
    have h3 := dig_len (n := v.natAbs) (by omega)
    have h4 := List.length_pos_iff.2 (dig_pos v.natAbs)
    rw [h2] at h
    omega
theorem pI_nondigit {s : ByteArray} {k : Nat} {b : UInt8} (hb : (bdL s)[k]? = some b) (h : ¬ (48 ≤ b.toNat ∧ b.toNat ≤ 57)) : pI s = none := by
  cases hp : pI s with
  | none => rfl
  | some v =>
    obtain ⟨h1, h2⟩ := pI_form hp
    rw [h2] at hb
    exact absurd (dig_all _ _ _ hb) h
/-- The numbers of texts, where all of them have one. -/
def pIs : List ByteArray → Option (List Int)
  | [] => some []
  | s :: L => (pI s).bind fun v => (pIs L).map fun vs => v :: vs
theorem pIs_iff : ∀ {L : List ByteArray} {vs : List Int}, pIs L = some vs ↔ vs.map itoaS = L ∧ ∀ v ∈ vs, -999999 ≤ v ∧ v ≤ 999999
  | [], vs => by
    constructor
    · intro h; cases h; exact ⟨rfl, fun _ h => by cases h⟩
    · rintro ⟨h, -⟩
      rw [List.map_eq_nil_iff.1 h]; rfl
  | s :: L, vs => by
    rw [pIs]
    constructor
    · intro h
      obtain ⟨v, hv, h⟩ := Option.bind_eq_some_iff.1 h
      obtain ⟨us, hu, rfl⟩ := Option.map_eq_some_iff.1 h
      obtain ⟨h1, h2⟩ := pIs_iff.1 hu
      obtain ⟨h3, h4⟩ := pI_iff.1 hv
      exact ⟨by rw [List.map_cons, h4, h1], fun x hx => by
        rcases List.mem_cons.1 hx with rfl | hx
        · exact h3
        · exact h2 x hx⟩
    · rintro ⟨h, hb⟩
      cases vs with
      | nil => cases h
      | cons v us =>
        rw [List.map_cons] at h
        injection h with h1 h2
        rw [pI_iff.2 ⟨hb v (by simp), h1⟩, pIs_iff.2 ⟨h2, fun x hx => hb x (by simp [hx])⟩]
        rfl
theorem pIs_len {L : List ByteArray} {vs : List Int} (h : pIs L = some vs) : vs.length = L.length := by
  have := congrArg List.length (pIs_iff.1 h).1
  simpa using this
theorem pIs_snoc {L : List ByteArray} {vs : List Int} (h : pIs L = some vs) (s : ByteArray) : pIs (L ++ [s]) = (pI s).map fun v => vs ++ [v] := by
  obtain ⟨h1, h2⟩ := pIs_iff.1 h
  cases hp : pI s with
  | none =>
    simp only [Option.map_none]
    cases hq : pIs (L ++ [s]) with
    | none => rfl
    | some us =>
      obtain ⟨h3, h4⟩ := pIs_iff.1 hq
      obtain ⟨v, ys, hv⟩ : ∃ v ys, us = ys ++ [v] := by
        have : us ≠ [] := by rintro rfl; simp at h3
        exact ⟨_, _, (List.dropLast_concat_getLast this).symm⟩
      rw [hv, List.map_append, List.map_cons, List.map_nil] at h3
      have h5 := (List.append_inj' h3 rfl).2
      injection h5 with h5
      rw [pI_iff.2 ⟨h4 v (by rw [hv]; simp), h5⟩] at hp
      cases hp
  | some v =>
    obtain ⟨h3, h4⟩ := pI_iff.1 hp
    simp only [Option.map_some]
    refine pIs_iff.2 ⟨by rw [List.map_append, h1, List.map_cons, List.map_nil, h4], fun x hx => ?_⟩
    rcases List.mem_append.1 hx with h | h
    · exact h2 x h
    · rw [List.mem_singleton.1 h]; exact h3
theorem pIs_bad {L M : List ByteArray} {s : ByteArray} (h : pI s = none) : pIs (L ++ s :: M) = none := by
  induction L with
  | nil => rw [List.nil_append, pIs, h]; rfl
  | cons x L ih =>
    rw [List.cons_append, pIs, ih]
    cases pI x <;> rfl
end Go.Proofs.YtljknhocfjpolaaGreatDoor
