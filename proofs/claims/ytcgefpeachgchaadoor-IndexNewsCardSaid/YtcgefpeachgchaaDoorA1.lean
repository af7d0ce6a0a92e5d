/- Names. -/
import Derived.Test.YtcgefpeachgchaaDoorProg
import Derived.WalkKit
import Derived.WalkSpells
import Derived.WalkLawsBesides
import Derived.Lib.Hide
import Derived.Lib.ConvBytes
namespace Go.Proofs.YtcgefpeachgchaaDoor
open Go Go.RowKit
def lowB (b : UInt8) : Bool := decide (97 ≤ b.toNat ∧ b.toNat ≤ 122)
def digB (b : UInt8) : Bool := decide (48 ≤ b.toNat ∧ b.toNat ≤ 57)
def inName (b : UInt8) : Bool := lowB b || digB b || (b.toNat == 95)
def nameB (l : List UInt8) : Bool := match l with
  | [] => false
  | c :: r => lowB c && r.all inName && decide (r.length ≤ 31)

theorem nameB_false_of_len {l : List UInt8} (h : l.length < 1 ∨ 32 < l.length) : nameB l = false := by
  cases l with
  | nil => rfl
  | cons c r => simp only [List.length_cons] at h; simp only [nameB]; have : ¬ r.length ≤ 31 := by omega
                simp [this]
def okTo (l : List UInt8) (k : Nat) : Prop := ∀ j, j < k → ∀ c, l[j]? = some c → inName c = true ∧ (j = 0 → lowB c = true)

theorem okTo_zero (l : List UInt8) : okTo l 0 := fun j hj => by omega
theorem okTo_succ {l : List UInt8} {k : Nat} {c : UInt8} (h : okTo l k) (hc : l[k]? = some c) (h1 : inName c = true) (h2 : k = 0 → lowB c = true) : okTo l (k + 1) := by
  intro j hj d hd
  by_cases e : j = k
  · subst e; rw [hc] at hd; injection hd with hd; subst hd; exact ⟨h1, h2⟩
  · exact h j (by omega) d hd
theorem nameB_of_ok {l : List UInt8} (h1 : 1 ≤ l.length) (h2 : l.length ≤ 32) (h : okTo l l.length) : nameB l = true := by
  cases l with
  | nil => simp at h1
  | cons c r =>
    simp only [nameB, Bool.and_eq_true, decide_eq_true_eq, List.all_eq_true]
    refine ⟨⟨(h 0 (by simp) c (by simp)).2 rfl, ?_⟩, by simp at h2; omega⟩
    intro x hx
    obtain ⟨i, hi, e⟩ := List.mem_iff_getElem.1 hx
    exact (h (i + 1) (by simp; omega) x (by simp [e, hi])).1
theorem nameB_bad {l : List UInt8} {k : Nat} {c : UInt8} (hc : l[k]? = some c) (h : inName c = false ∨ (k = 0 ∧ lowB c = false)) : nameB l = false := by
  cases l with
  | nil => rfl
  | cons d r =>
    cases hb : nameB (d :: r) with
    | false => rfl
    | true =>
      simp only [nameB, Bool.and_eq_true, decide_eq_true_eq, List.all_eq_true] at hb
      obtain ⟨⟨a, b⟩, _⟩ := hb
      rcases h with h | ⟨rfl, h⟩
      · cases k with
        | zero =>
          simp at hc; subst hc
          simp [inName, a] at h
        | succ k =>
          have := b c (List.mem_of_getElem? (by simpa using hc))
          rw [this] at h; cases h
      · simp at hc; subst hc; rw [a] at h; cases h
/- The kinds of bytes, by number. -/
theorem byte_cases (c : UInt8) : (97 ≤ c.toNat ∧ c.toNat ≤ 122) ∨ (48 ≤ c.toNat ∧ c.toNat ≤ 57) ∨ c.toNat = 95 ∨ c.toNat < 48 ∨ (57 < c.toNat ∧ c.toNat < 95) ∨ c.toNat = 96 ∨ 122 < c.toNat := by omega
theorem inName_yes {c : UInt8} (h : (97 ≤ c.toNat ∧ c.toNat ≤ 122) ∨ (48 ≤ c.toNat ∧ c.toNat ≤ 57) ∨ c.toNat = 95) : inName c = true := by
  simp only [inName, lowB, digB, Bool.or_eq_true, decide_eq_true_eq, beq_iff_eq]; omega
theorem inName_no {c : UInt8} (h : c.toNat < 48 ∨ (57 < c.toNat ∧ c.toNat < 95) ∨ c.toNat = 96 ∨ 122 < c.toNat) : inName c = false := by
  cases e : inName c with
  | false => rfl
  | true => simp only [inName, lowB, digB, Bool.or_eq_true, decide_eq_true_eq, beq_iff_eq] at e; omega
theorem lowB_yes {c : UInt8} (h : 97 ≤ c.toNat ∧ c.toNat ≤ 122) : lowB c = true := by simpa [lowB] using h
theorem lowB_no {c : UInt8} (h : ¬ (97 ≤ c.toNat ∧ c.toNat ≤ 122)) : lowB c = false := by simp only [lowB, decide_eq_false_iff_not]; exact h
theorem loop_eq (s : ByteArray) (n i : Nat) (r : List UInt8) (h : s.size - i = n) (hi : i ≤ s.size): ByteArray.toList.loop s i r = r.reverse ++ s.data.toList.drop i := by
  induction n generalizing i r with
  | zero =>
    unfold ByteArray.toList.loop
    rw [if_neg (by omega), List.drop_eq_nil_of_le (by simp; have : s.data.size = s.size := rfl; omega)]
    simp
  | succ n ih =>
    unfold ByteArray.toList.loop
    have hl : i < s.data.toList.length := by simp; have : s.data.size = s.size := rfl; omega
    rw [if_pos (by omega), ih (i+1) _ (by omega) (by omega), List.drop_eq_getElem_cons hl]
    simp [ByteArray.get!, getElem!_pos]
    have : i < s.data.size := by simpa using hl
    simp [Array.getElem!_eq_getD, Array.getD]
    rw [dif_pos (by omega)]
theorem bytes_toList (s : ByteArray) : s.toList = s.data.toList := by
  unfold ByteArray.toList
  rw [loop_eq s _ 0 [] rfl (by omega)]; simp
theorem isEmpty_of {s : ByteArray} (h : 1 ≤ s.size) : s.toList.isEmpty = false := by
  have : s.toList.length = s.size := by rw [bytes_toList]; simp
  cases e : s.toList with
  | nil => rw [e] at this; simp at this; omega
  | cons => rfl
theorem ret_bool {a b : Bool} (h : a = b) : Ending.returned (.bool a) = Ending.returned (.bool b) := by rw [h]
theorem zero_of {s : ByteArray} {h : 0 < s.size} {c d : UInt8} (hd : s[0] = d) (hc : s.data.toList[0]? = some c) : c = d := by
  subst hd
  have : 0 < s.data.toList.length := by simpa using h
  rw [List.getElem?_eq_getElem this] at hc
  injection hc with hc
  rw [← hc]; rfl
theorem bytes_below (w : World) (e : TypeId) (s : ByteArray) : Below w.heap.size w (Lib.bytesWorld w e s) :=
  ⟨rfl, rfl, rfl, by rw [Lib.bytesWorld_size]; omega, fun k hk => Lib.bytesWorld_at_old w e s k hk⟩
set_option maxRecDepth 100000 in
set_option maxHeartbeats 400000 in
theorem name_loop (s : ByteArray) (w : World) (h1 : 1 ≤ s.size) (h2 : s.size ≤ 32) (hl : 97 ≤ s[0].toNat ∧ s[0].toNat ≤ 122) :
    Calls Tryd.prog 32 #[.string s] w fun e w' => e = .returned (.bool (nameB s.data.toList)) ∧ Below w.heap.size w w' := by
  have he : s.toList.isEmpty = false := isEmpty_of h1
  obtain ⟨g1, g2⟩ := hl
  have kc := fun (w : World) => Lib.run_convert_string_bytes (P := Tryd.prog) w 9 84 5 s Tryd.underlying9 Tryd.underlying84 Tryd.underlying5
  go_enter Tryd.func32, Tryd.ntmps32
  go_wp2
  clear kc
  have hbel := bytes_below w 5 s
  have hz := Lib.hid (rfl : s[0] = s[0])
  go_loop [4, 25] (fun _ i => ∃ k : Nat, k ≤ s.size ∧ i = .int .i64 k ∧ okTo s.data.toList k) (fun _ i => s.size - (intOf i).toNat)
  case atStart => exact ⟨0, by omega, rfl, okTo_zero _⟩
  case round =>
    obtain ⟨k, hk, rfl, ho⟩ := hrel
    by_cases hlt : k < s.size
    · obtain ⟨c, hc⟩ : ∃ c, s.data.toList[k]? = some c := ⟨_, List.getElem?_eq_getElem (by simpa using hlt)⟩
      have hcell := Lib.bytesWorld_cell w 5 s k hlt
      rw [List.getD_eq_getElem?_getD, hc, Option.getD_some] at hcell
      have H := Lib.hid hc
      have HO := Lib.hid ho
      clear hc ho
      rcases byte_cases c with ⟨q1, q2⟩ | ⟨q1, q2⟩ | q1 | q1 | ⟨q1, q2⟩ | q1 | q1
      · go_wp2
        go_round
        case rel => exact ⟨k + 1, by omega, by go_num, okTo_succ HO.out H.out (inName_yes (by omega)) (fun _ => lowB_yes (by omega))⟩
        case measure => simp [intOf]; omega
      · have hk0 : k ≠ 0 := fun e => by
          subst e
          have hcs := zero_of (rfl : s[0] = s[0]) H.out
          have hct := congrArg UInt8.toNat hcs
          omega
        go_wp2
        go_round
        case rel => exact ⟨k + 1, by omega, by go_num, okTo_succ HO.out H.out (inName_yes (by omega)) (fun e => absurd e hk0)⟩
        case measure => simp [intOf]; omega
      · have hk0 : k ≠ 0 := fun e => by
          subst e
          have hcs := zero_of (rfl : s[0] = s[0]) H.out
          have hct := congrArg UInt8.toNat hcs
          omega
        have HC := Lib.hid q1
        go_wp2
        go_round
        case rel => exact ⟨k + 1, by omega, by go_num, okTo_succ HO.out H.out (inName_yes (by have := HC.out; omega)) (fun e => absurd e hk0)⟩
        case measure => simp [intOf]; omega
      all_goals
        have hf : nameB s.data.toList = false := nameB_bad H.out (.inl (inName_no (by omega)))
        have HF := Lib.hid hf
        clear hf
        have qn : ((c.toNat : Int) != 95) = true := by rw [bne_iff_ne]; omega
        go_wp2
        go_ret
        exact ⟨ret_bool HF.out.symm, hbel⟩
    · obtain rfl : k = s.size := by omega
      have HF := Lib.hid (nameB_of_ok (l := s.data.toList) (by simpa using h1) (by simpa using h2) (by simpa using ho))
      clear ho
      go_wp2
      go_ret
      exact ⟨ret_bool HF.out.symm, hbel⟩
end Go.Proofs.YtcgefpeachgchaaDoor
