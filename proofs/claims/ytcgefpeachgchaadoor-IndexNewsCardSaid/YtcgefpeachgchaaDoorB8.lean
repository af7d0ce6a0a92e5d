/- Walks: decimal numerals. -/
import Derived.Test.YtcgefpeachgchaaDoorB7
namespace Go.Proofs.YtcgefpeachgchaaDoor
open Go Go.RowKit
def decB (n : Nat) : List UInt8 := if n < 10 then [UInt8.ofNat (48 + n)] else decB (n / 10) ++ [UInt8.ofNat (48 + n % 10)]
termination_by n
theorem decB_small {n : Nat} (h : n < 10) : decB n = [UInt8.ofNat (48 + n)] := by rw [decB, if_pos h]
theorem decB_big {n : Nat} (h : ¬ n < 10) : decB n = decB (n / 10) ++ [UInt8.ofNat (48 + n % 10)] := by rw [decB, if_neg h]
theorem decB_len (k : Nat) : ∀ n, n < 10 ^ (k + 1) → (decB n).length ≤ k + 1 := by
  induction k with
  | zero => intro n h; rw [decB_small (by simpa using h)]; simp
  | succ k ih =>
    intro n h
    by_cases h1 : n < 10
    · rw [decB_small h1]; simp
    · rw [decB_big h1, List.length_append]
      have := ih (n / 10) (by rw [Nat.pow_succ] at h; omega)
      simp; omega
def DecPost (n : Nat) (w : World) (e : Ending) (w' : World) : Prop := ∃ d : ByteArray, e = .returned (.string d) ∧ d.data.toList = decB n ∧ Below w.heap.size w w'
set_option maxRecDepth 100000 in
set_option maxHeartbeats 400000 in
theorem Dec_small (n : Int) (w : World) (h0 : 0 ≤ n) (h : n < 10) : Calls Tryd.prog 29 #[.int .u64 n] w (DecPost n.toNat w) := by
  have hcv := fun T => run_convert_bytes_arg (P := Tryd.prog) (w.alloc (.cells #[.int .u8 (48 + n)] T)) 84 5 Tryd.underlying84 Tryd.underlying5 w.heap.size 0 1 1 [48 + n] rfl (fun i hi => by
    obtain rfl : i = 0 := by omega
    rw [cell_of_row _ _ _ _ _ _ (heap_alloc_new _ _)]; rfl) 9 Tryd.underlying9
  go_enter Tryd.func29, Tryd.ntmps29
  go_wp2
  go_ret
  refine ⟨_, rfl, ?_, (Below.refl _ _).alloc (Nat.le_refl _) _⟩
  rw [decB_small (by omega)]
  show [UInt8.ofNat (48 + n).toNat] = _
  rw [show (48 + n).toNat = 48 + n.toNat by omega]
set_option maxRecDepth 100000 in
set_option maxHeartbeats 400000 in
theorem Dec_big (n : Int) (w : World) (h0 : 10 ≤ n) (h : n < 18446744073709551616) (ih : ∀ W, Calls Tryd.prog 29 #[.int .u64 (n / 10)] W (DecPost (n / 10).toNat W)) : Calls Tryd.prog 29 #[.int .u64 n] w (DecPost n.toNat w) := by
  have IH := Lib.hid ih
  clear ih
  have hl : (decB (n / 10).toNat).length ≤ 20 := decB_len 19 _ (by omega)
  have hl2 : (decB (n % 10).toNat).length ≤ 20 := decB_len 19 _ (by omega)
  have HB := Lib.hid (show decB n.toNat = decB (n / 10).toNat ++ [UInt8.ofNat (48 + (n % 10).toNat)] by rw [decB_big (by omega), show n.toNat / 10 = (n / 10).toNat by omega, show n.toNat % 10 = (n % 10).toNat by omega])
  go_enter Tryd.func29, Tryd.ntmps29
  go_wp2_with fail
  refine (IH.out _).mono ?_
  rintro e w1 ⟨d, rfl, hd, hb⟩
  have hs1 : d.size ≤ 20 := by rw [← len_list, hd]; exact hl
  have HD := Lib.hid hd
  clear hd
  go_wp2_with fail
  have hm : 0 ≤ n % 10 ∧ n % 10 < 10 := by omega
  refine (Dec_small _ _ hm.1 hm.2).mono ?_
  rintro e w2 ⟨d2, rfl, hd2, hb2⟩
  have hs2 : d2.size ≤ 20 := by rw [← len_list, hd2]; exact hl2
  have HD2 := Lib.hid hd2
  clear hd2 hm
  go_wp2_with fail
  go_ret
  refine ⟨_, rfl, ?_, hb.trans (hb2.mono hb.size)⟩
  rw [HB.out, ByteArray.data_append, Array.toList_append, HD.out, HD2.out, decB_small (n := (n % 10).toNat) (by omega)]
theorem Dec_any : ∀ (n : Nat), n < 18446744073709551616 → ∀ w, Calls Tryd.prog 29 #[.int .u64 n] w (DecPost n w) := by
  intro n
  induction n using Nat.strongRecOn with
  | _ n ih =>
    intro h w
    by_cases h1 : n < 10
    · have := Dec_small n w (by omega) (by omega)
      simpa using this
    · have := Dec_big n w (by omega) (by omega) (fun W => by
        have := ih (n / 10) (by omega) (by omega) W
        rw [show ((n : Int) / 10).toNat = n / 10 by omega, show ((n : Int) / 10) = ((n / 10 : Nat) : Int) by omega]
        exact this)
      simpa using this
/- What the digits of a numeral without zeros ahead print as: itself. -/
def digV (l : List UInt8) : Nat := l.foldl (fun a c => a * 10 + (c.toNat - 48)) 0
theorem digV_snoc (l : List UInt8) (c : UInt8) : digV (l ++ [c]) = digV l * 10 + (c.toNat - 48) := by simp [digV]
def NoZero (l : List UInt8) : Prop := ∀ c, l[0]? = some c → c.toNat ≠ 48
theorem digV_pos {l : List UInt8} (h0 : l ≠ []) (hd : l.all digB = true) (hz : NoZero l) : 1 ≤ digV l := by
  obtain ⟨n, hn⟩ : ∃ n, n = l.length := ⟨_, rfl⟩
  induction n generalizing l with
  | zero => exact absurd (List.eq_nil_of_length_eq_zero hn.symm) h0
  | succ n ih =>
    obtain ⟨l', c, rfl⟩ : ∃ l' c, l = l' ++ [c] := ⟨l.dropLast, l.getLast h0, (List.dropLast_concat_getLast h0).symm⟩
    rw [digV_snoc]
    cases l' with
    | nil =>
      have h1 := hz c rfl
      simp only [List.nil_append, List.all_cons, List.all_nil, Bool.and_true, digB, decide_eq_true_eq] at hd
      omega
    | cons d r =>
      have := ih (l := d :: r) (by simp) (by simp only [List.all_append, Bool.and_eq_true] at hd; exact hd.1) (fun e he => hz e (by simpa using he)) (by simp at hn; simp; omega)
      omega
theorem decB_digV {l : List UInt8} (h0 : l ≠ []) (hd : l.all digB = true) (hz : NoZero l ∨ l.length = 1) : decB (digV l) = l := by
  obtain ⟨n, hn⟩ : ∃ n, n = l.length := ⟨_, rfl⟩
  induction n generalizing l with
  | zero => exact absurd (List.eq_nil_of_length_eq_zero hn.symm) h0
  | succ n ih =>
    obtain ⟨l', c, rfl⟩ : ∃ l' c, l = l' ++ [c] := ⟨l.dropLast, l.getLast h0, (List.dropLast_concat_getLast h0).symm⟩
    have hdc : 48 ≤ c.toNat ∧ c.toNat ≤ 57 := by
      simp only [List.all_append, List.all_cons, List.all_nil, Bool.and_true, Bool.and_eq_true, digB, decide_eq_true_eq] at hd; exact hd.2
    have hc : UInt8.ofNat (48 + (c.toNat - 48)) = c := by
      rw [show 48 + (c.toNat - 48) = c.toNat by omega]; simp
    rw [digV_snoc]
    cases l' with
    | nil =>
      simp only [digV, List.foldl_nil, Nat.zero_mul, Nat.zero_add, List.nil_append]
      rw [decB_small (by omega), hc]
    | cons d r =>
      have hda : (d :: r).all digB = true := by simp only [List.all_append, Bool.and_eq_true] at hd; exact hd.1
      have hz' : NoZero (d :: r) := by
        rcases hz with hz | hz
        · exact fun e he => hz e (by simpa using he)
        · simp at hz
      have hp := digV_pos (l := d :: r) (by simp) hda hz'
      have := ih (l := d :: r) (by simp) hda (.inl hz') (by simp at hn; simp; omega)
      rw [decB_big (by omega), show (digV (d :: r) * 10 + (c.toNat - 48)) / 10 = digV (d :: r) by omega, show (digV (d :: r) * 10 + (c.toNat - 48)) % 10 = c.toNat - 48 by omega, this, hc]
def NatPost (b : Bool) (w : World) (e : Ending) (w' : World) : Prop :=
  ∃ (n : Int) (ok : Bool), e = .returned (.tuple #[.int .u64 n, .bool ok]) ∧ 0 ≤ n ∧ n ≤ 18446744073709551615 ∧ (b = true ↔ (ok = true ∧ n < 4096)) ∧ Below w.heap.size w w'
theorem drop_at {s : ByteArray} {k : Nat} (h : k < s.size) : s.data.toList.drop k = s[k] :: s.data.toList.drop (k + 1) := by
  rw [List.drop_eq_getElem_cons (by rw [len_list]; exact h)]; rfl
theorem take_at {s : ByteArray} {k : Nat} (h : k < s.size) : s.data.toList.take (k + 1) = s.data.toList.take k ++ [s[k]] := by
  rw [List.take_succ_eq_append_getElem (by rw [len_list]; exact h)]; rfl
theorem pu_stop {c : UInt8} {r : List UInt8} {a : Nat} (hc : 48 ≤ c.toNat ∧ c.toNat ≤ 57) (h : (18446744073709551615 - ((c.toNat - 48 : Nat) : Int)) / 10 < (a : Int)) : Lib.parseUint10 a (c :: r) = .range := by
  unfold Lib.parseUint10
  rw [if_pos hc]
  split
  · rfl
  · rw [if_pos (by omega)]
theorem pu_go {c : UInt8} {r : List UInt8} {a : Nat} (hc : 48 ≤ c.toNat ∧ c.toNat ≤ 57) (h : (a : Int) ≤ (18446744073709551615 - ((c.toNat - 48 : Nat) : Int)) / 10) : Lib.parseUint10 a (c :: r) = Lib.parseUint10 (a * 10 + (c.toNat - 48)) r ∧ a * 10 + (c.toNat - 48) ≤ 18446744073709551615 := by
  refine ⟨?_, by omega⟩
  rw [Lib.parseUint10]
  rw [if_pos hc, if_neg (by omega), if_neg (by omega)]
set_option maxRecDepth 100000 in
set_option maxHeartbeats 1000000 in
theorem Natural_any (s : ByteArray) (hs : s.size ≤ 140737488351232) (h0 : 0 < s.size) (hd : s.data.toList.all digB = true) (hz : NoZero s.data.toList ∨ s.data.toList.length = 1) (w : World) :
    Calls Tryd.prog 21 #[.string s] w (NatPost (smallB s.data.toList) w) := by
  have HDall := Lib.hid (show ∀ k (h : k < s.size), 48 ≤ s[k].toNat ∧ s[k].toNat ≤ 57 from fun k h => by
    have := List.all_eq_true.1 hd _ (List.mem_of_getElem? (get_at s k h))
    simpa [digB] using this)
  have HDec := Lib.hid (decB_digV (fun e => by rw [← len_list, e] at h0; exact absurd h0 (by simp)) hd hz)
  clear hd hz
  generalize hsm : smallB s.data.toList = sm
  have HSM := Lib.hid hsm
  clear hsm
  go_enter Tryd.func21, Tryd.ntmps21
  go_wp2
  go_loop [4, 5] (fun v i => ∃ (k a : Nat), i = .int .i64 k ∧ v = .int .u64 a ∧ k ≤ s.size ∧ a ≤ 18446744073709551615 ∧ Hid (a = digV (s.data.toList.take k) ∧ Lib.parseUint10 0 s.data.toList = Lib.parseUint10 a (s.data.toList.drop k))) (fun _ i => s.size - (intOf i).toNat)
  case atStart => exact ⟨0, 0, rfl, rfl, by omega, by omega, ⟨rfl, rfl⟩⟩
  case round =>
    obtain ⟨k, a, rfl, rfl, hk, ha, HA⟩ := hrel
    by_cases hlt : k < s.size
    · obtain ⟨c1, c2⟩ := HDall.out k hlt
      have e1 : ((s[k].toNat - 48 : Nat) : Int) = (s[k].toNat : Int) - 48 := by omega
      by_cases hov : (18446744073709551615 - ((s[k].toNat - 48 : Nat) : Int)) / 10 < (a : Int)
      · have HR := Lib.hid (show sm = false by
          rw [← HSM.out, smallB, HA.out.2, drop_at hlt, pu_stop ⟨c1, c2⟩ hov])
        rw [e1] at hov
        clear e1
        go_wp2
        go_ret2
        exact ⟨0, false, rfl, by omega, by omega, by rw [HR.out]; simp, Below.refl _ _⟩
      · obtain ⟨h1, h2⟩ := pu_go (r := s.data.toList.drop (k + 1)) ⟨c1, c2⟩ (Int.not_lt.1 hov)
        have H1 := Lib.hid h1
        clear h1
        have hov' := Int.not_lt.1 hov
        rw [e1] at hov'
        have h3 : (a : Int) * 10 + (s[k].toNat - 48) ≤ 18446744073709551615 := by omega
        clear hov e1
        go_wp2
        refine ⟨⟨k + 1, a * 10 + (s[k].toNat - 48), by go_num, ?_, by omega, h2, ?_⟩, by simp [intOf]; omega⟩
        · congr 1; omega
        · refine ⟨?_, HA.out.2.trans ?_⟩
          · rw [take_at hlt, digV_snoc, ← HA.out.1]
          · rw [drop_at hlt]; exact H1.out
    · obtain rfl : k = s.size := by omega
      have hfull : s.data.toList.take s.size = s.data.toList := List.take_of_length_le (by rw [len_list]; omega)
      have hno : s.data.toList.drop s.size = [] := List.drop_eq_nil_of_le (by rw [len_list]; omega)
      have HE := Lib.hid (show decB a = s.data.toList by rw [HA.out.1, hfull]; exact HDec.out)
      have HR := Lib.hid (show sm = decide (a < 4096) by rw [← HSM.out, smallB, HA.out.2, hno]; rfl)
      clear hfull hno
      have hpos : 0 < (s.size : Int) := by omega
      go_wp2_with fail
      refine (Dec_any a (by omega) _).mono ?_
      rintro e w1 ⟨d, rfl, hd, hb⟩
      have heq : (d.toList == s.toList) = true := by
        rw [beq_iff_eq, bytes_toList, bytes_toList, hd]; exact HE.out
      clear hd
      go_wp2_with fail
      go_ret2
      exact ⟨a, true, rfl, by omega, by omega, by rw [HR.out, decide_eq_true_eq]; exact ⟨fun h => ⟨rfl, by omega⟩, fun h => by have := h.2; omega⟩, hb⟩
end Go.Proofs.YtcgefpeachgchaaDoor
