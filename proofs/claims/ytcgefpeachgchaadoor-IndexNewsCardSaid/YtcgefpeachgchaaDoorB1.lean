/- Walks: span, isName. -/
import Derived.Test.YtcgefpeachgchaaDoorB0
import Derived.Test.YtcgefpeachgchaaDoorShelf
namespace Go.Proofs.YtcgefpeachgchaaDoor
open Go Go.RowKit
theorem ret_str {a b : ByteArray} (h : a = b) : Ending.returned (.string a) = Ending.returned (.string b) := by rw [h]
theorem get_at (s : ByteArray) (k : Nat) (h : k < s.size) : s.data.toList[k]? = some s[k] := by
  rw [List.getElem?_eq_getElem (by simpa using h)]; rfl
theorem idxB (of : ByteArray) (c : UInt8) (w : World) :
    Calls Tryd.prog 24 #[.string of, .int .u8 (c.toNat : Int)] w fun e w' => e = .returned (.int .i64 (Lib.indexByte of.data.toList c)) ∧ w = w' :=
  (Tryd.strings_IndexByte of c.toNat w).mono fun e w' ⟨h1, h2⟩ => ⟨by rw [h1]; simp, h2.symm⟩
set_option maxRecDepth 100000 in
set_option maxHeartbeats 400000 in
theorem span_any (s of : ByteArray) (at_ : Nat) (w : World) (hs : s.size ≤ 140737488351232) (ha : at_ ≤ s.size) :
    Calls Tryd.prog 17 #[.string s, .int .i64 at_, .string of] w fun e w' => e = .returned (.string (s.extract at_ (at_ + spanLen (inB of.data.toList) s.data.toList at_))) ∧ w = w' := by
  go_enter Tryd.func17, Tryd.ntmps17
  go_wp2
  go_loop [7] (fun i => ∃ k : Nat, at_ ≤ k ∧ k ≤ s.size ∧ i = .int .i64 k ∧ AllIn (inB of.data.toList) s.data.toList at_ k) (fun i => s.size - (intOf i).toNat)
  case atStart => exact ⟨at_, Nat.le_refl _, ha, rfl, AllIn.self _ _ _⟩
  case round =>
    obtain ⟨k, hak, hk, rfl, ho⟩ := hrel
    have HO := Lib.hid ho
    clear ho
    by_cases hlt : k < s.size
    · have H := Lib.hid (get_at s k hlt)
      by_cases hi : 0 ≤ Lib.indexByte of.data.toList s[k]
      · go_wp2_with (go_at_call 24; refine (idxB of s[k] _).mono ?_; rintro e w1 ⟨rfl, rfl⟩)
        go_round
        case rel => exact ⟨k + 1, by omega, by omega, by go_num, HO.out.snoc H.out (by simpa [inB] using hi)⟩
        case measure => simp [intOf]; omega
      · have HF := Lib.hid (span_end hak (by simpa using hk) HO.out (.inr ⟨_, H.out, by simpa [inB] using hi⟩))
        go_wp2_with (go_at_call 24; refine (idxB of s[k] _).mono ?_; rintro e w1 ⟨rfl, rfl⟩)
        go_ret
        exact ⟨ret_str (by rw [HF.out]; congr 1; omega), rfl⟩
    · obtain rfl : k = s.size := by omega
      have HF := Lib.hid (span_end hak (by simp) HO.out (.inl (by simp)))
      go_wp2
      go_ret
      exact ⟨ret_str (by rw [HF.out]; congr 1; omega), rfl⟩
theorem span_all {p : UInt8 → Bool} {l : List UInt8} (h : spanLen p l 0 = l.length) : l.all p = true := by
  unfold spanLen at h
  have := List.takeWhile_prefix (p := p) (l := l)
  have e : l.takeWhile p = l := this.eq_of_length (by simpa using h)
  rw [← e]; exact List.all_takeWhile
theorem len_list (s : ByteArray) : s.data.toList.length = s.size := by simp
theorem takeWhile_all {p : UInt8 → Bool} {l : List UInt8} (h : ∀ x ∈ l, p x = true) : l.takeWhile p = l := by
  induction l with
  | nil => rfl
  | cons c r ih => rw [List.takeWhile_cons, if_pos (h c (by simp)), ih (fun x hx => h x (by simp [hx]))]
theorem nameB_span {s : ByteArray} (h1 : 0 < s.size) (h2 : s.size ≤ 32) (hl : lowB s[0] = true) : ((s.extract 0 (spanLen inName s.data.toList 0)).toList == s.toList) = nameB s.data.toList := by
  rw [bytes_toList, bytes_toList]
  have hle := span_le inName s.data.toList 0
  by_cases e : spanLen inName s.data.toList 0 = s.data.toList.length
  · have ha := span_all e
    have h3 : nameB s.data.toList = true := nameB_of_ok (Nat.succ_le_of_lt (by simpa using h1)) (by simpa using h2) (fun j hj c hc => ⟨List.all_eq_true.1 ha c (List.mem_of_getElem? hc), fun e => by
      subst e; rw [get_at s 0 h1] at hc; injection hc with hc; rw [← hc]; exact hl⟩)
    rw [h3, e]
    have : (s.extract 0 s.data.toList.length).data.toList = s.data.toList := by simp [ByteArray.data_extract]
    rw [this]; simp
  · have h3 : nameB s.data.toList = false := by
      have hlt : spanLen inName s.data.toList 0 < s.data.toList.length := by omega
      cases hb : nameB s.data.toList with
      | false => rfl
      | true =>
        exfalso; apply e
        have hall : s.data.toList.all inName = true := by
          generalize s.data.toList = l at hb
          cases l with
          | nil => rfl
          | cons c r =>
            simp only [nameB, Bool.and_eq_true] at hb
            simp [hb.1.2, inName, hb.1.1]
        unfold spanLen
        rw [List.drop_zero, takeWhile_all (fun x hx => List.all_eq_true.1 hall x hx)]
    rw [h3]
    refine beq_eq_false_iff_ne.2 (fun h => e ?_)
    have := congrArg List.length h
    simp [ByteArray.data_extract] at this
    simp at hle ⊢
    omega
set_option maxRecDepth 100000 in
set_option maxHeartbeats 400000 in
theorem isName_any (s : ByteArray) (w : World) (hs : s.size ≤ 140737488351232) :
    Calls Tryd.prog 19 #[.string s] w fun e w' => e = .returned (.bool (nameB s.data.toList)) ∧ w = w' := by
  by_cases h0 : s.size = 0
  · have he : s.toList.isEmpty = true := by rw [bytes_toList, ByteArray.size_eq_zero_iff.1 h0]; rfl
    have HF := Lib.hid (nameB_false_of_len (l := s.data.toList) (.inl (by rw [len_list]; omega)))
    clear h0
    go_enter Tryd.func19, Tryd.ntmps19
    go_wp2
    go_ret
    exact ⟨ret_bool HF.out.symm, rfl⟩
  have hpos : 0 < s.size := by omega
  have he := isEmpty_of (s := s) (by omega)
  clear h0
  by_cases h1 : 32 < s.size
  · have HF := Lib.hid (nameB_false_of_len (l := s.data.toList) (.inr (by simpa using h1)))
    go_enter Tryd.func19, Tryd.ntmps19
    go_wp2
    go_ret
    exact ⟨ret_bool HF.out.symm, rfl⟩
  have h2 : s.size ≤ 32 := by omega
  clear h1
  by_cases hi : 0 ≤ Lib.indexByte bLow s[0]
  · have HF := Lib.hid (nameB_span hpos h2 (by rw [← inB_low]; simpa [inB] using hi))
    unfold bLow at hi
    go_enter Tryd.func19, Tryd.ntmps19
    go_wp2_with (first
      | (go_at_call 24; refine (idxB _ s[0] _).mono ?_; rintro e w1 ⟨rfl, rfl⟩)
      | (go_at_call 17; refine (span_any s _ 0 _ hs (by omega)).mono ?_; rintro e w1 ⟨rfl, rfl⟩))
    go_ret
    refine ⟨ret_bool ?_, rfl⟩
    have hb : inB bName = inName := inB_name
    unfold bName bLow bDec at hb
    rw [← HF.out, ← hb]; rfl
  · have HF := Lib.hid (nameB_bad (get_at s 0 hpos) (.inr ⟨rfl, by rw [← inB_low]; simpa [inB] using hi⟩))
    unfold bLow at hi
    have hi' := Int.not_le.1 hi
    clear hi
    go_enter Tryd.func19, Tryd.ntmps19
    go_wp2_with (first
      | (go_at_call 24; refine (idxB _ s[0] _).mono ?_; rintro e w1 ⟨rfl, rfl⟩))
    go_ret
    exact ⟨ret_bool HF.out.symm, rfl⟩
end Go.Proofs.YtcgefpeachgchaaDoor
