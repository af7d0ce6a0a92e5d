/- Walks: an index's number. -/
import Derived.Test.YtcgefpeachgchaaDoorB3
namespace Go.Proofs.YtcgefpeachgchaaDoor
open Go Go.RowKit
theorem atoi_mag {l : List UInt8} (h0 : l ≠ []) (hd : l.all digB = true) :
    (∀ u, Lib.parseUint10 0 l = .ok u → Lib.atoiAll l = if 9223372036854775808 ≤ u then .range else .ok (u : Int)) ∧ (Lib.parseUint10 0 l = .range → Lib.atoiAll l = .range) := by
  cases l with
  | nil => exact absurd rfl h0
  | cons c r =>
    have hc : 48 ≤ c.toNat ∧ c.toNat ≤ 57 := by
      simp only [List.all_cons, Bool.and_eq_true, digB, decide_eq_true_eq] at hd; exact hd.1
    have h43 : ¬ (c.toNat = 43 ∨ c.toNat = 45) := by omega
    have h45 : ¬ c.toNat = 45 := by omega
    unfold Lib.atoiAll Lib.parseMag
    simp only []
    rw [if_neg h43, if_neg (by simp)]
    refine ⟨fun u hu => ?_, fun hu => ?_⟩
    · rw [hu]
      simp only [h45, not_false_eq_true, true_and, false_and, if_false]
    · rw [hu]
theorem parse_dig {l : List UInt8} (hd : l.all digB = true) (a : Nat) : (∃ u, Lib.parseUint10 a l = .ok u) ∨ Lib.parseUint10 a l = .range := by
  induction l generalizing a with
  | nil => exact .inl ⟨a, rfl⟩
  | cons c r ih =>
    simp only [List.all_cons, Bool.and_eq_true, digB, decide_eq_true_eq] at hd
    unfold Lib.parseUint10
    rw [if_pos hd.1]
    split
    · exact .inr rfl
    · split
      · exact .inr rfl
      · exact ih (by simpa [digB] using hd.2) _
def AtoiPost (b : Bool) (w : World) (e : Ending) (w' : World) : Prop :=
  ∃ (n : Int), Below w.heap.size w w' ∧ ((e = .returned (.tuple #[.int .i64 n, .nilIface]) ∧ 0 ≤ n ∧ n ≤ 9223372036854775807 ∧ (n < 4096 ↔ b = true)) ∨ (b = false ∧ ∃ v, e = .returned (.tuple #[.int .i64 n, .iface 91 v])))
theorem bytesW {w w' : World} (h : w' = w ∨ ∃ t, w' = Lib.bytesWorld w 5 t) : Below w.heap.size w w' := by
  rcases h with rfl | ⟨t, rfl⟩
  · exact Below.refl _ _
  · exact bytes_below _ _ _
theorem atoi_dig (s : ByteArray) (hs : s.size ≤ 140737488351232) (h0 : s.size ≠ 0) (hd : s.data.toList.all digB = true) (w : World) (tp : TypeId) (pe : Value) (hv : w.cell? ⟨1, 0, none⟩ = some (.iface tp pe)) :
    Calls Tryd.prog 18 #[.string s] w (AtoiPost (smallB s.data.toList) w) := by
  obtain ⟨hok, hrg⟩ := atoi_mag (l := s.data.toList) (fun e => h0 (by rw [← len_list, e]; rfl)) hd
  unfold smallB
  rcases parse_dig hd 0 with ⟨u, hp⟩ | hp
  · have hat := hok u hp
    rw [hp]
    by_cases hu : 9223372036854775808 ≤ u
    · rw [if_pos hu] at hat
      refine (Tryd.strconv_Atoi_range s (by omega) hat (.iface tp pe) w hv (.inr ⟨_, _, rfl⟩)).mono ?_
      rintro e w' ⟨N, h1, _, _, h4⟩
      exact ⟨_, h4, .inr ⟨decide_eq_false (by omega), _, h1⟩⟩
    · rw [if_neg hu] at hat
      refine (Tryd.strconv_Atoi_ok s (by omega) _ hat w).mono ?_
      rintro e w' ⟨h1, h2⟩
      exact ⟨_, bytesW h2, .inl ⟨h1, by omega, by omega, by rw [decide_eq_true_eq]; omega⟩⟩
  · rw [hp]
    refine (Tryd.strconv_Atoi_range s (by omega) (hrg hp) (.iface tp pe) w hv (.inr ⟨_, _, rfl⟩)).mono ?_
    rintro e w' ⟨N, h1, _, _, h4⟩
    exact ⟨_, h4, .inr ⟨rfl, _, h1⟩⟩
theorem word_all {p : UInt8 → Bool} {l : List UInt8} {a n : Nat} {wd : ByteArray} (hw : Word l a n wd) (hn : spanLen p l a = n) : wd.data.toList.all p = true := by
  rw [show wd.data.toList = _ from hw, ← hn]
  unfold spanLen
  have := List.takeWhile_prefix (p := p) (l := l.drop a)
  rw [← List.prefix_iff_eq_take.1 this]
  exact List.all_takeWhile
/- The two new blocks that a step lays, behind a call. -/
theorem newcells {w w1 : World} {c0 c1 c2 d0 d1 d2 : Value} {T U : TypeId} (hb : Below ((w.alloc (.cells #[c0, c1, c2] T)).alloc (.cells #[d0, d1, d2] U)).heap.size ((w.alloc (.cells #[c0, c1, c2] T)).alloc (.cells #[d0, d1, d2] U)) w1) :
    (w1.heap[w.heap.size]? = some (.cells #[c0, c1, c2] T)) ∧ (w1.heap[w.heap.size + 1]? = some (.cells #[d0, d1, d2] U)) := by
  constructor
  · rw [hb.block _ (by simp; omega)]
    rw [Below.heap_alloc _ _ _ (by simp)]
    exact heap_alloc_new _ _
  · rw [hb.block _ (by simp)]
    have := heap_alloc_new (w.alloc (.cells #[c0, c1, c2] T)) (.cells #[d0, d1, d2] U)
    simpa using this
theorem below3 {w w1 : World} {o p : Obj} {a b c : Value} (hb : Below ((w.alloc o).alloc p).heap.size ((w.alloc o).alloc p) w1) :
    Below w.heap.size w (((w1.setCell ⟨w.heap.size, 0, none⟩ a).setCell ⟨w.heap.size, 1, none⟩ b).setCell ⟨w.heap.size, 2, none⟩ c) :=
  (((((Below.refl w.heap.size w).alloc (Nat.le_refl _) _).alloc (by simp) _).trans (hb.mono (by simp; omega))).setCell (Nat.le_refl _) _).setCell (Nat.le_refl _) _ |>.setCell (Nat.le_refl _) _
structure NC (w1 : World) (g : Nat) (c0 c1 c2 : Value) : Prop where
  r0 : w1.cell? ⟨g, 0, none⟩ = some c0
  r1 : w1.cell? ⟨g, 1, none⟩ = some c1
  r2 : w1.cell? ⟨g, 2, none⟩ = some c2
  f0 : w1.frozen? ⟨g, 0, none⟩ = false
  f1 : w1.frozen? ⟨g, 1, none⟩ = false
  f2 : w1.frozen? ⟨g, 2, none⟩ = false
theorem NC.of {w1 : World} {g : Nat} {c0 c1 c2 : Value} {T : TypeId} (h : w1.heap[g]? = some (.cells #[c0, c1, c2] T)) : NC w1 g c0 c1 c2 := by
  constructor <;> first | (rw [cell_of_row w1 g _ _ T (0, 0) h]; rfl) | (simp [World.frozen?, h])
section
variable (s : ByteArray) (k : Nat) (bh : Bool) (w : World) (hs : s.size ≤ 140737488351232) (hk : k < s.size) (n : Nat) (hn : spanLen digB s.data.toList (k + 1) = n) (tp : TypeId) (pe : Value) (hv : w.cell? ⟨1, 0, none⟩ = some (.iface tp pe)) (hw1 : 1 < w.heap.size)
include hs hk hn hv hw1
set_option maxRecDepth 100000 in
set_option maxHeartbeats 400000 in
theorem step_idxR (hc : ((s[k].toNat : Int) == 91) = true) (hend : k + 1 + n < s.size)
    (h0 : 0 < n) (h2 : ¬ ((s.data.toList.getD (k + 1) 0).toNat = 48 ∧ n ≠ 1)) (h3 : (s.data.toList.getD (k + 1 + n) 0).toNat = 93) :
    Calls Tryd.prog 13 #[.string s, .int .i64 k, .bool bh] w (StepPost (stepS s.data.toList k bh) w) := by
  have HS := Lib.hid (show stepS s.data.toList k bh = if smallB ((s.data.toList.drop (k + 1)).take n) then ⟨0, k + 1 + n + 1, true⟩ else ⟨1, 0, false⟩ by
    unfold stepS; rw [getD_at s k hk, if_pos (by have := eq_of_beq hc; omega), hn, if_neg (by rw [len_list]; omega), if_neg (by omega)])
  have HN := Lib.hid hn
  clear hn
  have hne : (((k : Int) + 1 + n) == (s.size : Int)) = false := by rw [beq_eq_false_iff_ne]; omega
  have h48 : ∀ wd : ByteArray, wd.size = n → Word s.data.toList (k + 1) n wd → ∀ h : 0 < wd.size, ((wd[0].toNat : Int) == 48) = decide ((s.data.toList.getD (k + 1) 0).toNat = 48) := by
    intro wd _ hw h
    rw [hw.at_ h]
    exact int_beq _ 48
  have h93 : ((s[k + 1 + n].toNat : Int) != 93) = false := by
    rw [getD_at s _ hend] at h3
    rw [h3]; rfl
  clear h3
  have hat : ∀ (W : World) (wd : ByteArray), wd.size = n → Word s.data.toList (k + 1) n wd → W.cell? ⟨1, 0, none⟩ = some (.iface tp pe) → Calls Tryd.prog 18 #[.string wd] W (AtoiPost (smallB ((s.data.toList.drop (k + 1)).take n)) W) := by
    intro W wd hsz hw hW
    have hlt : wd.size ≤ s.size := by omega
    have := atoi_dig wd (by omega) (by omega) (word_all hw HN.out) W tp pe hW
    rwa [show wd.data.toList = _ from hw] at this
  have HA := Lib.hid hat
  clear hat
  by_cases h4 : (s.data.toList.getD (k + 1) 0).toNat = 48
  · have hn1 : n = 1 := by
      by_cases e : n = 1
      · exact e
      · exact absurd ⟨h4, e⟩ h2
    subst hn1
    rw [decide_eq_true h4] at h48
    clear h2 h4 h0
    have H4 := Lib.hid h48
    clear h48
    go_enter Tryd.func13, Tryd.ntmps13
    go_wp2_with (go_at_call 17; refine (span_of digB _ inB_dec s (k+1) 1 _ _ hs (by omega) (by omega) HN.out).mono ?_; rintro e w1 ⟨wd, rfl, hsz, hwd, rfl⟩; have hemp := isEmpty_of (s := wd) (by omega); have hw0 := H4.out wd hsz hwd (by omega); have hwl := list_one hsz hw0)
    refine (HA.out _ wd hsz hwd ?hc).mono ?_
    case hc => exact (((((Below.refl w.heap.size w).alloc (Nat.le_refl _) _).alloc (by simp) _).cell (p := ⟨1, 0, none⟩) hw1)).trans hv
    rintro e w1 ⟨m, hb1, hcase⟩
    cases hsm : smallB ((s.data.toList.drop (k + 1)).take 1)
    all_goals
      rw [hsm] at hcase HS
      obtain ⟨q1, q2⟩ := newcells hb1
      obtain ⟨a0, a1, a2, b0, b1, b2⟩ := NC.of q1
      obtain ⟨d0, d1, d2, e0, e1, e2⟩ := NC.of q2
      clear q1 q2
      have hz := hb1.size
      simp only [World.size_alloc] at hz
    · rcases hcase with ⟨rfl, m1, m2, m3⟩ | ⟨_, v, rfl⟩
      · have m4 : 4096 ≤ m := by
          rcases Int.lt_or_le m 4096 with h | h
          · have := m3.1 h; cases this
          · exact h
        clear m3
        go_wp2
        refine bodyPost_ret (v := .tuple #[.agg #[.string ⟨#[]⟩, .bool false, .int .i64 0], .int .i64 0, .int .i64 k, .int .i64 1]) (by simp [results, Tryd.results13, go_sem, a0, a1, a2, b0, b1, b2]) rfl ?_
        exact post_step HS.out (fun h => by cases h) (below3 hb1)
      · go_wp2
        refine bodyPost_ret (v := .tuple #[.agg #[.string ⟨#[]⟩, .bool false, .int .i64 0], .int .i64 0, .int .i64 k, .int .i64 1]) (by simp [results, Tryd.results13, go_sem, a0, a1, a2, b0, b1, b2]) rfl ?_
        exact post_step HS.out (fun h => by cases h) (below3 hb1)
    · rcases hcase with ⟨rfl, m1, m2, m3⟩ | ⟨h, _⟩
      · have m4 : m < 4096 := m3.2 rfl
        clear m3
        go_wp2
        refine bodyPost_ret (v := .tuple #[.agg #[.string ⟨#[]⟩, .bool true, .int .i64 m], .int .i64 (k + 1 + 1 + 1), .int .i64 0, .int .i64 0]) (by simp [results, Tryd.results13, go_sem, a0, a1, a2, b0, b1, b2]) rfl ?_
        exact post_step HS.out (fun h => by omega) (below3 hb1)
      · cases h
  · rw [decide_eq_false h4] at h48
    clear h2 h4
    have H4 := Lib.hid h48
    clear h48
    go_enter Tryd.func13, Tryd.ntmps13
    go_wp2_with (go_at_call 17; refine (span_of digB _ inB_dec s (k+1) n _ _ hs (by omega) (by omega) HN.out).mono ?_; rintro e w1 ⟨wd, rfl, hsz, hwd, rfl⟩; have hemp := isEmpty_of (s := wd) (by omega); have hw0 := H4.out wd hsz hwd (by omega))
    refine (HA.out _ wd hsz hwd ?hc).mono ?_
    case hc => exact (((((Below.refl w.heap.size w).alloc (Nat.le_refl _) _).alloc (by simp) _).cell (p := ⟨1, 0, none⟩) hw1)).trans hv
    rintro e w1 ⟨m, hb1, hcase⟩
    cases hsm : smallB ((s.data.toList.drop (k + 1)).take n)
    all_goals
      rw [hsm] at hcase HS
      obtain ⟨q1, q2⟩ := newcells hb1
      obtain ⟨a0, a1, a2, b0, b1, b2⟩ := NC.of q1
      obtain ⟨d0, d1, d2, e0, e1, e2⟩ := NC.of q2
      clear q1 q2
      have hz := hb1.size
      simp only [World.size_alloc] at hz
    · rcases hcase with ⟨rfl, m1, m2, m3⟩ | ⟨_, v, rfl⟩
      · have m4 : 4096 ≤ m := by
          rcases Int.lt_or_le m 4096 with h | h
          · have := m3.1 h; cases this
          · exact h
        clear m3
        go_wp2
        refine bodyPost_ret (v := .tuple #[.agg #[.string ⟨#[]⟩, .bool false, .int .i64 0], .int .i64 0, .int .i64 k, .int .i64 1]) (by simp [results, Tryd.results13, go_sem, a0, a1, a2, b0, b1, b2]) rfl ?_
        exact post_step HS.out (fun h => by cases h) (below3 hb1)
      · go_wp2
        refine bodyPost_ret (v := .tuple #[.agg #[.string ⟨#[]⟩, .bool false, .int .i64 0], .int .i64 0, .int .i64 k, .int .i64 1]) (by simp [results, Tryd.results13, go_sem, a0, a1, a2, b0, b1, b2]) rfl ?_
        exact post_step HS.out (fun h => by cases h) (below3 hb1)
    · rcases hcase with ⟨rfl, m1, m2, m3⟩ | ⟨h, _⟩
      · have m4 : m < 4096 := m3.2 rfl
        clear m3
        go_wp2
        refine bodyPost_ret (v := .tuple #[.agg #[.string ⟨#[]⟩, .bool true, .int .i64 m], .int .i64 (k + 1 + n + 1), .int .i64 0, .int .i64 0]) (by simp [results, Tryd.results13, go_sem, a0, a1, a2, b0, b1, b2]) rfl ?_
        exact post_step HS.out (fun h => by omega) (below3 hb1)
      · cases h
end
end Go.Proofs.YtcgefpeachgchaaDoor
