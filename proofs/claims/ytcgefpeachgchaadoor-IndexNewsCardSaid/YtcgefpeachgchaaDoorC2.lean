/- Walks: the two News. -/
import Derived.Test.YtcgefpeachgchaaDoorC1
namespace Go.Proofs.YtcgefpeachgchaaDoor
open Go Go.RowKit
def newErr (cls way : ByteArray) : Nat :=
  if cls.size ≠ 0 ∧ nameB cls.data.toList = false then 8
  else if (parseS (way.size + 1) way.data.toList 0 0 false).err ≠ 0 then (parseS (way.size + 1) way.data.toList 0 0 false).err
  else if (parseS (way.size + 1) way.data.toList 0 0 false).len = 0 ∨ (parseS (way.size + 1) way.data.toList 0 0 false).first = true then 1 else 0
def RNewPost (er : Nat) (w : World) (e : Ending) (w' : World) : Prop :=
  ∃ p : Option Addr, e = .returned (.tuple #[.pointer p, .int .i64 er]) ∧ Below w.heap.size w w' ∧ (p = none ↔ er ≠ 0)
theorem rnew_err {er : Nat} {w w' : World} (h : er ≠ 0) (hb : Below w.heap.size w w') : RNewPost er w (.returned (.tuple #[.pointer none, .int .i64 er])) w' := ⟨none, rfl, hb, by simp [h]⟩
theorem rnew_ok {a : Addr} {w w' : World} (hb : Below w.heap.size w w') : RNewPost 0 w (.returned (.tuple #[.pointer (some a), .int .i64 0])) w' := ⟨some a, rfl, hb, by simp⟩
theorem below_x {w w1 : World} {o : Obj} (hb : Below (w.alloc o).heap.size (w.alloc o) w1) : Below w.heap.size w w1 := ref_b1 hb
theorem old4 {w w1 : World} {a b c d : Value} {T : TypeId} (hb : Below (w.alloc (.cells #[a, b, c, d] T)).heap.size (w.alloc (.cells #[a, b, c, d] T)) w1) :
    w1.cell? ⟨w.heap.size, 0, none⟩ = some a ∧ w1.cell? ⟨w.heap.size, 1, none⟩ = some b ∧ w1.cell? ⟨w.heap.size, 2, none⟩ = some c ∧ w1.cell? ⟨w.heap.size, 3, none⟩ = some d := by
  have h : w1.heap[w.heap.size]? = some (.cells #[a, b, c, d] T) := by rw [hb.block _ (by simp)]; exact heap_alloc_new _ _
  refine ⟨?_, ?_, ?_, ?_⟩ <;> (rw [cell_of_row w1 _ _ _ T (0, 0) h]; rfl)
set_option maxRecDepth 100000 in
set_option maxHeartbeats 400000 in
theorem refNew_none (cls way : ByteArray) (u v : Bool) (w : World) (hw : way.size ≤ 140737488351232) (E : Nat) (hE : newErr cls way = E) (h0 : cls.size = 0) :
    Calls Tryd.prog 5 #[.agg #[.string cls, .string way, .bool u, .bool v]] w (RNewPost E w) := by
  have he := isEmpty_nil h0
  have HP := Lib.hid (fun W => refParse_any way W hw)
  unfold newErr at hE
  rw [if_neg (fun h => h.1 h0)] at hE
  generalize parseS (way.size + 1) way.data.toList 0 0 false = pr at *
  obtain ⟨er, len, fb⟩ := pr
  simp only [] at hE
  by_cases he1 : er = 0
  · subst he1
    rw [if_neg (by simp)] at hE
    by_cases hl : len = 0
    · subst hl
      rw [if_pos (.inl rfl)] at hE
      subst hE
      go_enter Tryd.func5, Tryd.ntmps5
      go_wp2_with fail
      refine (HP.out _).mono ?_
      rintro e w1 ⟨A, c, pl, rfl, hb, -⟩
      have hbx := below_x hb
      clear hb
      simp only []
      go_wp2
      go_ret2
      exact rnew_err (by simp) hbx
    · have hl0 : 0 < len := by omega
      cases fb with
      | true =>
        rw [if_pos (.inr rfl)] at hE
        subst hE
        go_enter Tryd.func5, Tryd.ntmps5
        go_wp2_with fail
        refine (HP.out _).mono ?_
        rintro e w1 ⟨A, c, pl, rfl, hb, hf⟩
        obtain ⟨g, hA, hg1, hg2, hcell⟩ := hf hl0
        have HAA := Lib.hid hA
        clear hA
        have hbx := below_x hb
        clear hb hf
        simp only [] at hcell ⊢
        rw [HAA.out]
        go_wp2
        go_ret2
        exact rnew_err (by simp) hbx
      | false =>
        rw [if_neg (by simp; omega)] at hE
        subst hE
        go_enter Tryd.func5, Tryd.ntmps5
        go_wp2_with fail
        refine (HP.out _).mono ?_
        rintro e w1 ⟨A, c, pl, rfl, hb, hf⟩
        obtain ⟨g, hA, hg1, hg2, hcell⟩ := hf hl0
        have HAA := Lib.hid hA
        clear hA
        obtain ⟨o0, o1, o2, o3⟩ := old4 hb
        have hbx := below_x hb
        clear hb hf
        simp only [] at hcell ⊢
        rw [HAA.out]
        go_wp2
        go_ret2
        exact rnew_ok ((hbx.alloc hbx.size _))
  · rw [if_pos he1] at hE
    subst hE
    have he2 : ((er : Int) != 0) = true := by rw [bne_iff_ne]; omega
    go_enter Tryd.func5, Tryd.ntmps5
    go_wp2_with fail
    refine (HP.out _).mono ?_
    rintro e w1 ⟨A, c, pl, rfl, hb, -⟩
    have hbx := below_x hb
    clear hb
    simp only []
    go_wp2
    go_ret2
    exact rnew_err he1 hbx
set_option maxRecDepth 100000 in
set_option maxHeartbeats 400000 in
theorem refNew_some (cls way : ByteArray) (u v : Bool) (w : World) (hc : cls.size ≤ 140737488351232) (hw : way.size ≤ 140737488351232) (E : Nat) (hE : newErr cls way = E) (h0 : 1 ≤ cls.size) :
    Calls Tryd.prog 5 #[.agg #[.string cls, .string way, .bool u, .bool v]] w (RNewPost E w) := by
  have he := isEmpty_of h0
  have HNm := Lib.hid (fun W => refName_any cls W hc)
  cases hnb : nameB cls.data.toList
  · have hE8 : E = 8 := by rw [← hE, newErr, if_pos ⟨by omega, hnb⟩]
    clear hE
    subst hE8
    rw [hnb] at HNm
    clear hnb
    go_enter Tryd.func5, Tryd.ntmps5
    go_wp2_with (go_at_call 10; refine (HNm.out _).mono ?_; rintro e w1 ⟨rfl, rfl⟩)
    go_ret2
    exact rnew_err (by simp) ((Below.refl _ _).alloc (Nat.le_refl _) _)
  have hcl : ¬ (cls.size ≠ 0 ∧ nameB cls.data.toList = false) := fun h => by rw [hnb] at h; cases h.2
  rw [hnb] at HNm
  clear hnb
  have HP := Lib.hid (fun W => refParse_any way W hw)
  unfold newErr at hE
  rw [if_neg hcl] at hE
  generalize parseS (way.size + 1) way.data.toList 0 0 false = pr at *
  obtain ⟨er, len, fb⟩ := pr
  simp only [] at hE
  by_cases he1 : er = 0
  · subst he1
    rw [if_neg (by simp)] at hE
    by_cases hl : len = 0
    · subst hl
      rw [if_pos (.inl rfl)] at hE
      subst hE
      clear hcl
      go_enter Tryd.func5, Tryd.ntmps5
      go_wp2_with (go_at_call 10; refine (HNm.out _).mono ?_; rintro e w1 ⟨rfl, rfl⟩)
      refine (HP.out _).mono ?_
      rintro e w1 ⟨A, c, pl, rfl, hb, -⟩
      have hbx := below_x hb
      clear hb
      simp only []
      go_wp2
      go_ret2
      exact rnew_err (by simp) hbx
    · have hl0 : 0 < len := by omega
      cases fb with
      | true =>
        rw [if_pos (.inr rfl)] at hE
        subst hE
        clear hcl
        go_enter Tryd.func5, Tryd.ntmps5
        go_wp2_with (go_at_call 10; refine (HNm.out _).mono ?_; rintro e w1 ⟨rfl, rfl⟩)
        refine (HP.out _).mono ?_
        rintro e w1 ⟨A, c, pl, rfl, hb, hf⟩
        obtain ⟨g, hA, hg1, hg2, hcell⟩ := hf hl0
        have HAA := Lib.hid hA
        clear hA
        have hbx := below_x hb
        clear hb hf
        simp only [] at hcell ⊢
        rw [HAA.out]
        go_wp2
        go_ret2
        exact rnew_err (by simp) hbx
      | false =>
        rw [if_neg (by simp; omega)] at hE
        subst hE
        clear hcl
        go_enter Tryd.func5, Tryd.ntmps5
        go_wp2_with (go_at_call 10; refine (HNm.out _).mono ?_; rintro e w1 ⟨rfl, rfl⟩)
        refine (HP.out _).mono ?_
        rintro e w1 ⟨A, c, pl, rfl, hb, hf⟩
        obtain ⟨g, hA, hg1, hg2, hcell⟩ := hf hl0
        have HAA := Lib.hid hA
        clear hA
        obtain ⟨o0, o1, o2, o3⟩ := old4 hb
        have hbx := below_x hb
        clear hb hf
        simp only [] at hcell ⊢
        rw [HAA.out]
        go_wp2
        go_ret2
        exact rnew_ok ((hbx.alloc hbx.size _))
  · rw [if_pos he1] at hE
    subst hE
    have he2 : ((er : Int) != 0) = true := by rw [bne_iff_ne]; omega
    clear hcl
    go_enter Tryd.func5, Tryd.ntmps5
    go_wp2_with (go_at_call 10; refine (HNm.out _).mono ?_; rintro e w1 ⟨rfl, rfl⟩)
    refine (HP.out _).mono ?_
    rintro e w1 ⟨A, c, pl, rfl, hb, -⟩
    have hbx := below_x hb
    clear hb
    simp only []
    go_wp2
    go_ret2
    exact rnew_err he1 hbx
theorem below_2 {w w1 : World} {o p : Obj} (hb : Below ((w.alloc o).alloc p).heap.size ((w.alloc o).alloc p) w1) : Below w.heap.size w w1 :=
  (((Below.refl w.heap.size w).alloc (Nat.le_refl _) _).alloc (by simp) _).trans (hb.mono (by simp; omega))
theorem old42 {w w1 : World} {a b c d : Value} {T : TypeId} {o : Obj} (hb : Below ((w.alloc (.cells #[a, b, c, d] T)).alloc o).heap.size ((w.alloc (.cells #[a, b, c, d] T)).alloc o) w1) :
    w1.cell? ⟨w.heap.size, 0, none⟩ = some a ∧ w1.cell? ⟨w.heap.size, 1, none⟩ = some b ∧ w1.cell? ⟨w.heap.size, 2, none⟩ = some c ∧ w1.cell? ⟨w.heap.size, 3, none⟩ = some d := by
  have h : w1.heap[w.heap.size]? = some (.cells #[a, b, c, d] T) := by rw [hb.block _ (by simp; omega), Below.heap_alloc _ _ _ (by simp)]; exact heap_alloc_new _ _
  refine ⟨?_, ?_, ?_, ?_⟩ <;> (rw [cell_of_row w1 _ _ _ T (0, 0) h]; rfl)
theorem keep4 {w w1 : World} {g : Nat} {a b c d : Value} (hb : Below w.heap.size w w1) (hg : g < w.heap.size) (h0 : w.cell? ⟨g, 0, none⟩ = some a) (h1 : w.cell? ⟨g, 1, none⟩ = some b) (h2 : w.cell? ⟨g, 2, none⟩ = some c) (h3 : w.cell? ⟨g, 3, none⟩ = some d) :
    w1.cell? ⟨g, 0, none⟩ = some a ∧ w1.cell? ⟨g, 1, none⟩ = some b ∧ w1.cell? ⟨g, 2, none⟩ = some c ∧ w1.cell? ⟨g, 3, none⟩ = some d :=
  ⟨(hb.cell (p := ⟨g, 0, none⟩) hg).trans h0, (hb.cell (p := ⟨g, 1, none⟩) hg).trans h1, (hb.cell (p := ⟨g, 2, none⟩) hg).trans h2, (hb.cell (p := ⟨g, 3, none⟩) hg).trans h3⟩
def INewPost (cls way : ByteArray) (u v : Bool) (er : Nat) (w : World) (e : Ending) (w' : World) : Prop :=
  ∃ p : Option Addr, e = .returned (.tuple #[.pointer p, .int .i64 er]) ∧ Below w.heap.size w w' ∧ ((p = none ∧ er ≠ 0) ∨ (er = 0 ∧ ∃ g, p = some ⟨g, 0, none⟩ ∧ g < w'.heap.size ∧ w'.cell? ⟨g, 0, none⟩ = some (.string cls) ∧ w'.cell? ⟨g, 1, none⟩ = some (.string way) ∧ w'.cell? ⟨g, 2, none⟩ = some (.bool u) ∧ w'.cell? ⟨g, 3, none⟩ = some (.bool v) ∧ w'.cell? ⟨g, 7, none⟩ = some (.slice none 0 0)))
theorem inew_err {cls way : ByteArray} {u v : Bool} {er : Nat} {w w' : World} (h : er ≠ 0) (hb : Below w.heap.size w w') : INewPost cls way u v er w (.returned (.tuple #[.pointer none, .int .i64 er])) w' := ⟨none, rfl, hb, .inl ⟨rfl, h⟩⟩
theorem inew_ok {cls way : ByteArray} {u v : Bool} {w w1 : World} {a b c : Value} {T : TypeId} {g : Nat} (hg : g = w1.heap.size) (hb : Below w.heap.size w w1) :
    INewPost cls way u v 0 w (.returned (.tuple #[.pointer (some ⟨g, 0, none⟩), .int .i64 0])) (w1.alloc (.cells #[.string cls, .string way, .bool u, .bool v, a, b, c, .slice none 0 0] T)) := by
  subst hg
  have h := heap_alloc_new w1 (.cells #[.string cls, .string way, .bool u, .bool v, a, b, c, .slice none 0 0] T)
  refine ⟨_, rfl, hb.alloc hb.size _, .inr ⟨rfl, _, rfl, by simp, ?_, ?_, ?_, ?_, ?_⟩⟩ <;> (rw [cell_of_row _ _ _ _ T (0, 0) h]; rfl)
section
variable (cls way : ByteArray) (u v : Bool) (w : World) (hc : cls.size ≤ 140737488351232) (hw : way.size ≤ 140737488351232) (E : Nat) (hE : newErr cls way = E) (tp : TypeId) (pe : Value) (hv : w.cell? ⟨1, 0, none⟩ = some (.iface tp pe)) (hw1 : 1 < w.heap.size)
include hc hw hE hv hw1
set_option maxRecDepth 100000 in
set_option maxHeartbeats 400000 in
theorem New_none (h0 : cls.size = 0) :
    Calls Tryd.prog 4 #[.agg #[.string cls, .string way, .bool u, .bool v]] w (INewPost cls way u v E w) := by
  have _ := hc
  have he := isEmpty_nil h0
  have hmm := @run_makeMap Tryd.prog
  have HP := Lib.hid (fun W (hW : Below w.heap.size w W) => Parse_any way W hw tp pe ((hW.cell (p := ⟨1, 0, none⟩) hw1).trans hv) (by have := hW.size; omega))
  unfold newErr at hE
  rw [if_neg (fun h => h.1 h0)] at hE
  generalize parseS (way.size + 1) way.data.toList 0 0 false = pr at *
  obtain ⟨er, len, fb⟩ := pr
  simp only [] at hE
  by_cases he1 : er = 0
  · subst he1
    rw [if_neg (by simp)] at hE
    by_cases hl : len = 0
    · subst hl
      rw [if_pos (.inl rfl)] at hE
      subst hE
      go_enter Tryd.func4, Tryd.ntmps4
      go_wp2_with fail
      refine (HP.out _ ?hW).mono ?_
      case hW => exact (Below.refl _ _).alloc (Nat.le_refl _) _
      rintro e w1 ⟨A, c, pl, rfl, hb, -⟩
      have hbx := below_x hb
      clear hb
      simp only []
      go_wp2
      go_ret2
      exact inew_err (by simp) hbx
    · have hl0 : 0 < len := by omega
      cases fb with
      | true =>
        rw [if_pos (.inr rfl)] at hE
        subst hE
        go_enter Tryd.func4, Tryd.ntmps4
        go_wp2_with fail
        refine (HP.out _ ?hW).mono ?_
        case hW => exact (Below.refl _ _).alloc (Nat.le_refl _) _
        rintro e w1 ⟨A, c, pl, rfl, hb, hf⟩
        obtain ⟨g, hA, hg1, hg2, hcell⟩ := hf hl0
        have HAA := Lib.hid hA
        clear hA
        have hbx := below_x hb
        clear hb hf
        simp only [] at hcell ⊢
        rw [HAA.out]
        go_wp2
        go_ret2
        exact inew_err (by simp) hbx
      | false =>
        rw [if_neg (by simp; omega)] at hE
        subst hE
        go_enter Tryd.func4, Tryd.ntmps4
        go_wp2_with fail
        refine (HP.out _ ?hW).mono ?_
        case hW => exact (Below.refl _ _).alloc (Nat.le_refl _) _
        rintro e w1 ⟨A, c, pl, rfl, hb, hf⟩
        obtain ⟨g, hA, hg1, hg2, hcell⟩ := hf hl0
        have HAA := Lib.hid hA
        clear hA
        obtain ⟨o0, o1, o2, o3⟩ := old4 hb
        have hbx := below_x hb
        clear hb hf
        simp only [] at hcell ⊢
        rw [HAA.out]
        go_wp2
        go_ret2
        exact inew_ok (by simp) ((hbx.alloc hbx.size _).alloc (by simp; have := hbx.size; omega) _)
  · rw [if_pos he1] at hE
    subst hE
    have he2 : ((er : Int) != 0) = true := by rw [bne_iff_ne]; omega
    go_enter Tryd.func4, Tryd.ntmps4
    go_wp2_with fail
    refine (HP.out _ ?hW).mono ?_
    case hW => exact (Below.refl _ _).alloc (Nat.le_refl _) _
    rintro e w1 ⟨A, c, pl, rfl, hb, -⟩
    have hbx := below_x hb
    clear hb
    simp only []
    go_wp2
    go_ret2
    exact inew_err he1 hbx
set_option maxRecDepth 100000 in
set_option maxHeartbeats 400000 in
theorem New_some (h0 : 1 ≤ cls.size) :
    Calls Tryd.prog 4 #[.agg #[.string cls, .string way, .bool u, .bool v]] w (INewPost cls way u v E w) := by
  have he := isEmpty_of h0
  have hmm := @run_makeMap Tryd.prog
  have hck : ∀ T T2, Calls Tryd.prog 8 #[.iface 34 (.pointer (some ⟨w.heap.size + 1, 0, none⟩))] ((w.alloc (.cells #[.string cls, .string way, .bool u, .bool v] T)).alloc (.cells #[.string cls, .int .i64 1, .slice none 0 0] T2)) (CheckPost (nameX cls) ((w.alloc (.cells #[.string cls, .string way, .bool u, .bool v] T)).alloc (.cells #[.string cls, .int .i64 1, .slice none 0 0] T2))) := by
    intro T T2
    have h := heap_alloc_new (w.alloc (.cells #[.string cls, .string way, .bool u, .bool v] T)) (.cells #[.string cls, .int .i64 1, .slice none 0 0] T2)
    rw [World.size_alloc] at h
    exact Check_rec (w.heap.size + 1) cls _ hc (by simp) (by rw [cell_of_row _ _ _ _ T2 (0, 0) h]; rfl) (by rw [cell_of_row _ _ _ _ T2 (0, 0) h]; rfl) (by rw [cell_of_row _ _ _ _ T2 (0, 0) h]; rfl)
  unfold nameX at hck
  cases hnb : nameB cls.data.toList
  · have hE8 : E = 8 := by rw [← hE, newErr, if_pos ⟨by omega, hnb⟩]
    clear hE
    subst hE8
    rw [hnb] at hck
    have HCk := Lib.hid hck
    clear hnb hck
    go_enter Tryd.func4, Tryd.ntmps4
    go_wp2_with fail
    refine (HCk.out _ _).mono ?_
    rintro e w1 ⟨rfl, hb1⟩
    simp only [Bool.false_eq_true, if_false]
    have hb2 := below_2 hb1
    clear hb1
    go_wp2
    go_ret2
    exact inew_err (by simp) hb2
  have hcl : ¬ (cls.size ≠ 0 ∧ nameB cls.data.toList = false) := fun h => by rw [hnb] at h; cases h.2
  rw [hnb] at hck
  have HCk := Lib.hid hck
  clear hnb hck
  have HP := Lib.hid (fun W (hW : Below w.heap.size w W) => Parse_any way W hw tp pe ((hW.cell (p := ⟨1, 0, none⟩) hw1).trans hv) (by have := hW.size; omega))
  unfold newErr at hE
  rw [if_neg hcl] at hE
  generalize parseS (way.size + 1) way.data.toList 0 0 false = pr at *
  obtain ⟨er, len, fb⟩ := pr
  simp only [] at hE
  by_cases he1 : er = 0
  · subst he1
    rw [if_neg (by simp)] at hE
    by_cases hl : len = 0
    · subst hl
      rw [if_pos (.inl rfl)] at hE
      subst hE
      clear hcl
      go_enter Tryd.func4, Tryd.ntmps4
      go_wp2_with fail
      refine (HCk.out _ _).mono ?_
      rintro e w0 ⟨rfl, hb1⟩
      simp only [if_true]
      have hb2 := below_2 hb1
      obtain ⟨o0, o1, o2, o3⟩ := old42 hb1
      have hz1 := hb1.size
      simp only [World.size_alloc] at hz1
      clear hb1
      go_wp2_with fail
      refine (HP.out _ ?hW).mono ?_
      case hW => exact hb2
      rintro e w1 ⟨A, c, pl, rfl, hb, -⟩
      have hbx := hb2.trans (hb.mono hb2.size)
      clear hb
      simp only []
      go_wp2
      go_ret2
      exact inew_err (by simp) hbx
    · have hl0 : 0 < len := by omega
      cases fb with
      | true =>
        rw [if_pos (.inr rfl)] at hE
        subst hE
        clear hcl
        go_enter Tryd.func4, Tryd.ntmps4
        go_wp2_with fail
        refine (HCk.out _ _).mono ?_
        rintro e w0 ⟨rfl, hb1⟩
        simp only [if_true]
        have hb2 := below_2 hb1
        obtain ⟨o0, o1, o2, o3⟩ := old42 hb1
        have hz1 := hb1.size
        simp only [World.size_alloc] at hz1
        clear hb1
        go_wp2_with fail
        refine (HP.out _ ?hW).mono ?_
        case hW => exact hb2
        rintro e w1 ⟨A, c, pl, rfl, hb, hf⟩
        obtain ⟨g, hA, hg1, hg2, hcell⟩ := hf hl0
        have HAA := Lib.hid hA
        clear hA
        have hbx := hb2.trans (hb.mono hb2.size)
        clear hb hf
        simp only [] at hcell ⊢
        rw [HAA.out]
        go_wp2
        go_ret2
        exact inew_err (by simp) hbx
      | false =>
        rw [if_neg (by simp; omega)] at hE
        subst hE
        clear hcl
        go_enter Tryd.func4, Tryd.ntmps4
        go_wp2_with fail
        refine (HCk.out _ _).mono ?_
        rintro e w0 ⟨rfl, hb1⟩
        simp only [if_true]
        have hb2 := below_2 hb1
        obtain ⟨o0, o1, o2, o3⟩ := old42 hb1
        have hz1 := hb1.size
        simp only [World.size_alloc] at hz1
        clear hb1
        go_wp2_with fail
        refine (HP.out _ ?hW).mono ?_
        case hW => exact hb2
        rintro e w1 ⟨A, c, pl, rfl, hb, hf⟩
        obtain ⟨g, hA, hg1, hg2, hcell⟩ := hf hl0
        have HAA := Lib.hid hA
        clear hA
        obtain ⟨o0, o1, o2, o3⟩ := keep4 hb (by omega) o0 o1 o2 o3
        have hbx := hb2.trans (hb.mono hb2.size)
        clear hb hf
        simp only [] at hcell ⊢
        rw [HAA.out]
        go_wp2
        go_ret2
        exact inew_ok (by simp) ((hbx.alloc hbx.size _).alloc (by simp; have := hbx.size; omega) _)
  · rw [if_pos he1] at hE
    subst hE
    have he2 : ((er : Int) != 0) = true := by rw [bne_iff_ne]; omega
    clear hcl
    go_enter Tryd.func4, Tryd.ntmps4
    go_wp2_with fail
    refine (HCk.out _ _).mono ?_
    rintro e w0 ⟨rfl, hb1⟩
    simp only [if_true]
    have hb2 := below_2 hb1
    obtain ⟨o0, o1, o2, o3⟩ := old42 hb1
    have hz1 := hb1.size
    simp only [World.size_alloc] at hz1
    clear hb1
    go_wp2_with fail
    refine (HP.out _ ?hW).mono ?_
    case hW => exact hb2
    rintro e w1 ⟨A, c, pl, rfl, hb, -⟩
    have hbx := hb2.trans (hb.mono hb2.size)
    clear hb
    simp only []
    go_wp2
    go_ret2
    exact inew_err he1 hbx
end
theorem New_any (cls way : ByteArray) (u v : Bool) (w : World) (hc : cls.size ≤ 140737488351232) (hw : way.size ≤ 140737488351232) (E : Nat) (hE : newErr cls way = E) (tp : TypeId) (pe : Value) (hv : w.cell? ⟨1, 0, none⟩ = some (.iface tp pe)) (hw1 : 1 < w.heap.size) :
    Calls Tryd.prog 4 #[.agg #[.string cls, .string way, .bool u, .bool v]] w (INewPost cls way u v E w) := by
  by_cases h : cls.size = 0
  · exact New_none cls way u v w hc hw E hE tp pe hv hw1 h
  · exact New_some cls way u v w hc hw E hE tp pe hv hw1 (by omega)
theorem refNew_any (cls way : ByteArray) (u v : Bool) (w : World) (hc : cls.size ≤ 140737488351232) (hw : way.size ≤ 140737488351232) (E : Nat) (hE : newErr cls way = E) :
    Calls Tryd.prog 5 #[.agg #[.string cls, .string way, .bool u, .bool v]] w (RNewPost E w) := by
  by_cases h : cls.size = 0
  · exact refNew_none cls way u v w hw E hE h
  · exact refNew_some cls way u v w hc hw E hE (by omega)
end Go.Proofs.YtcgefpeachgchaaDoor
