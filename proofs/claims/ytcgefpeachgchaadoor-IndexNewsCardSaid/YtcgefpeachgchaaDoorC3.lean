/- Walks: the law. -/
import Derived.Test.YtcgefpeachgchaaDoorC2
import Derived.Deep.RegionHeld3
namespace Go.Proofs.YtcgefpeachgchaaDoor
open Go Go.RowKit
theorem Def_any (g : Nat) (w : World) (a b : ByteArray) (c d : Bool) (hg : g < w.heap.size) (h0 : w.cell? ⟨g, 0, none⟩ = some (.string a)) (h1 : w.cell? ⟨g, 1, none⟩ = some (.string b)) (h2 : w.cell? ⟨g, 2, none⟩ = some (.bool c)) (h3 : w.cell? ⟨g, 3, none⟩ = some (.bool d)) :
    Calls Tryd.prog 6 #[.pointer (some ⟨g, 0, none⟩)] w fun e w' => e = .returned (.agg #[.string a, .string b, .bool c, .bool d]) ∧ w.alloc (.cells #[.string a, .string b, .bool c, .bool d] 23) = w' := by
  go_enter Tryd.func6, Tryd.ntmps6
  go_wp2
  exact bodyPost_ret (v := .agg #[.string a, .string b, .bool c, .bool d]) (by simp [results, Tryd.results6, go_sem]) rfl ⟨rfl, rfl⟩
theorem Len_any (g : Nat) (w : World) (h : w.cell? ⟨g, 7, none⟩ = some (.slice none 0 0)) :
    Calls Tryd.prog 7 #[.pointer (some ⟨g, 0, none⟩)] w fun e w' => e = .returned (.int .i64 0) ∧ w = w' := by
  go_enter Tryd.func7, Tryd.ntmps7
  go_wp2
  go_ret
  exact ⟨rfl, rfl⟩
set_option maxRecDepth 100000 in
set_option maxHeartbeats 400000 in
theorem law_err (cls way : ByteArray) (u v : Bool) (w : World) (hc : cls.size ≤ 140737488351232) (hw : way.size ≤ 140737488351232) (tp : TypeId) (pe : Value) (hv : w.cell? ⟨1, 0, none⟩ = some (.iface tp pe)) (hw1 : 1 < w.heap.size) (E : Nat) (hE : newErr cls way = E) (he : E ≠ 0) :
    Calls Tryd.prog 3 #[.agg #[.string cls, .string way, .bool u, .bool v]] w fun e w' => e = .returned (.bool true) ∧ Below w.heap.size w w' := by
  have H4 := Lib.hid (fun (W : World) (hW : Below w.heap.size w W) => New_any cls way u v W hc hw E hE tp pe ((hW.cell (p := ⟨1, 0, none⟩) hw1).trans hv) (by have := hW.size; omega))
  have H5 := Lib.hid (fun W => refNew_any cls way u v W hc hw E hE)
  clear hE
  go_enter Tryd.func3, Tryd.ntmps3
  go_wp2_with fail
  refine (H4.out _ ?hb).mono ?_
  case hb => exact (Below.refl _ _).alloc (Nat.le_refl _) _
  rintro e w1 ⟨p, rfl, hb1, hp⟩
  obtain rfl : p = none := by
    rcases hp with ⟨h, _⟩ | ⟨h, _⟩
    · exact h
    · exact absurd h he
  obtain ⟨o0, o1, o2, o3⟩ := old4 hb1
  have hb2 := below_x hb1
  clear hp hb1
  go_wp2_with fail
  refine (H5.out _).mono ?_
  rintro e w2 ⟨p, rfl, hb3, hp⟩
  obtain rfl : p = none := hp.2 he
  clear hp
  go_wp2
  go_quiet (fail)
  go_wp2
  go_ret
  exact ⟨rfl, below_drewN (hb2.trans (hb3.mono hb2.size)) _⟩
set_option maxRecDepth 100000 in
set_option maxHeartbeats 1000000 in
theorem law_ok (cls way : ByteArray) (u v : Bool) (w : World) (hc : cls.size ≤ 140737488351232) (hw : way.size ≤ 140737488351232) (tp : TypeId) (pe : Value) (hv : w.cell? ⟨1, 0, none⟩ = some (.iface tp pe)) (hw1 : 1 < w.heap.size) (hE : newErr cls way = 0) :
    Calls Tryd.prog 3 #[.agg #[.string cls, .string way, .bool u, .bool v]] w fun e w' => e = .returned (.bool true) ∧ Below w.heap.size w w' := by
  have H4 := Lib.hid (fun (W : World) (hW : Below w.heap.size w W) => New_any cls way u v W hc hw 0 hE tp pe ((hW.cell (p := ⟨1, 0, none⟩) hw1).trans hv) (by have := hW.size; omega))
  have H5 := Lib.hid (fun W => refNew_any cls way u v W hc hw 0 hE)
  clear hE
  go_enter Tryd.func3, Tryd.ntmps3
  go_wp2_with fail
  refine (H4.out _ ?hb).mono ?_
  case hb => exact (Below.refl _ _).alloc (Nat.le_refl _) _
  rintro e w1 ⟨p, rfl, hb1, hp⟩
  obtain ⟨g, hp, hg, c0, c1, c2, c3, c7⟩ : ∃ g, p = some ⟨g, 0, none⟩ ∧ g < w1.heap.size ∧ w1.cell? ⟨g, 0, none⟩ = some (.string cls) ∧ w1.cell? ⟨g, 1, none⟩ = some (.string way) ∧ w1.cell? ⟨g, 2, none⟩ = some (.bool u) ∧ w1.cell? ⟨g, 3, none⟩ = some (.bool v) ∧ w1.cell? ⟨g, 7, none⟩ = some (.slice none 0 0) := by
    rcases hp with ⟨_, h⟩ | ⟨_, h⟩
    · exact absurd rfl h
    · exact h
  subst hp
  obtain ⟨o0, o1, o2, o3⟩ := old4 hb1
  have hb2 := below_x hb1
  have hz1 : w.heap.size < w1.heap.size := by have := hb1.size; simp at this; omega
  clear hb1
  go_wp2_with fail
  refine (H5.out _).mono ?_
  rintro e w2 ⟨p, rfl, hb3, hp⟩
  obtain ⟨a, ha⟩ : ∃ a, p = some a := by
    cases p with
    | none => exact absurd rfl (hp.1 rfl)
    | some a => exact ⟨a, rfl⟩
  subst ha
  obtain ⟨d0, d1, d2, d3⟩ := keep4 hb3 hg c0 c1 c2 c3
  have d7 := (hb3.cell (p := ⟨g, 7, none⟩) hg).trans c7
  obtain ⟨q0, q1, q2, q3⟩ := keep4 hb3 hz1 o0 o1 o2 o3
  have hg2 : g < w2.heap.size := by have := hb3.size; omega
  have hz2 : w.heap.size < w2.heap.size := by have := hb3.size; omega
  have hbel := hb2.trans (hb3.mono hb2.size)
  clear hp hb2 hb3 c0 c1 c2 c3 c7 o0 o1 o2 o3 hg hz1 H4 H5
  go_wp2
  go_region_held3 (fun w' => w'.cell? ⟨w.heap.size, 0, none⟩ = some (.string cls) ∧ w'.cell? ⟨w.heap.size, 1, none⟩ = some (.string way) ∧ w'.cell? ⟨w.heap.size, 2, none⟩ = some (.bool u) ∧ w'.cell? ⟨w.heap.size, 3, none⟩ = some (.bool v)) (go_keep)
    (first | (go_at_call 6; refine (Def_any g _ cls way u v ?_ ?_ ?_ ?_ ?_).mono ?_; (simp [*]); (simp [*]); (simp [*]); (simp [*]); (simp [*]); rintro e w' ⟨rfl, rfl⟩) | (go_at_call 7; refine (Len_any g _ ?_).mono ?_; (go_simp); rintro e w' ⟨rfl, rfl⟩))
  go_wp2
  go_ret
  exact ⟨rfl, by repeat (first | exact hbel | apply Below.drew | exact (Below.alloc hbel (by have := hbel.size; omega) _))⟩
theorem law_any (cls way : ByteArray) (u v : Bool) (w : World) (hc : cls.size ≤ 140737488351232) (hw : way.size ≤ 140737488351232) (tp : TypeId) (pe : Value) (hv : w.cell? ⟨1, 0, none⟩ = some (.iface tp pe)) (hw1 : 1 < w.heap.size) :
    Calls Tryd.prog 3 #[.agg #[.string cls, .string way, .bool u, .bool v]] w fun e w' => e = .returned (.bool true) ∧ Below w.heap.size w w' := by
  by_cases he : newErr cls way = 0
  · exact law_ok cls way u v w hc hw tp pe hv hw1 he
  · exact law_err cls way u v w hc hw tp pe hv hw1 _ rfl he
end Go.Proofs.YtcgefpeachgchaaDoor
