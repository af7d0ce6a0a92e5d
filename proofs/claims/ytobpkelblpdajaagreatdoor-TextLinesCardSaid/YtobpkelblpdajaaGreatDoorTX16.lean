/- Walks: whole numbers' and flags' texts. -/
import Derived.Test.YtobpkelblpdajaaGreatDoorTX01
import Derived.Test.YtobpkelblpdajaaGreatDoorTX15
import Derived.Lib.ItoaMem
import Derived.Lib.AppendIntMem
import Derived.Laws.Slices
set_option linter.unusedVariables false
set_option linter.unusedSimpArgs false
set_option linter.unusedSectionVars false
namespace Go.Proofs.YtobpkelblpdajaaGreatDoor
open Go Go.RowKit Go.Sort Go.Lib
def Pow (w : World) : Prop := 4 < w.heap.size ∧ Lib.TabIs Tryz.prog w "internal/strconv.uint64pow10" .u64 Lib.pow10Tab
theorem Tryz.gPow : Tryz.prog.globalNamed "internal/strconv.uint64pow10" = some 4 := by kernel_rfl
theorem Pow.below {w w' : World} {B : Nat} (h : Pow w) (hb : Below B w w') (hB : 4 < B) : Pow w' := by
  refine ⟨Nat.lt_of_lt_of_le h.1 hb.size, ?_⟩
  have h2 := h.2
  unfold Lib.TabIs World.var? at h2 ⊢
  rw [Tryz.gPow] at h2 ⊢
  simp only [Option.bind_some] at h2 ⊢
  rw [hb.block _ hB]
  exact h2
def TextPost (l : List UInt8) (w : World) (e : Ending) (w' : World) : Prop := e = .returned (.string ⟨l.toArray⟩) ∧ Below w.heap.size w w'
theorem holds_zero0 (w : World) (T : TypeId) (nd : Nat) (hs : nd ≤ 24) : Holds (fun (b : UInt8) => Value.int .u8 (b.toNat : Int)) (w.alloc (.cells zeros24 T)) w.heap.size 0 (Array.replicate nd (0 : UInt8)) := fun j hj => by
  have hj' : j < nd := by simpa using hj
  refine ⟨?_, World.frozen?_alloc_new _ _ _ _⟩
  rw [World.cell?_alloc_new, zeros24_at _ (by omega), getElem!_pos _ j hj]
  simp
theorem fin_pos0 (w : World) (o : Obj) (dk : Array UInt8) (k : Nat) : ∃ os, (putRow (fun (b : UInt8) => Value.int .u8 (b.toNat : Int)) (w.alloc o) w.heap.size 0 dk).drewN k = grow (w.drewN k) os := by
  rw [alloc_eq_grow]
  obtain ⟨os', _, e⟩ := putRow_grow_new (fun (b : UInt8) => Value.int .u8 (b.toNat : Int)) w #[o] w.heap.size 0 dk (Nat.le_refl _)
  exact ⟨os', by rw [e]; rfl⟩
theorem nDigits_le {u : Nat} (hu1 : 1 ≤ u) (hu64 : u < 18446744073709551616) : Lib.nDigits u ≤ 20 := by have := Lib.numDigits_eq u hu1 hu64; split at this <;> omega
set_option maxHeartbeats 6400000 in
set_option maxRecDepth 100000 in
theorem funt10 (u : Nat) (hu64 : u < 18446744073709551616) (w : World) (hp : Pow w) : Calls Tryz.prog 186 #[.int .u64 u, .int .i64 10] w (TextPost (Lib.decDigits u) w) := by
  have htab := hp.2
  clear hp
  by_cases hs : u < 100
  · have HS := Lib.hid (Tryz.internal_strconv_small u hs w)
    have h1 : IntKind.i64.wrap (u : Int) = u := by rw [IntKind.wrap_i64]; omega
    clear htab
    go_enter Tryz.func186, Tryz.ntmps186
    go_wp2_with fail
    refine HS.out.mono ?_
    rintro e w1 ⟨rfl, rfl⟩
    go_wp2
    go_ret
    exact ⟨rfl, Below.refl _ _⟩
  · have hu1 : 1 ≤ u := by omega
    have hnd20 := nDigits_le hu1 hu64
    have hal : Tryz.prog.arrayLen 341 = 24 := by kernel_rfl
    have hsl1 : ∀ W, (Instr.sliceAt 341 (.pointer (some ⟨w.heap.size, 0, none⟩)) none (some (.int .i64 (Lib.nDigits u : Int))) none).run Tryz.prog W = .ok (.slice (some ⟨w.heap.size, 0, none⟩) (Lib.nDigits u) 24) W := fun W => by
      rw [run_sliceAt_array_h W 341 ⟨w.heap.size, 0, none⟩ (by simp [Program.arrayLen, Program.elem, Tryz.underlying341]) .i64 (Lib.nDigits u : Int) (by omega) (by rw [hal]; omega)]
      go_simp
    have hH0 := holds_zero0 w 341 (Lib.nDigits u) (by omega)
    have hfmt := Tryz.internal_strconv_formatBase10 w.heap.size 0 24 u (Array.replicate (Lib.nDigits u) 0) (w.alloc (.cells Lib.zeros24 341)) hH0 (by rw [Array.size_replicate]; exact Lib.lt_pow_nDigits u) hu64 (by rw [Array.size_replicate]; omega)
    rw [Array.size_replicate] at hfmt
    have HH0 := Lib.hid hH0
    have HF0 := Lib.hid hfmt
    have HND := Lib.hid (Tryz.internal_strconv_numDigits u hu1 hu64 (w.alloc (.cells Lib.zeros24 341)) (Lib.tabIs_alloc htab _))
    clear hH0 hal hfmt htab
    go_enter Tryz.func186, Tryz.ntmps186
    go_wp2_with fail
    refine HND.out.mono ?_
    rintro e w' ⟨rfl, rfl⟩
    go_wp2_with fail
    refine HF0.out.mono ?_
    rintro e w' ⟨rfl, k, v', dk, rfl, hF⟩
    have hcv : (convert 23 9 (.slice (some ⟨w.heap.size, 0, none⟩) (Lib.nDigits u) 24)).run Tryz.prog ((putRow (fun (b : UInt8) => Value.int .u8 (b.toNat : Int)) (w.alloc (.cells Lib.zeros24 341)) w.heap.size 0 dk).drewN k) = .ok (.string ⟨(Lib.decDigits u).toArray⟩) ((putRow (fun (b : UInt8) => Value.int .u8 (b.toNat : Int)) (w.alloc (.cells Lib.zeros24 341)) w.heap.size 0 dk).drewN k) := by
      have h := run_convert_bytes_back (P := Tryz.prog) ((putRow (fun (b : UInt8) => Value.int .u8 (b.toNat : Int)) (w.alloc (.cells Lib.zeros24 341)) w.heap.size 0 dk).drewN k) 23 9 5 ⟨w.heap.size, 0, none⟩ 24 (Lib.decDigits u) Tryz.underlying23 Tryz.underlying5 Tryz.underlying9 (fun j hj => by
        rw [Lib.row_is_numeral hF j hj, Lib.add_plain, World.cell?_drewN]
        exact cell?_putRow (fun (b : UInt8) => Value.int .u8 (b.toNat : Int)) _ w.heap.size 0 _ dk HH0.out (by rw [hF.size, Array.size_replicate]) j (by rw [hF.size]; rw [Lib.decDigits_length] at hj; exact hj))
      rw [Lib.decDigits_length] at h
      exact h
    clear hF
    go_wp2
    go_ret
    obtain ⟨os, eo⟩ := fin_pos0 w (.cells Lib.zeros24 341) dk k
    refine ⟨rfl, ?_⟩
    rw [eo]
    exact below_grow _ _ (Nat.le_refl _) _ _
set_option maxHeartbeats 1000000 in
set_option maxRecDepth 100000 in
theorem Funt10 (u : Nat) (hu64 : u < 18446744073709551616) (w : World) (hp : Pow w) : Calls Tryz.prog 130 #[.int .u64 u, .int .i64 10] w (TextPost (Lib.decDigits u) w) := by
  have H := Lib.hid (funt10 u hu64 w hp)
  go_enter Tryz.func130, Tryz.ntmps130
  go_wp2_with fail
  refine H.out.mono ?_
  rintro e w1 ⟨rfl, hb⟩
  go_wp2
  go_ret
  exact ⟨rfl, hb⟩
theorem fint10 (n : Int) (h0 : -9223372036854775808 ≤ n) (h1 : n ≤ 9223372036854775807) (w : World) (hp : Pow w) : Calls Tryz.prog 210 #[.int .i64 n, .int .i64 10] w (TextPost (Lib.itoa n) w) := by
  refine (Tryz.internal_strconv_FormatInt_10 n h0 h1 w hp.2).mono ?_
  rintro e w' ⟨rfl, k, os, rfl⟩
  exact ⟨rfl, below_grow _ _ (Nat.le_refl _) _ _⟩
set_option maxHeartbeats 1000000 in
set_option maxRecDepth 100000 in
theorem Fint10 (n : Int) (h0 : -9223372036854775808 ≤ n) (h1 : n ≤ 9223372036854775807) (w : World) (hp : Pow w) : Calls Tryz.prog 150 #[.int .i64 n, .int .i64 10] w (TextPost (Lib.itoa n) w) := by
  have H := Lib.hid (fint10 n h0 h1 w hp)
  go_enter Tryz.func150, Tryz.ntmps150
  go_wp2_with fail
  refine H.out.mono ?_
  rintro e w1 ⟨rfl, hb⟩
  go_wp2
  go_ret
  exact ⟨rfl, hb⟩
theorem Itoa10 (n : Int) (h0 : -9223372036854775808 ≤ n) (h1 : n ≤ 9223372036854775807) (w : World) (hp : Pow w) : Calls Tryz.prog 155 #[.int .i64 n] w (TextPost (Lib.itoa n) w) := by
  refine (Tryz.strconv_Itoa n h0 h1 w hp.2).mono ?_
  rintro e w' ⟨rfl, k, os, rfl⟩
  exact ⟨rfl, below_grow _ _ (Nat.le_refl _) _ _⟩
def truB : List UInt8 := [116, 114, 117, 101]
def falB : List UInt8 := [102, 97, 108, 115, 101]
set_option maxHeartbeats 1000000 in
set_option maxRecDepth 100000 in
theorem fbool (b : Bool) (w : World) : Calls Tryz.prog 209 #[.bool b] w (TextPost (if b = true then truB else falB) w) := by
  cases b
  · go_enter Tryz.func209, Tryz.ntmps209
    go_wp2
    go_ret
    exact ⟨rfl, Below.refl _ _⟩
  · go_enter Tryz.func209, Tryz.ntmps209
    go_wp2
    go_ret
    exact ⟨rfl, Below.refl _ _⟩
set_option maxHeartbeats 1000000 in
set_option maxRecDepth 100000 in
theorem Fbool (b : Bool) (w : World) : Calls Tryz.prog 149 #[.bool b] w (TextPost (if b = true then truB else falB) w) := by
  have H := Lib.hid (fbool b w)
  cases b
  · go_enter Tryz.func149, Tryz.ntmps149
    go_wp2_with fail
    refine H.out.mono ?_
    rintro e w1 ⟨rfl, hb⟩
    go_wp2
    go_ret
    exact ⟨rfl, hb⟩
  · go_enter Tryz.func149, Tryz.ntmps149
    go_wp2_with fail
    refine H.out.mono ?_
    rintro e w1 ⟨rfl, hb⟩
    go_wp2
    go_ret
    exact ⟨rfl, hb⟩
end Go.Proofs.YtobpkelblpdajaaGreatDoor
