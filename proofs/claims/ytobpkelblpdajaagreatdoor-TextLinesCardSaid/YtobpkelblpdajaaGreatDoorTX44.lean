/- Walks: the parser: records. -/
import Derived.Test.YtobpkelblpdajaaGreatDoorTX43
import Derived.Test.YtobpkelblpdajaaGreatDoorTX40
import Derived.Test.YtobpkelblpdajaaGreatDoorTX39
import Derived.Test.YtobpkelblpdajaaGreatDoorTX10
import Derived.Defers
import Derived.Recover
set_option linter.unusedVariables false
set_option linter.unusedSimpArgs false
set_option linter.unusedSectionVars false
namespace Go.Proofs.YtobpkelblpdajaaGreatDoor
open Go Go.RowKit
def recR (cls : ByteArray) (ver : Int) (r : Except (Nat × Nat) (List (ByteArray × V) × Nat × Nat)) : Rd1 := match r with | .error z => .error z | .ok (l, q, m) => .ok (.record cls ver l, q, m)
theorem hasSlash {s : ByteArray} {q : Nat} {c : UInt8} (hc : s.data.toList[q]? = some c) : Lib.hasPrefix (s.extract q s.size).data.toList [47] = (c == 47) := by
  rw [rest_toList]
  have hlt := (List.getElem?_eq_some_iff.1 hc).1
  rw [List.drop_eq_getElem_cons hlt]
  rw [List.getElem?_eq_getElem hlt] at hc
  injection hc with hc
  rw [hc]
  unfold Lib.hasPrefix
  generalize s.data.toList.drop (q + 1) = t
  rw [List.isPrefixOf_cons_cons, List.isPrefixOf_nil_left, Bool.and_true, Bool.beq_comm]
set_option maxRecDepth 100000 in
set_option maxHeartbeats 4000000 in
theorem word_rec (s : ByteArray) (dp a n q1 q2 q3 : Nat) (ver : Int) (cls : ByteArray) (r : Except (Nat × Nat) (List (ByteArray × V) × Nat × Nat)) (ha : a ≤ s.size) (hs : s.size ≤ 140737488351232) (hcls : cls.data.toList = wordW s.data.toList a) (hn : isNameB cls.data.toList = true) (hq1 : q1 = a + runN wordL s.data.toList a) (h47 : s.data.toList[q1]? = some 47) (hv : verP s.data.toList (q1 + 1) = .ok (ver, q2)) (hvr : 1 ≤ ver ∧ ver ≤ 1000) (hq2 : q2 ≤ s.size) (hq3 : q3 = skipN s.data.toList q2) (h123 : s.data.toList[q3]? = some 123) (hd : DictC s dp q3 n (dictR r)) : MethD 137 s dp a n (recR cls ver r) := by
  intro bp w h he
  have hsz := size_list s
  have hq1s : q1 < s.size := by have := (List.getElem?_eq_some_iff.1 h47).1; omega
  have hcz : cls.size ≤ 32 := by rw [← size_list]; exact (isName_ne hn).2
  have hrl := runN_le (p := wordL) (L := s.data.toList) (a := a) (by omega)
  have hc2 : cls = s.extract a q1 := by
    have h1 : (s.extract a (a + runN wordL s.data.toList a)).data.toList = cls.data.toList := by rw [run_slice _ _ _ (by omega), hcls]; rfl
    rw [hq1]
    cases hx : s.extract a (a + runN wordL s.data.toList a) with
    | mk d =>
      rw [hx] at h1
      cases cls with
      | mk d2 =>
        cases d with | mk l => cases d2 with | mk l2 => simp at h1; rw [h1]
  have HRun := Lib.hid (run_any bp s ⟨wordL.toArray⟩ a n w h ha hs)
  unfold RunPost at HRun
  rw [show (⟨wordL.toArray⟩ : ByteArray).data.toList = wordL by rfl, ← hq1, ← hc2] at HRun
  unfold wordL at HRun
  have HPf := Lib.hid (fun (W : World) => (by have := Tryz.strings_HasPrefix (s.extract q1 s.size) ⟨#[47]⟩ W; rw [show (⟨#[47]⟩ : ByteArray).data.toList = [47] by rfl, hasSlash h47] at this; exact this : Calls Tryz.prog 188 #[.string (s.extract q1 s.size), .string ⟨#[47]⟩] W (fun e w' => e = .returned (.bool true) ∧ w' = W)))
  have HIs := Lib.hid (fun (W : World) => (by have := isName_any cls W (by omega); rw [hn] at this; exact this : Calls Tryz.prog 196 #[.string cls] W (fun e w' => e = .returned (.bool true) ∧ W = w')))
  have HVer := Lib.hid (fun (W : World) (hp : PaAt W bp s (q1 + 1) n) (hpe : Penv W bp) => (by have := version_any bp s (q1 + 1) n W hp (by omega) hs hpe.errs hpe.n2 hpe.n3; rw [hv] at this; exact this : Calls Tryz.prog 197 #[.pointer (some ⟨bp, 0, none⟩)] W (VerPost bp s n (.ok (ver, q2)) W)))
  have HNx := Lib.hid (fun (W : World) (hp : PaAt W bp s q2 n) => (by have := next_any bp s q2 n W hp hq2 hs; unfold NextPost at this; rw [← hq3, h123] at this; exact this : Calls Tryz.prog 134 #[.pointer (some ⟨bp, 0, none⟩)] W (fun e w' => e = .returned (.int .u8 ((123 : UInt8).toNat : Int)) ∧ PaAt w' bp s q3 n ∧ Pside bp W w')))
  have HOp := Lib.hid (fun (W : World) (hp : PaAt W bp s q3 n) => (by have := opens_any bp s q3 n 123 W hp h123 hs; unfold OpensPost at this; simp only [if_true] at this; exact this : Calls Tryz.prog 198 #[.pointer (some ⟨bp, 0, none⟩)] W (fun e w' => e = .returned (.tuple #[]) ∧ PaAt w' bp s q3 n ∧ Pside bp W w')))
  have HD := Lib.hid (fun (W : World) (hp : PaAt W bp s q3 n) (hpe : Penv W bp) => (hd bp W hp hpe : Calls Tryz.prog 142 #[.pointer (some ⟨bp, 0, none⟩), .int .i64 dp] W (fun e w' => DPost bp s W e w' (dictR r))))
  have c1 := h.c1
  have hlt := h.lt
  have HE := Lib.hid he
  have hw1 : IntKind.i64.wrap ((q1 : Int) + 1) = (q1 : Int) + 1 := by rw [IntKind.wrap_i64]; omega
  have hq1n : ¬ s.size < q1 := by omega
  have hq1le : q1 ≤ s.size := by omega
  clear h he hcls hn h47 hv h123 hd hq1 hc2 hrl
  go_enter Tryz.func137, Tryz.ntmps137
  go_wp2_with fail
  refine HRun.out.mono ?_
  rintro e w1 ⟨rfl, hpa, hps⟩
  have d0 := hpa.c0
  have d1 := hpa.c1
  have g1 := hpa.f 1
  have hlt1 := hpa.lt
  have HPA := Lib.hid hpa
  have HPS := Lib.hid hps
  clear hpa hps c1
  go_wp2_with fail
  go_quiet (fail)
  go_wp2_with fail
  refine (HPf.out _).mono ?_
  rintro e w2 ⟨rfl, rfl⟩
  go_wp2_with fail
  refine (HIs.out _).mono ?_
  rintro e w2 ⟨rfl, rfl⟩
  have HPA2 := Lib.hid (PaAt.set1' HPA.out nq q1)
  have HPS2 := Lib.hid ((HPS.out.drewN nq).set 1 (.int .i64 ((q1 : Int) + 1)))
  go_wp2_with fail
  refine (HVer.out _ HPA2.out (HE.out.pside HPS2.out)).mono ?_
  rintro e w3 ⟨rfl, hpa3, hps3⟩
  have HPS3 := Lib.hid (HPS2.out.trans hps3)
  have HPA3 := Lib.hid hpa3
  clear hpa3 hps3
  go_wp2_with fail
  refine (HNx.out _ HPA3.out).mono ?_
  rintro e w4 ⟨rfl, hpa4, hps4⟩
  have HPS4 := Lib.hid (HPS3.out.trans hps4)
  have HPA4 := Lib.hid hpa4
  clear hpa4 hps4
  go_wp2_with fail
  refine (HOp.out _ HPA4.out).mono ?_
  rintro e w5 ⟨rfl, hpa5, hps5⟩
  have HPS5 := Lib.hid (HPS4.out.trans hps5)
  have HPA5 := Lib.hid hpa5
  clear hpa5 hps5
  go_wp2_with fail
  refine (HD.out _ HPA5.out (HE.out.pside HPS5.out)).mono ?_
  intro e w6 h6
  cases r with
  | error z =>
    obtain ⟨b, why⟩ := z
    obtain ⟨rfl, h7⟩ := h6
    exact ⟨rfl, rfl, HPS5.out.trans h7⟩
  | ok z =>
    obtain ⟨l, qz, nz⟩ := z
    obtain ⟨⟨v, rfl, hv, hv1⟩, hpa6, hps6⟩ := h6
    obtain ⟨A, c, hvv, hll, hr⟩ := hv
    injection hvv with _ hvv
    subst hvv
    have HPS6 := Lib.hid (HPS5.out.trans hps6)
    have HPA6 := Lib.hid hpa6
    clear hpa6 hps6
    go_wp2_with fail
    go_ret
    have hz6 := HPS6.out.size
    have hb6 : Below w6.heap.size w6 (w6.alloc (.cells #[.string cls, .int .i64 ver, .slice A l.length c] 75)) := (Below.refl _ _).alloc (Nat.le_refl _) _
    have hr6 : DictS (w6.alloc (.cells #[.string cls, .int .i64 ver, .slice A l.length c] 75)) (New w (w6.alloc (.cells #[.string cls, .int .i64 ver, .slice A l.length c] 75))) A l := (DictS.keep (show DictS w6 _ A l from hr) (fun p hp => hb6.cell hp.2)).more (fun b hb => ⟨Nat.le_trans HPS5.out.size hb.1, Nat.lt_of_lt_of_le hb.2 hb6.size⟩)
    have hc := Lib.cell_of_heap (heap_alloc_new w6 (.cells #[.string cls, .int .i64 ver, .slice A l.length c] 75))
    exact v_ok rfl rfl ⟨w6.heap.size, rfl, ⟨hz6, by simp⟩, by omega, by rw [hc]; rfl, by rw [hc]; rfl, by omega, by omega, A, c, by rw [hc]; rfl, hll, hr6⟩ (HPA6.out.alloc _) (HPS6.out.alloc _)
end Go.Proofs.YtobpkelblpdajaaGreatDoor
/- What the parser reads of the document's two examples. -/
namespace Go.Proofs.YtobpkelblpdajaaGreatDoor
open Go Go.RowKit
def lvS : ByteArray := ⟨#[32, 91, 32, 49, 32, 44, 32, 112, 101, 114, 115, 111, 110, 47, 50, 123, 97, 58, 32, 35, 125, 32, 93, 32]⟩
def lvT : ByteArray := ⟨#[91, 49, 44, 93]⟩
def lvL : List UInt8 := [32, 91, 32, 49, 32, 44, 32, 112, 101, 114, 115, 111, 110, 47, 50, 123, 97, 58, 32, 35, 125, 32, 93, 32]
def lvM : List UInt8 := [91, 49, 44, 93]
theorem lvS_list : lvS.data.toList = lvL := rfl
theorem lvT_list : lvT.data.toList = lvM := rfl
theorem lvS_size : lvS.size = 24 := rfl
theorem lvT_size : lvT.size = 4 := rfl
theorem one_int (s : ByteArray) (a n : Nat) (ha : a ≤ s.size) (hs : s.size ≤ 140737488351232) (h1 : numW s.data.toList a = [49]) (h2 : runN numL s.data.toList a = 1) : MethC 136 s a n (.ok (.int 1, a + 1, n)) := fun bp w h he => by
  have := number_int bp s a n 1 w h ha hs he.pow he.n4 (by unfold i64B; omega) (by rw [h1]; rfl) (by rw [h1]; show Lib.decDigits 1 = [49]; exact Lib.decDigits_one (by omega))
  rw [h2] at this
  exact this
theorem lv_num : PvalC lvS 2 3 1 (.ok (.int 1, 4, 2)) := by
  refine pv_digit lvS 2 3 1 49 _ (by rw [lvS_size]; omega) (by rw [lvS_size]; omega) (by rw [lvS_list]; decide) (by omega) (by omega) (by decide) ?_
  rw [lvS_list, show skipN lvL 3 = 3 by decide]
  exact one_int lvS 3 2 (by rw [lvS_size]; omega) (by rw [lvS_size]; omega) (by rw [lvS_list]; decide) (by rw [lvS_list]; decide)
theorem lv_bytes : PvalC lvS 3 18 3 (.ok (.bytes [], 20, 4)) := by
  refine pv_bytes lvS 3 18 3 _ (by rw [lvS_size]; omega) (by rw [lvS_size]; omega) (by rw [lvS_list]; decide) (by omega) (by omega) ?_
  rw [lvS_list, show skipN lvL 18 = 19 by decide]
  intro bp w h he
  have := bytes_any bp lvS 19 4 w h (by rw [lvS_size]; omega) (by rw [lvS_size]; omega)
  rw [lvS_list, show bytesP lvL 19 4 = .ok (.bytes [], 20, 4) from rfl] at this
  exact this
theorem lv_dict : DictC lvS 2 15 3 (dictR (.ok ([(⟨#[97]⟩, .bytes [])], 21, 4))) := by
  refine dict_meth lvS 2 15 3 _ (by rw [lvS_size]; omega) (by rw [lvS_size]; omega) (by omega) (.inr (.inr ⟨1, 97, by rw [lvS_list]; decide, by decide, ?_⟩)) (fun l q m h => by injection h with h; injection h with h _; subst h; simp)
  rw [lvS_list, show skipN lvL (15 + 1) = 16 by decide]
  have hP : FieldP lvS 2 [] 16 3 (.ok ([(⟨#[97]⟩, .bytes [])], 20, 4)) := ⟨97, ⟨#[97]⟩, 17, 17, .ok (.bytes [], 20, 4), by rw [lvS_list]; decide, by rw [lvS_list]; decide, by decide, by rw [lvS_list]; decide, by rw [lvS_list]; decide, by rw [lvS_list]; decide, by simp, fun p h => by simp at h, lv_bytes, fun x q m h => by injection h with h; injection h with _ h; injection h with h _; subst h; rw [lvS_size]; omega, rfl⟩
  have := Many.shut (k := 0) (shut := 125) hP (show lvL[skipN lvL 20]? = some 125 by decide) (by decide)
  rw [show skipN lvL 20 + 1 = 21 by decide] at this
  exact this
theorem lv_rec7 : PvalC lvS 2 7 2 (.ok (.record ⟨#[112, 101, 114, 115, 111, 110]⟩ 2 [(⟨#[97]⟩, .bytes [])], 21, 4)) := by
  refine pv_word lvS 2 7 2 112 _ (by rw [lvS_size]; omega) (by rw [lvS_size]; omega) (by rw [lvS_list]; decide) (by omega) (by omega) (by decide) (by decide) ?_
  rw [lvS_list, show skipN lvL 7 = 7 by decide]
  exact word_rec lvS 2 7 3 13 15 15 2 ⟨#[112, 101, 114, 115, 111, 110]⟩ (.ok ([(⟨#[97]⟩, .bytes [])], 21, 4)) (by rw [lvS_size]; omega) (by rw [lvS_size]; omega) (by rw [lvS_list]; decide) (by decide) (by rw [lvS_list]; decide) (by rw [lvS_list]; decide) (by
    rw [lvS_list]
    have := verP_ok (L := lvL) (a := 14) (l := [50]) (v := 2) (by decide) (by decide) (by decide) rfl (by omega)
    rw [show 14 + runN decL lvL 14 = 15 by decide] at this
    exact this) (by omega) (by rw [lvS_size]; omega) (by rw [lvS_list]; decide) (by rw [lvS_list]; decide) lv_dict
theorem lv_first : PvalC lvS 1 0 0 (.ok (.list [.int 1, .record ⟨#[112, 101, 114, 115, 111, 110]⟩ 2 [(⟨#[97]⟩, .bytes [])]], 23, 4)) := by
  refine pv_list lvS 1 0 0 _ (by rw [lvS_size]; omega) (by rw [lvS_size]; omega) (by rw [lvS_list]; decide) (by omega) (by omega) ?_
  rw [lvS_list, show skipN lvL 0 = 1 by decide]
  refine list_meth lvS 1 1 1 (.ok ([.int 1, .record ⟨#[112, 101, 114, 115, 111, 110]⟩ 2 [(⟨#[97]⟩, .bytes [])]], 23, 4)) (by rw [lvS_size]; omega) (by rw [lvS_size]; omega) (by omega) (.inr (.inr ⟨2, 49, by rw [lvS_list]; decide, by decide, ?_⟩)) (fun l q m h => by injection h with h; injection h with h _; subst h; simp)
  rw [lvS_list, show skipN lvL (1 + 1) = 3 by decide]
  have h1 : ListP lvS 1 [] 3 1 (.ok ([.int 1], 4, 2)) := ⟨49, .ok (.int 1, 4, 2), by rw [lvS_list]; decide, by simp, by rw [lvS_list, show skipN lvL 3 = 3 by decide]; exact lv_num, fun x q m h => by injection h with h; injection h with _ h; injection h with h _; subst h; rw [lvS_size]; omega, rfl⟩
  have h2 : ListP lvS 1 [.int 1] 6 2 (.ok ([.int 1, .record ⟨#[112, 101, 114, 115, 111, 110]⟩ 2 [(⟨#[97]⟩, .bytes [])]], 21, 4)) := ⟨112, .ok (.record ⟨#[112, 101, 114, 115, 111, 110]⟩ 2 [(⟨#[97]⟩, .bytes [])], 21, 4), by rw [lvS_list]; decide, by simp, by rw [lvS_list, show skipN lvL 6 = 7 by decide]; exact lv_rec7, fun x q m h => by injection h with h; injection h with _ h; injection h with h _; subst h; rw [lvS_size]; omega, rfl⟩
  have h3 := Many.shut (k := 0) (shut := 93) h2 (show lvL[skipN lvL 21]? = some 93 by decide) (by decide)
  rw [show skipN lvL 21 + 1 = 23 by decide] at h3
  exact Many.more h1 (show lvL[skipN lvL 4]? = some 44 by decide) (by rw [show skipN lvL 4 + 1 = 6 by decide]; exact h3)
theorem lv_bad : PvalC lvT 1 0 0 (.error (3, 3)) := by
  refine pv_list lvT 1 0 0 _ (by rw [lvT_size]; omega) (by rw [lvT_size]; omega) (by rw [lvT_list]; decide) (by omega) (by omega) ?_
  rw [lvT_list, show skipN lvM 0 = 0 by decide]
  refine list_meth lvT 1 0 1 (.error (3, 3)) (by rw [lvT_size]; omega) (by rw [lvT_size]; omega) (by omega) (.inr (.inr ⟨2, 49, by rw [lvT_list]; decide, by decide, ?_⟩)) (fun l q m h => by cases h)
  rw [lvT_list, show skipN lvM (0 + 1) = 1 by decide]
  have h1 : ListP lvT 1 [] 1 1 (.ok ([.int 1], 2, 2)) := ⟨49, .ok (.int 1, 2, 2), by rw [lvT_list]; decide, by simp, by
    rw [lvT_list, show skipN lvM 1 = 1 by decide]
    refine pv_digit lvT 2 1 1 49 _ (by rw [lvT_size]; omega) (by rw [lvT_size]; omega) (by rw [lvT_list]; decide) (by omega) (by omega) (by decide) ?_
    rw [lvT_list, show skipN lvM 1 = 1 by decide]
    exact one_int lvT 1 2 (by rw [lvT_size]; omega) (by rw [lvT_size]; omega) (by rw [lvT_list]; decide) (by rw [lvT_list]; decide), fun x q m h => by injection h with h; injection h with _ h; injection h with h _; subst h; rw [lvT_size]; omega, rfl⟩
  have h2 : ListP lvT 1 [.int 1] 3 2 (.error (3, 3)) := ⟨93, .error (3, 3), by rw [lvT_list]; decide, by simp, by
    rw [lvT_list, show skipN lvM 3 = 3 by decide]
    have := pv_none lvT 2 3 2 93 (by rw [lvT_size]; omega) (by rw [lvT_size]; omega) (by rw [lvT_list]; decide) (by omega) (by omega) (by decide) (by decide) (by decide)
    rw [lvT_list, show skipN lvM 3 = 3 by decide] at this
    exact this, (fun x q m h => by cases h), rfl⟩
  exact Many.more h1 (show lvM[skipN lvM 2]? = some 44 by decide) (by rw [show skipN lvM 2 + 1 = 3 by decide]; exact Many.bad (k := 0) h2)
end Go.Proofs.YtobpkelblpdajaaGreatDoor
/- Walks: what text.parsed defers; the closures of Parse and First. -/
namespace Go.Proofs.YtobpkelblpdajaaGreatDoor
open Go Go.RowKit
theorem ta1_pfault {w : World} {X : TypeId} {x : Value} : (Instr.typeAssert (.iface 245 x) X 245 false).run Tryz.prog w = .ok x w := run_ta1 w Tryz.underlying245 (fun _ h => by cases h)
set_option maxRecDepth 100000 in
set_option maxHeartbeats 1000000 in
theorem pcatch_idle (p0 p1 p2 : Addr) (w : World) :
    CallsD Tryz.prog 133 #[.pointer (some p0), .pointer (some p1), .pointer (some p2)] .returning w fun e u' w' => e = .returned (.tuple #[]) ∧ u' = .returning ∧ w' = w := by
  refine callsD_of_wpS Tryz.func133 rfl fun c₀ cs hu => ?_
  apply wpS_seq
  apply wpS_region
  simp [wpOpsS, go_sem, recoverD, hu, Tryz.ntmps133, Exit.thenS]
  refine wpS_of_wp ?_
  go_wp2
  cases c₀
  simp_all [bodyPostS, results, Tryz.results133]
set_option maxRecDepth 100000 in
set_option maxHeartbeats 1000000 in
theorem pcatch_fault (b : Nat) (a : Nat) (why : Nat) (w : World) (u0 u1 u2 : Value) (hb : b + 2 < w.heap.size) (h0 : w.cell? ⟨b, 0, none⟩ = some u0) (f0 : w.frozen? ⟨b, 0, none⟩ = false) (h1 : w.cell? ⟨b + 1, 0, none⟩ = some u1) (f1 : w.frozen? ⟨b + 1, 0, none⟩ = false) (h2 : w.cell? ⟨b + 1 + 1, 0, none⟩ = some u2) (f2 : w.frozen? ⟨b + 1 + 1, 0, none⟩ = false) :
    CallsD Tryz.prog 133 #[.pointer (some ⟨b, 0, none⟩), .pointer (some ⟨b + 1, 0, none⟩), .pointer (some ⟨b + 1 + 1, 0, none⟩)] (.panicking [{ v := pfaultV a why, recovered := false }]) w fun e u' w' =>
      e = .returned (.tuple #[]) ∧ u' = .panicking [{ v := pfaultV a why, recovered := true }] ∧ w'.cell? ⟨b, 0, none⟩ = some .nilIface ∧ w'.cell? ⟨b + 1, 0, none⟩ = some (.int .i64 a) ∧ w'.cell? ⟨b + 1 + 1, 0, none⟩ = some (.int .i64 why) ∧ Below b w w' := by
  unfold pfaultV
  refine callsD_of_wpS Tryz.func133 rfl fun c₀ cs hu => ?_
  apply wpS_seq
  apply wpS_region
  simp [wpOpsS, go_sem, recoverD, hu, Tryz.ntmps133, Exit.thenS]
  refine wpS_of_wp ?_
  have k0 := fun (W : World) (X : TypeId) (x : Value) => ta1_pfault (w := W) (X := X) (x := x)
  have hb0 : b < w.heap.size := by omega
  have hb1 : b + 1 < w.heap.size := by omega
  have hb2 : b + 1 + 1 < w.heap.size := by omega
  change Code.wp _ _ _ { tmps := #[.pointer (some ⟨b, 0, none⟩), .pointer (some ⟨b + 1, 0, none⟩), .pointer (some ⟨b + 1 + 1, 0, none⟩), .iface 245 (.agg #[.int .i64 a, .int .i64 why]), undef, .iface 245 (.agg #[.int .i64 a, .int .i64 why]), undef, undef, undef, undef, undef, undef, undef, undef], defers := [] } _
  go_wp2
  go_region
  have c0 : (((w.setCell ⟨b, 0, none⟩ .nilIface).setCell ⟨b + 1, 0, none⟩ (.int .i64 a)).setCell ⟨b + 1 + 1, 0, none⟩ (.int .i64 why)).cell? ⟨b, 0, none⟩ = some .nilIface := by
    rw [World.cell?_setCell_other _ _ _ _ (by intro h; injection h with h; omega), World.cell?_setCell_other _ _ _ _ (by intro h; injection h with h; omega)]
    exact World.cell?_setCell_same _ _ _ h0
  have c1 : (((w.setCell ⟨b, 0, none⟩ .nilIface).setCell ⟨b + 1, 0, none⟩ (.int .i64 a)).setCell ⟨b + 1 + 1, 0, none⟩ (.int .i64 why)).cell? ⟨b + 1, 0, none⟩ = some (.int .i64 a) := by
    rw [World.cell?_setCell_other _ _ _ _ (by intro h; injection h with h; omega)]
    exact World.cell?_setCell_same _ _ _ ((World.cell?_setCell_other _ _ _ _ (by intro h; injection h with h; omega)).trans h1)
  have c2 : (((w.setCell ⟨b, 0, none⟩ .nilIface).setCell ⟨b + 1, 0, none⟩ (.int .i64 a)).setCell ⟨b + 1 + 1, 0, none⟩ (.int .i64 why)).cell? ⟨b + 1 + 1, 0, none⟩ = some (.int .i64 why) :=
    World.cell?_setCell_same _ _ _ ((World.cell?_setCell_other _ _ _ _ (by intro h; injection h with h; omega)).trans ((World.cell?_setCell_other _ _ _ _ (by intro h; injection h with h; omega)).trans h2))
  have hB : Below b w (((w.setCell ⟨b, 0, none⟩ .nilIface).setCell ⟨b + 1, 0, none⟩ (.int .i64 a)).setCell ⟨b + 1 + 1, 0, none⟩ (.int .i64 why)) :=
    (((Below.refl b w).setCell (p := ⟨b, 0, none⟩) (Nat.le_refl _) _).setCell (p := ⟨b + 1, 0, none⟩) (Nat.le_succ _) _).setCell (p := ⟨b + 1 + 1, 0, none⟩) (by show b ≤ b + 1 + 1; omega) _
  have hs : (((w.setCell ⟨b, 0, none⟩ .nilIface).setCell ⟨b + 1, 0, none⟩ (.int .i64 a)).setCell ⟨b + 1 + 1, 0, none⟩ (.int .i64 why)).heap.size = w.heap.size := by simp
  generalize ((w.setCell ⟨b, 0, none⟩ .nilIface).setCell ⟨b + 1, 0, none⟩ (.int .i64 a)).setCell ⟨b + 1 + 1, 0, none⟩ (.int .i64 why) = W at *
  have hb3 : Below W.heap.size W (W.alloc (.cells #[.int .i64 a, .int .i64 why] 245)).drew := ((Below.refl _ _).alloc (Nat.le_refl _) _).drew
  exact ⟨rfl, _, rfl, .tuple #[], by simp [results, Tryz.results133], rfl, rfl, (hb3.cell (p := ⟨b, 0, none⟩) (by rw [hs]; exact hb0)).trans c0, (hb3.cell (p := ⟨b + 1, 0, none⟩) (by rw [hs]; exact hb1)).trans c1, (hb3.cell (p := ⟨b + 1 + 1, 0, none⟩) (by rw [hs]; exact hb2)).trans c2, hB.trans (hb3.mono (by rw [hs]; omega))⟩
/- A whole text: nothing may stand behind the value. -/
def wholeR (s : ByteArray) (r : Rd1) : Rd1 := match r with
  | .error z => .error z
  | .ok (x, q, n) => if skipN s.data.toList q < s.size then .error (skipN s.data.toList q, 5) else .ok (x, 0, n)
theorem PaAt.set1z {w : World} {bp : Nat} {s : ByteArray} {a n : Nat} (h : PaAt w bp s a n) : PaAt (w.setCell ⟨bp, 1, none⟩ (.int .i64 0)) bp s 0 n := by have h9 := h.set1 0; simpa using h9
set_option maxRecDepth 100000 in
set_option maxHeartbeats 2000000 in
theorem Parse1_any (s : ByteArray) (hs : s.size ≤ 140737488351232) (r : Rd1) (hr : PvalC s 1 0 0 r) (hq : ∀ x q m, r = .ok (x, q, m) → q ≤ s.size) (bp sc : Nat) (w : World) (h : PaAt w bp s 0 0) (he : Penv w bp) (hsc : w.cell? ⟨sc, 0, none⟩ = some (.string s)) (hne : sc ≠ bp) : Calls Tryz.prog 78 #[.pointer (some ⟨bp, 0, none⟩), .pointer (some ⟨sc, 0, none⟩)] w (VPost bp s (wholeR s r) w) := by
  have HV := Lib.hid (hr bp w h he)
  have hbl := h.lt
  have hscl : sc < w.heap.size := World.block_lt_of_cell? _ _ hsc
  have HF := Lib.hid (fun (a why : Nat) (W : World) => fail_any (.pointer (some ⟨bp, 0, none⟩)) bp a why rfl W)
  have HS := Lib.hid (fun (W : World) (hp : Pside bp w W) => ((hp.cell (p := ⟨sc, 0, none⟩) hscl hne).trans hsc : W.cell? ⟨sc, 0, none⟩ = some (.string s)))
  clear hr h he hsc
  go_enter Tryz.func78, Tryz.ntmps78
  go_wp2_with fail
  refine HV.out.mono ?_
  intro e w1 h1
  cases r with
  | error z =>
    obtain ⟨a, why⟩ := z
    obtain ⟨rfl, h2⟩ := h1
    exact ⟨rfl, rfl, h2⟩
  | ok z =>
    obtain ⟨x, q, n⟩ := z
    have hqs := hq x q n rfl
    obtain ⟨⟨v, rfl, h2⟩, h3, h4⟩ := h1
    have ho := h2.one
    have HB := Lib.hid (blanks_any bp s q n w1 h3 hqs hs)
    have HR := Lib.hid h2
    have HK := Lib.hid h4
    have hle : skipN s.data.toList q ≤ s.size := by have := skipN_le (L := s.data.toList) (a := q) (by rw [size_list]; exact hqs); rwa [size_list] at this
    obtain ⟨z, hz⟩ : ∃ z, z = skipN s.data.toList q := ⟨_, rfl⟩
    rw [← hz] at HB hle
    have HZ := Lib.hid hz
    clear h2 h3 h4 hz HV
    go_wp2_with fail
    refine HB.out.mono ?_
    rintro e w2 ⟨rfl, hp2, hk2⟩
    have c1 := hp2.c1
    have f1 := hp2.f 1
    have c3 := HS.out w2 (HK.out.trans hk2)
    have HP2 := Lib.hid hp2
    have HK2 := Lib.hid (HK.out.trans hk2)
    by_cases hlt : z < s.size
    · have hd1 : decide ((z : Int) < (s.size : Int)) = true := by rw [decide_eq_true_iff]; omega
      have HW : Hid (wholeR s (.ok (x, q, n)) = .error (z, 5)) := Lib.hid (by unfold wholeR; simp only; rw [← HZ.out, if_pos hlt])
      clear hp2 hk2
      go_wp2_with fail
      go_quiet (fail)
      go_wp2_with fail
      refine (HF.out z 5 _).mono ?_
      rintro e w3 ⟨rfl, h5⟩
      exact ⟨rfl, v_bad HW.out ⟨rfl, HK2.out.trans ((Pside.refl _ _).drewN _ |>.trans h5)⟩⟩
    · have hd1 : decide ((z : Int) < (s.size : Int)) = false := by rw [decide_eq_false_iff_not]; omega
      have HW : Hid (wholeR s (.ok (x, q, n)) = .ok (x, 0, n)) := Lib.hid (by unfold wholeR; simp only; rw [← HZ.out, if_neg hlt])
      have HKK := Lib.hid hk2
      clear hp2
      go_wp2_with fail
      go_quiet (fail)
      go_wp2_with fail
      go_ret
      have hps : Pside bp w1 ((w2.drewN nq).setCell ⟨bp, 1, none⟩ (.int .i64 0)) := (HKK.out.drewN nq).set 1 _
      exact v_ok HW.out rfl (RdS.more (fun b hb => ⟨hb.1, Nat.lt_of_lt_of_le hb.2 hps.size⟩) _ _ (RdS.keep (fun p hp => hps.cell hp.2 (by have := hp.1; omega)) _ _ HR.out)) (HP2.out.drewN nq).set1z ((HK2.out.drewN nq).set 1 _)
end Go.Proofs.YtobpkelblpdajaaGreatDoor
