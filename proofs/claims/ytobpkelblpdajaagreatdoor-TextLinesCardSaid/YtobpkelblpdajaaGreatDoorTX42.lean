/- Walk: the parser: one field of a dict. -/
import Derived.Test.YtobpkelblpdajaaGreatDoorTX41
set_option linter.unusedVariables false
set_option linter.unusedSimpArgs false
set_option linter.unusedSectionVars false
namespace Go.Proofs.YtobpkelblpdajaaGreatDoor
open Go Go.RowKit
theorem OwnD.pside {F : Nat → Prop} {w w2 : World} {B bp : Nat} {v : Value} {l : List (ByteArray × V)} (h : OwnD F w B v l) (hp : Pside bp w w2) (hb : bp < B) (hF : ∀ b, F b → b ≠ bp) : OwnD F w2 B v l := by
  obtain ⟨xs, ho, hx⟩ := h
  refine ⟨xs, World.ownsRow.kept ho (row := some bp) ⟨hp.os, hp.tape, hp.output, hp.size, fun k hk hn => hp.block k hk (fun e => hn (by rw [e]))⟩ (Or.inr (fun e => by have := (World.ownsRow.lt ho bp e).1; omega)), fun i x hi => ?_⟩
  obtain ⟨h1, h2, u, hu, hr⟩ := hx i x hi
  exact ⟨h1, h2, u, hu, RdS.more (fun b hb' => ⟨hb'.1, Nat.lt_of_lt_of_le hb'.2.1 hp.size, hb'.2.2⟩) _ _ (RdS.keep (fun p hp2 => hp.cell hp2.2.1 (hF _ hp2.1)) _ _ hr)⟩
theorem OwnD.set {F : Nat → Prop} {w : World} {B k o : Nat} {v u : Value} {l : List (ByteArray × V)} (h : OwnD F w B v l) (hne : v.ownBlock ≠ some k) (hF : ∀ b, F b → b ≠ k) : OwnD F (w.setCell ⟨k, o, none⟩ u) B v l := by
  obtain ⟨xs, ho, hx⟩ := h
  have hp : Pside k w (w.setCell ⟨k, o, none⟩ u) := (Pside.refl k w).set o u
  refine ⟨xs, World.ownsRow.kept ho (row := some k) ⟨hp.os, hp.tape, hp.output, hp.size, fun j hj hn => hp.block j hj (fun e => hn (by rw [e]))⟩ (Or.inr hne), fun i x hi => ?_⟩
  obtain ⟨h1, h2, y, hy, hr⟩ := hx i x hi
  exact ⟨h1, h2, y, hy, RdS.more (fun b hb' => ⟨hb'.1, Nat.lt_of_lt_of_le hb'.2.1 hp.size, hb'.2.2⟩) _ _ (RdS.keep (fun p hp2 => hp.cell hp2.2.1 (hF _ hp2.1)) _ _ hr)⟩
def wordL : List UInt8 := [97, 98, 99, 100, 101, 102, 103, 104, 105, 106, 107, 108, 109, 110, 111, 112, 113, 114, 115, 116, 117, 118, 119, 120, 121, 122, 48, 49, 50, 51, 52, 53, 54, 55, 56, 57, 95]
def wordW (L : List UInt8) (a : Nat) : List UInt8 := (L.drop a).take (runN wordL L a)
/- A dict that is being read. -/
structure FSt (w0 w : World) (bp cp lc cd dp : Nat) (acc : List (ByteArray × V)) : Prop where
  fr : Pside bp w0 w
  hcp : w.heap[cp]? = some (.cells #[.pointer (some ⟨bp, 0, none⟩)] 166 (0, 0))
  hcd : w.heap[cd]? = some (.cells #[.int .i64 dp] 3 (0, 0))
  hl : ∃ v, w.heap[lc]? = some (.cells #[v] 41 (0, 0)) ∧ OwnD (fun b => lc < b) w w0.heap.size v acc
  o1 : w0.heap.size ≤ cp ∧ cp < lc
  o2 : w0.heap.size ≤ cd ∧ cd < lc
  o3 : bp < w0.heap.size
theorem FSt.pside {w0 w w2 : World} {bp cp lc cd dp : Nat} {acc : List (ByteArray × V)} (h : FSt w0 w bp cp lc cd dp acc) (hp : Pside bp w w2) : FSt w0 w2 bp cp lc cd dp acc := by
  obtain ⟨fr, hcp, hcd, ⟨v, hl, ho⟩, o1, o2, o3⟩ := h
  have lt := fun {k : Nat} {o : Obj} (hk : w.heap[k]? = some o) => (Array.getElem?_eq_some_iff.1 hk).1
  exact ⟨fr.trans hp, (hp.block cp (lt hcp) (by omega)).trans hcp, (hp.block cd (lt hcd) (by omega)).trans hcd, ⟨v, (hp.block lc (lt hl) (by omega)).trans hl, ho.pside hp o3 (fun b hb e => by subst e; omega)⟩, o1, o2, o3⟩
def KeepF (bp cp lc cd dp : Nat) (v : Value) (W : World) : Prop := W.heap[cp]? = some (.cells #[.pointer (some ⟨bp, 0, none⟩)] 166 (0, 0)) ∧ W.heap[cd]? = some (.cells #[.int .i64 dp] 3 (0, 0)) ∧ W.heap[lc]? = some (.cells #[v] 41 (0, 0))
def F1Post (w0 : World) (bp cp lc cd dp : Nat) (s : ByteArray) (acc : List (ByteArray × V)) (nm : ByteArray) (r : Rd1) (w : World) (e : Ending) (w' : World) : Prop := match r with
  | .error (a, why) => e = .panicked [{ v := pfaultV a why, recovered := false }] ∧ Pside bp w0 w'
  | .ok (x, q, n) => e = .returned (.tuple #[]) ∧ FSt w0 w' bp cp lc cd dp (acc ++ [(nm, x)]) ∧ PaAt w' bp s q n
set_option maxRecDepth 100000 in
set_option maxHeartbeats 4000000 in
theorem fieldZ_any (w0 : World) (bp cp lc cd dp n q q2 q3 i1 : Nat) (s nm : ByteArray) (acc : List (ByteArray × V)) (r : Rd1) (w : World) (hL : FSt w0 w bp cp lc cd dp acc)
    (HE : Hid (Penv w bp))
    (hne : nm ≠ ByteArray.empty) (hnl : nm.size ≤ 140737488351232) (hq3 : q3 < s.size) (hs : s.size ≤ 140737488351232)
    (HN : Hid (Calls Tryz.prog 134 #[.pointer (some ⟨bp, 0, none⟩)] w (fun e w' => (∃ c : UInt8, e = .returned (.int .u8 (c.toNat : Int))) ∧ PaAt w' bp s q n ∧ Pside bp w w')))
    (HRun : Hid (∀ W : World, PaAt W bp s q n → Calls Tryz.prog 143 #[.pointer (some ⟨bp, 0, none⟩), .string ⟨#[97, 98, 99, 100, 101, 102, 103, 104, 105, 106, 107, 108, 109, 110, 111, 112, 113, 114, 115, 116, 117, 118, 119, 120, 121, 122, 48, 49, 50, 51, 52, 53, 54, 55, 56, 57, 95]⟩] W (fun e w' => e = .returned (.string nm) ∧ PaAt w' bp s q2 n ∧ Pside bp W w')))
    (HIs : Hid (∀ W : World, Calls Tryz.prog 196 #[.string nm] W (fun e w' => e = .returned (.bool true) ∧ W = w')))
    (HN2 : Hid (∀ W : World, PaAt W bp s q2 n → Calls Tryz.prog 134 #[.pointer (some ⟨bp, 0, none⟩)] W (fun e w' => e = .returned (.int .u8 58) ∧ PaAt w' bp s q3 n ∧ Pside bp W w')))
    (ho : ∀ p, acc[acc.length - 1]? = some p → leS nm p.1 = false)
    (hlen : acc.length < 4096) (hdp : dp ≤ 64) (hr : PvalC s (dp + 1) (q3 + 1) n r) :
    Calls Tryz.prog 204 #[.pointer (some ⟨cp, 0, none⟩), .pointer (some ⟨lc, 0, none⟩), .pointer (some ⟨cd, 0, none⟩)] w (F1Post w0 bp cp lc cd dp s acc nm r w) := by
  obtain ⟨i0, hi0, hz0, hz1, hz2⟩ := info_parts Tryz.infoField
  have HL := Lib.hid hL
  have HR := Lib.hid (fun (W : World) (x : Int) (hx : x = ((dp + 1 : Nat) : Int)) (h1 : PaAt W bp s (q3 + 1) n) (h2 : Penv W bp) => (by rw [hx]; exact hr bp W h1 h2 : Calls Tryz.prog 79 #[.pointer (some ⟨bp, 0, none⟩), .int .i64 x] W (VPost bp s r W)))
  have cc0 : w.cell? ⟨cp, 0, none⟩ = some (.pointer (some ⟨bp, 0, none⟩)) := by rw [Lib.cell_of_heap hL.hcp]; rfl
  have hnb : nm.toList.isEmpty = false := isEmpty_of (by
    cases hz : nm.size with
    | zero => exact absurd (by cases nm with | mk d => have : d = #[] := Array.eq_empty_of_size_eq_zero hz; subst this; rfl) hne
    | succ k => omega)
  clear hL hr
  go_enter Tryz.func204, Tryz.ntmps204
  go_wp2_with fail
  refine HN.out.mono ?_
  rintro e w1 ⟨⟨c, rfl⟩, hpa, hps⟩
  have hL1 := HL.out.pside hps
  have d0 : w1.cell? ⟨cp, 0, none⟩ = some (.pointer (some ⟨bp, 0, none⟩)) := by rw [Lib.cell_of_heap hL1.hcp]; rfl
  have d1 := hpa.c1
  clear cc0
  go_wp2_with fail
  refine (HRun.out _ hpa).mono ?_
  rintro e w2 ⟨rfl, hpa2, hps2⟩
  have hL2 := hL1.pside hps2
  have hpsA := hps.trans hps2
  clear d0 d1 hL1 hpa hps hps2
  obtain ⟨fr, hcp, hcd, ⟨v, hl, how⟩, o1, o2, o3⟩ := hL2
  have d0 : w2.cell? ⟨cp, 0, none⟩ = some (.pointer (some ⟨bp, 0, none⟩)) := by rw [Lib.cell_of_heap hcp]; rfl
  have d2 : w2.cell? ⟨lc, 0, none⟩ = some v := by rw [Lib.cell_of_heap hl]; rfl
  obtain ⟨A1, k1, rfl⟩ := how.form
  have hll : ¬ ((4096 : Int) ≤ (acc.length : Int)) := by omega
  go_wp2_with fail
  refine (HIs.out _).mono ?_
  rintro e w9 ⟨rfl, rfl⟩
  have HOW := Lib.hid how
  have HPS := Lib.hid hpsA
  have HFR := Lib.hid fr
  have HCP := Lib.hid hcp
  have HCD := Lib.hid hcd
  have HLC := Lib.hid hl
  have HPA2 := Lib.hid hpa2
  by_cases hem : acc.length = 0
  · have hz : ¬ (0 : Int) < (acc.length : Int) := by omega
    have hz2 : decide ((0 : Int) < (acc.length : Int)) = false := by rw [decide_eq_false_iff_not]; omega
    have HEM := Lib.hid hem
    clear how fr hcp hcd hl hpa2 hpsA hem
    go_wp2_with fail
    refine (HN2.out _ HPA2.out).mono ?_
    rintro e w3 ⟨rfl, hpa3, hps3⟩
    have lt := fun {k : Nat} {o : Obj} (hk : w2.heap[k]? = some o) => (Array.getElem?_eq_some_iff.1 hk).1
    have hcp3 := (hps3.block cp (lt HCP.out) (by omega)).trans HCP.out
    have d0 : w3.cell? ⟨cp, 0, none⟩ = some (.pointer (some ⟨bp, 0, none⟩)) := by rw [Lib.cell_of_heap hcp3]; rfl
    have d1 := hpa3.c1
    have g1 := hpa3.f 1
    have hlt3 := hpa3.lt
    have hw1 : IntKind.i64.wrap ((q3 : Int) + 1) = (q3 : Int) + 1 := by rw [IntKind.wrap_i64]; omega
    have hps4 : Pside bp w2 (w3.setCell ⟨bp, 1, none⟩ (.int .i64 ((q3 : Int) + 1))) := hps3.set 1 _
    have HPA4 := Lib.hid (by have h9 := hpa3.set1 (q3 + 1); simpa using h9 : PaAt (w3.setCell ⟨bp, 1, none⟩ (.int .i64 ((q3 : Int) + 1))) bp s (q3 + 1) n)
    have HPE4 := Lib.hid (HE.out.pside (HPS.out.trans hps4))
    have HFR4 := Lib.hid (HFR.out.trans hps4)
    have HOW4 := Lib.hid (HOW.out.pside hps4 o3 (fun b hb e => by subst e; omega))
    have HK4 : Hid (KeepF bp cp lc cd dp (.slice A1 acc.length k1) (w3.setCell ⟨bp, 1, none⟩ (.int .i64 ((q3 : Int) + 1)))) := Lib.hid ⟨(hps4.block cp (lt HCP.out) (by omega)).trans HCP.out, (hps4.block cd (lt HCD.out) (by omega)).trans HCD.out, (hps4.block lc (lt HLC.out) (by omega)).trans HLC.out⟩
    clear hpa3 hps3 hcp3 hps4 d2 hz hz2
    go_wp2_with fail
    generalize w3.setCell ⟨bp, 1, none⟩ (.int .i64 ((q3 : Int) + 1)) = w4 at *
    clear d0 d1 g1 hlt3 HCP HCD HLC HOW HFR HPS
    have hdw : IntKind.i64.wrap ((dp : Int) + 1) = (dp : Int) + 1 := by rw [IntKind.wrap_i64]; omega
    have HSS : Hid (∀ W : World, KeepF bp cp lc cd dp (.slice A1 acc.length k1) W → W.cell? ⟨cp, 0, none⟩ = some (.pointer (some ⟨bp, 0, none⟩)) ∧ W.cell? ⟨cd, 0, none⟩ = some (.int .i64 dp) ∧ W.cell? ⟨lc, 0, none⟩ = some (.slice A1 acc.length k1)) := Lib.hid (fun W h => ⟨by rw [Lib.cell_of_heap h.1]; rfl, by rw [Lib.cell_of_heap h.2.1]; rfl, by rw [Lib.cell_of_heap h.2.2]; rfl⟩)
    cases r with
    | error z =>
      obtain ⟨b1, y1⟩ := z
      refine wp_region_heldL (KeepF bp cp lc cd dp (.slice A1 acc.length k1)) 9 [0, 1, 2, 3, 4] [5, 6, 7, 8] (by kernel_rfl) (by rfl) (by rfl) (by kernel_rfl) (by kernel_rfl) (fun _ _ _ _ _ h => h) ?_ ?_
      · ((exact HK4.out))
      simp only [List.take_succ_cons, List.take_zero, pickI, List.getElem?_cons_succ, List.getElem?_cons_zero]
      repeat (refine HdS.step (fun K hK => ?_); go_simp; first | (refine hK _ ?_; clear hK K) | (apply Exists.intro; refine ⟨fun W hW => ?_, hK _ ?_⟩; (first | (intros; rfl) | ((first | rfl | (obtain ⟨q0, q1, q2⟩ := HSS.out _ hW; go_simp; rfl)))); clear hK K))
      refine HdS.nil ?_
      refine SeqS.step (fun K hK => ?_)
      go_simp
      go_at_call 79
      refine (HR.out w4.drew _ ?hx HPA4.out (HPE4.out.pside (Pside.refl _ _).drew)).mono ?_
      case hx => simp
      rintro e w5 ⟨rfl, h4⟩
      exact ⟨rfl, rfl, HFR4.out.trans ((Pside.refl _ _).drew.trans h4)⟩
    | ok z =>
      obtain ⟨x, qz, nz⟩ := z
      refine wp_region_heldL (KeepF bp cp lc cd dp (.slice A1 acc.length k1)) 9 [0, 1, 2, 3, 4] [5, 6, 7, 8] (by kernel_rfl) (by rfl) (by rfl) (by kernel_rfl) (by kernel_rfl) (fun _ _ _ _ _ h => h) ?_ ?_
      · ((exact HK4.out))
      simp only [List.take_succ_cons, List.take_zero, pickI, List.getElem?_cons_succ, List.getElem?_cons_zero]
      repeat (refine HdS.step (fun K hK => ?_); go_simp; first | (refine hK _ ?_; clear hK K) | (apply Exists.intro; refine ⟨fun W hW => ?_, hK _ ?_⟩; (first | (intros; rfl) | ((first | rfl | (obtain ⟨q0, q1, q2⟩ := HSS.out _ hW; go_simp; rfl)))); clear hK K))
      refine HdS.nil ?_
      refine SeqS.step (fun K hK => ?_)
      go_simp
      go_at_call 79
      refine (HR.out w4.drew _ ?hy HPA4.out (HPE4.out.pside (Pside.refl _ _).drew)).mono ?_
      case hy => simp
      rintro e w5 ⟨⟨u, rfl, hu⟩, hpa5, hps5⟩
      have hp45 : Pside bp w4 w5 := (Pside.refl _ _).drew.trans hps5
      have lt4 := fun {k : Nat} {o : Obj} (hk : w4.heap[k]? = some o) => (Array.getElem?_eq_some_iff.1 hk).1
      have hk5 : KeepF bp cp lc cd dp (.slice A1 acc.length k1) w5 := ⟨(hp45.block cp (lt4 HK4.out.1) (by omega)).trans HK4.out.1, (hp45.block cd (lt4 HK4.out.2.1) (by omega)).trans HK4.out.2.1, (hp45.block lc (lt4 HK4.out.2.2) (by omega)).trans HK4.out.2.2⟩
      have hfr5 := HFR4.out.trans hp45
      refine hK _ _ hk5 ?_
      clear hK K
      have hou := hu.one
      have hface := hu.face
      have how5 := HOW4.out.pside hp45 o3 (fun b hb e => by subst e; omega)
      obtain ⟨xs, hxo, hxx⟩ := how5
      have hl45 := hp45.size
      obtain ⟨xs0, hown0, -⟩ := HOW4.out
      have hbal : ∀ u : Value, Below w5.heap.size w5 (w5.alloc (.cells #[.string nm, u] 39)) := fun u => (Below.refl _ _).alloc (Nat.le_refl _) _
      have hlcl : lc < w4.heap.size := lt4 HK4.out.2.2
      have hu2 := fun u9 : Value => fresh_of_new (F := fun b => lc < b) hu (hbal u9) (fun b h => Nat.lt_of_lt_of_le hlcl h) (show w4.drew.ownsRow w0.heap.size 39 2 (.slice A1 acc.length k1) acc.length xs0 from hown0)
      have hx2 : ∀ u9 : Value, ∀ (i : Nat) (p : ByteArray × V), acc[i]? = some p → xs[i * 2]? = some (.string p.1) ∧ p.1.size ≤ 140737488351232 ∧ ∃ y, xs[i * 2 + 1]? = some y ∧ RdS (w5.alloc (.cells #[.string nm, u9] 39)) (Fresh (fun b => lc < b) (w5.alloc (.cells #[.string nm, u9] 39)) (.slice A1 acc.length k1)) p.2 y := fun u9 i p hi => by
        obtain ⟨h1, h2, y, h3, h4⟩ := hxx i p hi
        exact ⟨h1, h2, y, h3, RdS.more (fun b hb' => ⟨hb'.1, Nat.lt_of_lt_of_le hb'.2.1 (hbal u9).size, hb'.2.2⟩) _ _ (RdS.keep (fun p hp => (hbal u9).cell hp.2.1) _ _ h4)⟩
      have hold : ∀ (u9 : Value), KeepF bp cp lc cd dp (.slice A1 acc.length k1) (w5.alloc (.cells #[.string nm, u9] 39)) := fun u9 => by
        have lt := fun {k : Nat} {o : Obj} (hk : w5.heap[k]? = some o) => (Array.getElem?_eq_some_iff.1 hk).1
        exact ⟨(heap_alloc_old _ _ (lt hk5.1)).trans hk5.1, (heap_alloc_old _ _ (lt hk5.2.1)).trans hk5.2.1, (heap_alloc_old _ _ (lt hk5.2.2)).trans hk5.2.2⟩
      have hfz := hfr5.size
      obtain ⟨uu, huu⟩ : ∃ uu, uu = u := ⟨_, rfl⟩
      have hoA : (w5.alloc (.cells #[.string nm, uu] 39)).ownsRow w0.heap.size 39 2 (.slice A1 acc.length k1) acc.length xs := World.ownsRow.alloc hxo _
      have hA := hold uu
      rcases hface with rfl | ⟨ty, yy, rfl⟩
      all_goals
        refine SeqS.step (fun K hK => ?_)
        go_simp
        refine hK _ _ hk5 ?_
        clear hK K
        refine SeqS.step (fun K hK => ?_)
        go_simp
        refine hK _ _ (hold _) ?_
        clear hK K
        refine SeqS.step (fun K hK => ?_)
        refine wp_append_lies _ (.tmp 62) (.tmp 69) 41 rfl w0.heap.size 39 i0 _ 2 32 Tryz.underlying41 hi0 hz0 hz1 hz2 rfl (by omega) (.slice A1 acc.length k1) acc.length xs rfl (World.ownsRow.alloc hxo _) ⟨w5.heap.size, 0, none⟩ 1 1 [.string nm, _] rfl rfl (news_at rfl) (one_of2 rfl hou) (by omega) (by unfold maxLen; omega) (by omega) (by simp; omega) _ rfl ?_
        intro g cap w6 hown6 hg6 hat hlt6
        subst huu
        have m3 := not_own hoA hA.2.2 (by decide)
        have hk6 : KeepF bp cp lc cd dp (.slice A1 acc.length k1) w6 := by
          have lt := fun {W : World} {k : Nat} {o : Obj} (hk : W.heap[k]? = some o) => (Array.getElem?_eq_some_iff.1 hk).1
          have m1 := not_own hoA hA.1 (by decide)
          have m2 := not_own hoA hA.2.1 (by decide)
          exact ⟨(hg6.block cp (lt hA.1) (fun e => m1 e.symm)).trans hA.1, (hg6.block cd (lt hA.2.1) (fun e => m2 e.symm)).trans hA.2.1, (hg6.block lc (lt hA.2.2) (fun e => m3 e.symm)).trans hA.2.2⟩
        have hp6 := (hfr5.alloc _).grown hg6 (fun j hj => (World.ownsRow.lt hoA j hj).1)
        have hpa6 := (hpa5.alloc _).grown hg6 (fun e => by have := (World.ownsRow.lt hoA bp e).1; omega)
        have hO4 := OwnD.snoc rfl hoA (hx2 _) hnl (hu2 _) hown6 hg6 hat
        have m4 := not_own hown6 hk6.2.2 (by decide)
        have hff : w6.frozen? ⟨lc, 0, none⟩ = false := by simp [World.frozen?, hk6.2.2]
        have hcc : w6.cell? ⟨lc, 0, none⟩ = some (.slice A1 acc.length k1) := by rw [Lib.cell_of_heap hk6.2.2]; rfl
        refine hK _ _ hk6 ?_
        clear hK K
        refine SeqS.nil ?_
        unfold lastQ
        go_simp
        go_wp2
        go_end0
        refine ⟨rfl, ⟨hp6.setNew (by omega) _ _, ?_, ?_, ⟨_, ?_, OwnD.set hO4 m4 (fun b hb e => by subst e; omega)⟩, o1, o2, o3⟩, ?_⟩
        · exact (Below.heap_setCell w6 ⟨lc, 0, none⟩ _ cp (by simp; omega)).trans hk6.1
        · exact (Below.heap_setCell w6 ⟨lc, 0, none⟩ _ cd (by simp; omega)).trans hk6.2.1
        · simp [World.setCell, Array.getElem?_modify, hk6.2.2]
        · exact (Below.heap_setCell w6 ⟨lc, 0, none⟩ _ bp (by simp; omega)).trans hpa6
  · have hz : (0 : Int) < (acc.length : Int) := by omega
    obtain ⟨p, hp⟩ : ∃ p, acc[acc.length - 1]? = some p := ⟨_, List.getElem?_eq_getElem (by omega)⟩
    have hle := ho p hp
    obtain ⟨xs, hxo, hxx⟩ := how
    obtain ⟨g9, cap9, hsl, hg9, hlt9⟩ := World.ownsRow.form hxo (by omega)
    injection hsl with hA1 _ hk9
    subst hA1
    subst hk9
    obtain ⟨hx1, hpz, -⟩ := hxx _ p hp
    have hcell : w2.cell? ⟨g9, (acc.length - 1) * 2, none⟩ = some (.string p.1) := by have := World.ownsRow.cells (g := g9) hxo rfl _ _ hx1; simpa [Addr.add_lit] using this
    have hwl : IntKind.i64.wrap ((acc.length : Int) - 1) = ((acc.length - 1 : Nat) : Int) := by rw [IntKind.wrap_i64]; omega
    have hll2 : acc.length - 1 < acc.length := by omega
    unfold leS at hle
    have HEM := Lib.hid hem
    clear hxo hxx hx1 hp fr hcp hcd hl hpa2 hpsA hem
    go_wp2_with fail
    clear hle hcell hwl hll2 hg9 hlt9
    refine (HN2.out _ HPA2.out).mono ?_
    rintro e w3 ⟨rfl, hpa3, hps3⟩
    have lt := fun {k : Nat} {o : Obj} (hk : w2.heap[k]? = some o) => (Array.getElem?_eq_some_iff.1 hk).1
    have hcp3 := (hps3.block cp (lt HCP.out) (by omega)).trans HCP.out
    have d0 : w3.cell? ⟨cp, 0, none⟩ = some (.pointer (some ⟨bp, 0, none⟩)) := by rw [Lib.cell_of_heap hcp3]; rfl
    have d1 := hpa3.c1
    have g1 := hpa3.f 1
    have hlt3 := hpa3.lt
    have hw1 : IntKind.i64.wrap ((q3 : Int) + 1) = (q3 : Int) + 1 := by rw [IntKind.wrap_i64]; omega
    have hps4 : Pside bp w2 (w3.setCell ⟨bp, 1, none⟩ (.int .i64 ((q3 : Int) + 1))) := hps3.set 1 _
    have HPA4 := Lib.hid (by have h9 := hpa3.set1 (q3 + 1); simpa using h9 : PaAt (w3.setCell ⟨bp, 1, none⟩ (.int .i64 ((q3 : Int) + 1))) bp s (q3 + 1) n)
    have HPE4 := Lib.hid (HE.out.pside (HPS.out.trans hps4))
    have HFR4 := Lib.hid (HFR.out.trans hps4)
    have HOW4 := Lib.hid (HOW.out.pside hps4 o3 (fun b hb e => by subst e; omega))
    have HK4 : Hid (KeepF bp cp lc cd dp (.slice (some ⟨g9, 0, none⟩) acc.length k1) (w3.setCell ⟨bp, 1, none⟩ (.int .i64 ((q3 : Int) + 1)))) := Lib.hid ⟨(hps4.block cp (lt HCP.out) (by omega)).trans HCP.out, (hps4.block cd (lt HCD.out) (by omega)).trans HCD.out, (hps4.block lc (lt HLC.out) (by omega)).trans HLC.out⟩
    clear hpa3 hps3 hcp3 hps4 d2 hz
    go_wp2_with fail
    generalize w3.setCell ⟨bp, 1, none⟩ (.int .i64 ((q3 : Int) + 1)) = w4 at *
    clear d0 d1 g1 hlt3 HCP HCD HLC HOW HFR HPS
    have hdw : IntKind.i64.wrap ((dp : Int) + 1) = (dp : Int) + 1 := by rw [IntKind.wrap_i64]; omega
    have HSS : Hid (∀ W : World, KeepF bp cp lc cd dp (.slice (some ⟨g9, 0, none⟩) acc.length k1) W → W.cell? ⟨cp, 0, none⟩ = some (.pointer (some ⟨bp, 0, none⟩)) ∧ W.cell? ⟨cd, 0, none⟩ = some (.int .i64 dp) ∧ W.cell? ⟨lc, 0, none⟩ = some (.slice (some ⟨g9, 0, none⟩) acc.length k1)) := Lib.hid (fun W h => ⟨by rw [Lib.cell_of_heap h.1]; rfl, by rw [Lib.cell_of_heap h.2.1]; rfl, by rw [Lib.cell_of_heap h.2.2]; rfl⟩)
    cases r with
    | error z =>
      obtain ⟨b1, y1⟩ := z
      refine wp_region_heldL (KeepF bp cp lc cd dp (.slice (some ⟨g9, 0, none⟩) acc.length k1)) 9 [0, 1, 2, 3, 4] [5, 6, 7, 8] (by kernel_rfl) (by rfl) (by rfl) (by kernel_rfl) (by kernel_rfl) (fun _ _ _ _ _ h => h) ?_ ?_
      · ((exact HK4.out))
      simp only [List.take_succ_cons, List.take_zero, pickI, List.getElem?_cons_succ, List.getElem?_cons_zero]
      repeat (refine HdS.step (fun K hK => ?_); go_simp; first | (refine hK _ ?_; clear hK K) | (apply Exists.intro; refine ⟨fun W hW => ?_, hK _ ?_⟩; (first | (intros; rfl) | ((first | rfl | (obtain ⟨q0, q1, q2⟩ := HSS.out _ hW; go_simp; rfl)))); clear hK K))
      refine HdS.nil ?_
      refine SeqS.step (fun K hK => ?_)
      go_simp
      go_at_call 79
      refine (HR.out w4.drew _ ?hx HPA4.out (HPE4.out.pside (Pside.refl _ _).drew)).mono ?_
      case hx => simp
      rintro e w5 ⟨rfl, h4⟩
      exact ⟨rfl, rfl, HFR4.out.trans ((Pside.refl _ _).drew.trans h4)⟩
    | ok z =>
      obtain ⟨x, qz, nz⟩ := z
      refine wp_region_heldL (KeepF bp cp lc cd dp (.slice (some ⟨g9, 0, none⟩) acc.length k1)) 9 [0, 1, 2, 3, 4] [5, 6, 7, 8] (by kernel_rfl) (by rfl) (by rfl) (by kernel_rfl) (by kernel_rfl) (fun _ _ _ _ _ h => h) ?_ ?_
      · ((exact HK4.out))
      simp only [List.take_succ_cons, List.take_zero, pickI, List.getElem?_cons_succ, List.getElem?_cons_zero]
      repeat (refine HdS.step (fun K hK => ?_); go_simp; first | (refine hK _ ?_; clear hK K) | (apply Exists.intro; refine ⟨fun W hW => ?_, hK _ ?_⟩; (first | (intros; rfl) | ((first | rfl | (obtain ⟨q0, q1, q2⟩ := HSS.out _ hW; go_simp; rfl)))); clear hK K))
      refine HdS.nil ?_
      refine SeqS.step (fun K hK => ?_)
      go_simp
      go_at_call 79
      refine (HR.out w4.drew _ ?hy HPA4.out (HPE4.out.pside (Pside.refl _ _).drew)).mono ?_
      case hy => simp
      rintro e w5 ⟨⟨u, rfl, hu⟩, hpa5, hps5⟩
      have hp45 : Pside bp w4 w5 := (Pside.refl _ _).drew.trans hps5
      have lt4 := fun {k : Nat} {o : Obj} (hk : w4.heap[k]? = some o) => (Array.getElem?_eq_some_iff.1 hk).1
      have hk5 : KeepF bp cp lc cd dp (.slice (some ⟨g9, 0, none⟩) acc.length k1) w5 := ⟨(hp45.block cp (lt4 HK4.out.1) (by omega)).trans HK4.out.1, (hp45.block cd (lt4 HK4.out.2.1) (by omega)).trans HK4.out.2.1, (hp45.block lc (lt4 HK4.out.2.2) (by omega)).trans HK4.out.2.2⟩
      have hfr5 := HFR4.out.trans hp45
      refine hK _ _ hk5 ?_
      clear hK K
      have hou := hu.one
      have hface := hu.face
      have how5 := HOW4.out.pside hp45 o3 (fun b hb e => by subst e; omega)
      obtain ⟨xs, hxo, hxx⟩ := how5
      have hl45 := hp45.size
      obtain ⟨xs0, hown0, -⟩ := HOW4.out
      have hbal : ∀ u : Value, Below w5.heap.size w5 (w5.alloc (.cells #[.string nm, u] 39)) := fun u => (Below.refl _ _).alloc (Nat.le_refl _) _
      have hlcl : lc < w4.heap.size := lt4 HK4.out.2.2
      have hu2 := fun u9 : Value => fresh_of_new (F := fun b => lc < b) hu (hbal u9) (fun b h => Nat.lt_of_lt_of_le hlcl h) (show w4.drew.ownsRow w0.heap.size 39 2 (.slice (some ⟨g9, 0, none⟩) acc.length k1) acc.length xs0 from hown0)
      have hx2 : ∀ u9 : Value, ∀ (i : Nat) (p : ByteArray × V), acc[i]? = some p → xs[i * 2]? = some (.string p.1) ∧ p.1.size ≤ 140737488351232 ∧ ∃ y, xs[i * 2 + 1]? = some y ∧ RdS (w5.alloc (.cells #[.string nm, u9] 39)) (Fresh (fun b => lc < b) (w5.alloc (.cells #[.string nm, u9] 39)) (.slice (some ⟨g9, 0, none⟩) acc.length k1)) p.2 y := fun u9 i p hi => by
        obtain ⟨h1, h2, y, h3, h4⟩ := hxx i p hi
        exact ⟨h1, h2, y, h3, RdS.more (fun b hb' => ⟨hb'.1, Nat.lt_of_lt_of_le hb'.2.1 (hbal u9).size, hb'.2.2⟩) _ _ (RdS.keep (fun p hp => (hbal u9).cell hp.2.1) _ _ h4)⟩
      have hold : ∀ (u9 : Value), KeepF bp cp lc cd dp (.slice (some ⟨g9, 0, none⟩) acc.length k1) (w5.alloc (.cells #[.string nm, u9] 39)) := fun u9 => by
        have lt := fun {k : Nat} {o : Obj} (hk : w5.heap[k]? = some o) => (Array.getElem?_eq_some_iff.1 hk).1
        exact ⟨(heap_alloc_old _ _ (lt hk5.1)).trans hk5.1, (heap_alloc_old _ _ (lt hk5.2.1)).trans hk5.2.1, (heap_alloc_old _ _ (lt hk5.2.2)).trans hk5.2.2⟩
      have hfz := hfr5.size
      obtain ⟨uu, huu⟩ : ∃ uu, uu = u := ⟨_, rfl⟩
      have hoA : (w5.alloc (.cells #[.string nm, uu] 39)).ownsRow w0.heap.size 39 2 (.slice (some ⟨g9, 0, none⟩) acc.length k1) acc.length xs := World.ownsRow.alloc hxo _
      have hA := hold uu
      rcases hface with rfl | ⟨ty, yy, rfl⟩
      all_goals
        refine SeqS.step (fun K hK => ?_)
        go_simp
        refine hK _ _ hk5 ?_
        clear hK K
        refine SeqS.step (fun K hK => ?_)
        go_simp
        refine hK _ _ (hold _) ?_
        clear hK K
        refine SeqS.step (fun K hK => ?_)
        refine wp_append_lies _ (.tmp 62) (.tmp 69) 41 rfl w0.heap.size 39 i0 _ 2 32 Tryz.underlying41 hi0 hz0 hz1 hz2 rfl (by omega) (.slice (some ⟨g9, 0, none⟩) acc.length k1) acc.length xs rfl (World.ownsRow.alloc hxo _) ⟨w5.heap.size, 0, none⟩ 1 1 [.string nm, _] rfl rfl (news_at rfl) (one_of2 rfl hou) (by omega) (by unfold maxLen; omega) (by omega) (by simp; omega) _ rfl ?_
        intro g cap w6 hown6 hg6 hat hlt6
        subst huu
        have m3 := not_own hoA hA.2.2 (by decide)
        have hk6 : KeepF bp cp lc cd dp (.slice (some ⟨g9, 0, none⟩) acc.length k1) w6 := by
          have lt := fun {W : World} {k : Nat} {o : Obj} (hk : W.heap[k]? = some o) => (Array.getElem?_eq_some_iff.1 hk).1
          have m1 := not_own hoA hA.1 (by decide)
          have m2 := not_own hoA hA.2.1 (by decide)
          exact ⟨(hg6.block cp (lt hA.1) (fun e => m1 e.symm)).trans hA.1, (hg6.block cd (lt hA.2.1) (fun e => m2 e.symm)).trans hA.2.1, (hg6.block lc (lt hA.2.2) (fun e => m3 e.symm)).trans hA.2.2⟩
        have hp6 := (hfr5.alloc _).grown hg6 (fun j hj => (World.ownsRow.lt hoA j hj).1)
        have hpa6 := (hpa5.alloc _).grown hg6 (fun e => by have := (World.ownsRow.lt hoA bp e).1; omega)
        have hO4 := OwnD.snoc rfl hoA (hx2 _) hnl (hu2 _) hown6 hg6 hat
        have m4 := not_own hown6 hk6.2.2 (by decide)
        have hff : w6.frozen? ⟨lc, 0, none⟩ = false := by simp [World.frozen?, hk6.2.2]
        have hcc : w6.cell? ⟨lc, 0, none⟩ = some (.slice (some ⟨g9, 0, none⟩) acc.length k1) := by rw [Lib.cell_of_heap hk6.2.2]; rfl
        refine hK _ _ hk6 ?_
        clear hK K
        refine SeqS.nil ?_
        unfold lastQ
        go_simp
        go_wp2
        go_end0
        refine ⟨rfl, ⟨hp6.setNew (by omega) _ _, ?_, ?_, ⟨_, ?_, OwnD.set hO4 m4 (fun b hb e => by subst e; omega)⟩, o1, o2, o3⟩, ?_⟩
        · exact (Below.heap_setCell w6 ⟨lc, 0, none⟩ _ cp (by simp; omega)).trans hk6.1
        · exact (Below.heap_setCell w6 ⟨lc, 0, none⟩ _ cd (by simp; omega)).trans hk6.2.1
        · simp [World.setCell, Array.getElem?_modify, hk6.2.2]
        · exact (Below.heap_setCell w6 ⟨lc, 0, none⟩ _ bp (by simp; omega)).trans hpa6
end Go.Proofs.YtobpkelblpdajaaGreatDoor
