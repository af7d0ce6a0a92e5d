/- A region that draws its order: loads and moves that no other operation of it can touch are taken first, wherever they stand; behind them the rest, one after the other. -/
import Derived.Test.YtobpkelblpdajaaGreatDoorTX07
import Derived.Test.YtobpkelblpdajaaGreatDoorTX35
set_option linter.unusedVariables false
set_option linter.unusedSimpArgs false
set_option linter.unusedSectionVars false
namespace Go.Proofs.YtobpkelblpdajaaGreatDoor
open Go Go.RowKit
def seqIB (md : Region.Mode) (ops : Array Oper) : List Nat → Array Bool → Bool
  | [], listed => (Region.ready md ops listed).isEmpty
  | i :: r, listed => decide (Region.ready md ops listed = [i]) && seqIB md ops r (listed.setIfInBounds i true)
def headIB (md : Region.Mode) (ops : Array Oper) (t : List Nat) : List Nat → Array Bool → Bool
  | [], listed => seqIB md ops t listed
  | i :: r, listed => (Region.ready md ops listed).contains i && Region.free md ops listed i && headIB md ops t r (listed.setIfInBounds i true)
def pickI (l : List Oper) : List Nat → List Oper
  | [] => []
  | i :: r => match l[i]? with
    | some o => o :: pickI l r
    | none => []
section
variable {P : Program} {l : List Oper} {md : Region.Mode} {S : World → Prop} {Q : Exit → Act → World → Prop}
theorem seqS_anyI : ∀ (is : List Nat) (listed : Array Bool) (a : Act) (w : World), (∀ i ∈ is, i < l.length) → seqIB md l.toArray is listed = true → seqS P l.toArray S Q (pickI l is) a w → wpAnyH P md l.toArray Q S is.length listed a w
  | [], _, _, _, _, hB, h => ⟨by simpa [seqIB] using hB, h⟩
  | k :: r, listed, a, w, hl, hB, h => by
    have hk : k < l.length := hl k (by simp)
    have h0 : l.toArray[k]? = some l[k] := by simp [hk]
    have hp : pickI l (k :: r) = l[k] :: pickI l r := by rw [pickI, List.getElem?_eq_getElem hk]
    rw [hp] at h
    simp only [seqIB, Bool.and_eq_true, decide_eq_true_eq] at hB
    refine wpAnyH_all hB.1 (by simp) fun i hi => ?_
    obtain rfl : i = k := by simpa using hi
    have R := fun a' w' (h' : seqS P l.toArray S Q (pickI l r) a' w') => seqS_anyI r (listed.setIfInBounds i true) a' w' (fun j hj => hl j (by simp [hj])) hB.2 h'
    unfold wpOp
    simp only [h0]
    unfold seqS at h
    split
    · rename_i hw
      rw [if_pos hw] at h
      exact .inl (Oper.wp_mono (fun a' w' h' => ⟨h'.1, R _ _ h'.2⟩) h)
    · rename_i hw
      rw [if_neg hw] at h
      exact ⟨h.1, R _ _ h.2⟩
theorem held_lexI {t : List Nat} {L : Act → Prop} (hsel : Region.noSelect l.toArray = true) (hQ : ∀ c a w d v, Q (.panic c) (a.put d v) w → Q (.panic c) a w) {w : World} (hS : S w) :
    ∀ (is : List Nat) (listed : Array Bool) (a : Act), (∀ i ∈ is, i < l.length) → headIB md l.toArray t is listed = true → hdS P l.toArray S L (pickI l is) a →
    (∀ ls a', seqIB md l.toArray t ls = true → L a' → wpAnyH P md l.toArray Q S t.length ls a' w) → wpAnyH P md l.toArray Q S (is.length + t.length) listed a w
  | [], listed, a, _, hB, h, hL => by simpa using hL listed a (by simpa [headIB] using hB) h
  | k :: r, listed, a, hl, hB, h, hL => by
    have hk : k < l.length := hl k (by simp)
    have h0 : l.toArray[k]? = some l[k] := by simp [hk]
    have hp : pickI l (k :: r) = l[k] :: pickI l r := by rw [pickI, List.getElem?_eq_getElem hk]
    rw [hp] at h
    obtain ⟨v, hy, h⟩ := h
    simp only [headIB, Bool.and_eq_true] at hB
    obtain ⟨⟨hr, hf⟩, hB⟩ := hB
    rw [show (k :: r).length + t.length = (r.length + t.length) + 1 by simp; omega]
    exact wpAnyH_take h0 hsel hf hr (fun c a w => hQ c a w _ _) hy hS
      (held_lexI hsel hQ hS r _ _ (fun j hj => hl j (by simp [hj])) hB h hL)
def heldIB (ops : Array Oper) (hs ts : List Nat) : Bool := Region.noSelect ops && decide (hs.length + ts.length = ops.size) && (hs.all fun i => decide (i < ops.size)) && (ts.all fun i => decide (i < ops.size)) && headIB .any ops ts hs (Array.replicate ops.size false)
end
end Go.Proofs.YtobpkelblpdajaaGreatDoor
/- A region that draws its order: loads that no other operation can touch are taken as soon as they are ready (marked true); the rest come one after the other (marked false), in a row that mixes both. -/
namespace Go.Proofs.YtobpkelblpdajaaGreatDoor
open Go Go.RowKit
def mixIB (md : Region.Mode) (ops : Array Oper) : List (Bool × Nat) → Array Bool → Bool
  | [], listed => (Region.ready md ops listed).isEmpty
  | (true, i) :: r, listed => (Region.ready md ops listed).contains i && Region.free md ops listed i && mixIB md ops r (listed.setIfInBounds i true)
  | (false, i) :: r, listed => decide (Region.ready md ops listed = [i]) && mixIB md ops r (listed.setIfInBounds i true)
def pickM (l : List Oper) : List (Bool × Nat) → List (Bool × Oper)
  | [] => []
  | i :: r => match l[i.2]? with
    | some o => (i.1, o) :: pickM l r
    | none => []
section
variable {P : Program} {ops : Array Oper} {l : List Oper} {md : Region.Mode} {S : World → Prop} {Q : Exit → Act → World → Prop}
def mixS (P : Program) (ops : Array Oper) (S : World → Prop) (Q : Exit → Act → World → Prop) : List (Bool × Oper) → Act → World → Prop
  | [], a, w => Q .normal a w
  | (true, o) :: r, a, w => ∃ v, YieldsIf P ops S o v a ∧ mixS P ops S Q r (a.put o.dst v) w
  | (false, o) :: r, a, w => if Region.wanted o (yielded ops a.tmps) then o.wp P a w (fun a' w' => S w' ∧ mixS P ops S Q r a' w') Q else S w ∧ mixS P ops S Q r (a.put o.dst undef) w
structure MixS (P : Program) (ops : Array Oper) (S : World → Prop) (Q : Exit → Act → World → Prop) (l : List (Bool × Oper)) (a : Act) (w : World) : Prop where
  out : mixS P ops S Q l a w
theorem MixS.nil {a : Act} {w : World} (h : Q .normal a w) : MixS P ops S Q [] a w := ⟨h⟩
theorem MixS.step {o : Oper} {r : List (Bool × Oper)} {a : Act} {w : World}
    (h : ∀ K : Act → World → Prop, (∀ a w, S w → MixS P ops S Q r a w → K a w) → if Region.wanted o (yielded ops a.tmps) then o.wp P a w K Q else K (a.put o.dst undef) w) : MixS P ops S Q ((false, o) :: r) a w := by
  have := h (fun a w => S w ∧ mixS P ops S Q r a w) (fun a w h1 h2 => ⟨h1, h2.out⟩)
  refine ⟨?_⟩
  unfold mixS
  exact this
theorem MixS.plain {o : Oper} {r : List (Bool × Oper)} {a : Act} {w : World} (hg : o.guard = none)
    (h : ∀ K : Act → World → Prop, (∀ a w, S w → MixS P ops S Q r a w → K a w) → o.wp P a w K Q) : MixS P ops S Q ((false, o) :: r) a w :=
  MixS.step fun K hK => by simp only [Region.wanted, hg, if_true]; exact h K hK
theorem MixS.head {o : Oper} {r : List (Bool × Oper)} {a : Act} {w : World}
    (h : ∀ K : Act → Prop, (∀ a, MixS P ops S Q r a w → K a) → if Region.wanted o (yielded ops a.tmps) then ∃ v, (∀ w, S w → (execOp a.eval o).run P w = .ok (.value v) w) ∧ K (a.put o.dst v) else K (a.put o.dst undef)) : MixS P ops S Q ((true, o) :: r) a w := by
  have := h (fun a => mixS P ops S Q r a w) (fun a h => h.out)
  refine ⟨?_⟩
  unfold mixS
  by_cases hw : Region.wanted o (yielded ops a.tmps) = true
  · rw [if_pos hw] at this
    obtain ⟨v, h1, h2⟩ := this
    exact ⟨v, .inl ⟨hw, h1⟩, h2⟩
  · rw [if_neg hw] at this
    exact ⟨undef, .inr ⟨by simpa using hw, rfl⟩, this⟩
theorem mix_any (hsel : Region.noSelect l.toArray = true) (hQ : ∀ c a w d v, Q (.panic c) (a.put d v) w → Q (.panic c) a w) :
    ∀ (is : List (Bool × Nat)) (listed : Array Bool) (a : Act) (w : World), S w → (∀ i ∈ is, i.2 < l.length) → mixIB md l.toArray is listed = true → mixS P l.toArray S Q (pickM l is) a w → wpAnyH P md l.toArray Q S is.length listed a w
  | [], _, _, _, _, _, hB, h => ⟨by simpa [mixIB] using hB, h⟩
  | (true, k) :: r, listed, a, w, hS, hl, hB, h => by
    have hk : k < l.length := hl (true, k) (by simp)
    have h0 : l.toArray[k]? = some l[k] := by simp [hk]
    have hp : pickM l ((true, k) :: r) = (true, l[k]) :: pickM l r := by rw [pickM]; simp only [List.getElem?_eq_getElem hk]
    rw [hp] at h
    obtain ⟨v, hy, h⟩ := h
    simp only [mixIB, Bool.and_eq_true] at hB
    obtain ⟨⟨hr, hf⟩, hB⟩ := hB
    exact wpAnyH_take h0 hsel hf hr (fun c a w => hQ c a w _ _) hy hS (mix_any hsel hQ r _ _ _ hS (fun j hj => hl j (by simp [hj])) hB h)
  | (false, k) :: r, listed, a, w, hS, hl, hB, h => by
    have hk : k < l.length := hl (false, k) (by simp)
    have h0 : l.toArray[k]? = some l[k] := by simp [hk]
    have hp : pickM l ((false, k) :: r) = (false, l[k]) :: pickM l r := by rw [pickM]; simp only [List.getElem?_eq_getElem hk]
    rw [hp] at h
    simp only [mixIB, Bool.and_eq_true, decide_eq_true_eq] at hB
    refine wpAnyH_all hB.1 (by simp) fun i hi => ?_
    obtain rfl : i = k := by simpa using hi
    have R := fun a' w' (hS' : S w') (h' : mixS P l.toArray S Q (pickM l r) a' w') => mix_any hsel hQ r (listed.setIfInBounds i true) a' w' hS' (fun j hj => hl j (by simp [hj])) hB.2 h'
    unfold wpOp
    simp only [h0]
    unfold mixS at h
    split
    · rename_i hw
      rw [if_pos hw] at h
      exact .inl (Oper.wp_mono (fun a' w' h' => ⟨h'.1, R _ _ h'.1 h'.2⟩) h)
    · rename_i hw
      rw [if_neg hw] at h
      exact ⟨h.1, R _ _ h.1 h.2⟩
def mixB (ops : Array Oper) (is : List (Bool × Nat)) : Bool := Region.noSelect ops && decide (is.length = ops.size) && (is.all fun i => decide (i.2 < ops.size)) && mixIB .any ops is (Array.replicate ops.size false)
theorem wp_region_mix {id : Nat} {a : Act} {w : World} (S : World → Prop) (is : List (Bool × Nat)) (hm : P.follows .mixedOrders = true) (hB : mixB l.toArray is = true) (hQ1 : ∀ c (a : Act) w (i : Nat) v, Q (.panic c) (a.put (some i) v) w → Q (.panic c) a w) (hS : S w.drew)
    (h : MixS P l.toArray S Q (pickM l is) a w.drew) : (Code.region id l.toArray true).wp P Q a w := by
  have hQ : ∀ c (a : Act) w d v, Q (.panic c) (a.put d v) w → Q (.panic c) a w := by
    intro c a w d v h
    cases d with
    | none => exact h
    | some i => exact hQ1 c a w i v h
  simp only [mixB, Bool.and_eq_true, decide_eq_true_eq, List.all_eq_true, List.size_toArray] at hB
  obtain ⟨⟨⟨hsel, hn⟩, ht⟩, hlex⟩ := hB
  refine wp_region_held (S := S) hm ?_
  have := mix_any (md := .any) hsel hQ is (Array.replicate l.length false) a w.drew hS ht hlex h.out
  rw [hn] at this
  simpa using this
end
end Go.Proofs.YtobpkelblpdajaaGreatDoor
/- Walk: the parser: bytes. -/
namespace Go.Proofs.YtobpkelblpdajaaGreatDoor
open Go Go.RowKit
/- What a reading gives: a value and where it stands, or a place and a reason. -/
abbrev Rd1 := Except (Nat × Nat) (V × Nat × Nat)
def VPost (bp : Nat) (s : ByteArray) (r : Rd1) (w : World) (e : Ending) (w' : World) : Prop := match r with
  | .error (a, why) => Gives bp a why w e w'
  | .ok (x, q, n) => (∃ v, e = .returned v ∧ RdS w' (New w w') x v) ∧ PaAt w' bp s q n ∧ Pside bp w w'
theorem v_ok {bp : Nat} {s : ByteArray} {n q : Nat} {r : Rd1} {x : V} {v : Value} {w w' : World} {e : Ending} (h : r = .ok (x, q, n)) (he : e = .returned v) (hr : RdS w' (New w w') x v) (hp : PaAt w' bp s q n) (hs : Pside bp w w') : VPost bp s r w e w' := by subst h; exact ⟨⟨v, he, hr⟩, hp, hs⟩
theorem v_bad {bp : Nat} {s : ByteArray} {a why : Nat} {r : Rd1} {w w' : World} {e : Ending} (h : r = .error (a, why)) (hg : Gives bp a why w e w') : VPost bp s r w e w' := by subst h; exact hg
def pairL : List UInt8 → List UInt8
  | d :: e :: r => UInt8.ofNat (16 * (hexv d).toNat + (hexv e).toNat) :: pairL r
  | _ => []
theorem pairL_two (l : List UInt8) : ∀ (k : Nat) (d e : UInt8), l[2 * k]? = some d → l[2 * k + 1]? = some e → pairL (l.take (2 * (k + 1))) = pairL (l.take (2 * k)) ++ [UInt8.ofNat (16 * (hexv d).toNat + (hexv e).toNat)] := by
  induction l using pairL.induct with
  | case1 a b r ih =>
    intro k d e h1 h2
    cases k with
    | zero =>
      simp at h1 h2
      subst h1 h2
      simp [pairL]
    | succ k =>
      have := ih k d e (by simpa [show 2 * (k + 1) = 2 * k + 1 + 1 by omega] using h1) (by simpa [show 2 * (k + 1) + 1 = 2 * k + 1 + 1 + 1 by omega] using h2)
      rw [show 2 * (k + 1 + 1) = 2 * (k + 1) + 1 + 1 by omega, show 2 * (k + 1) = 2 * k + 1 + 1 by omega] at *
      simp only [List.take_succ_cons, pairL]
      rw [this]
      rfl
  | case2 l hl =>
    intro k d e h1 h2
    exfalso
    match l, hl with
    | [], _ => simp at h1
    | [a], _ => simp at h2
    | a :: b :: r, hl => exact hl a b r rfl
theorem pairL_len (l : List UInt8) : (pairL l).length = l.length / 2 := by
  induction l using pairL.induct with
  | case1 a b r ih => rw [pairL, List.length_cons, ih]; simp only [List.length_cons]; omega
  | case2 l hl =>
    match l, hl with
    | [], _ => rfl
    | [a], _ => simp [pairL]
    | a :: b :: r, hl => exact absurd rfl (hl a b r)
/- What a run takes is of its kind. -/
theorem run_all {p L : List UInt8} {a j : Nat} {c : UInt8} (hj : j < runN p L a) (hc : L[a + j]? = some c) : p.contains c = true := by
  unfold runN at hj
  obtain ⟨t, ht⟩ := List.takeWhile_prefix (fun c => p.contains c) (l := L.drop a)
  have h0 : (L.drop a)[j]? = some c := by rw [List.getElem?_drop]; exact hc
  rw [← ht, List.getElem?_append_left hj] at h0
  have h1 := List.all_takeWhile (p := fun c => p.contains c) (l := L.drop a)
  exact List.all_eq_true.1 h1 c (List.mem_of_getElem? h0)
theorem run_slice (s : ByteArray) (a k : Nat) (h : a + k ≤ s.size) : (s.extract a (a + k)).data.toList = (s.data.toList.drop a).take k := by
  simp [ByteArray.data_extract]
theorem hexv_in {c : UInt8} (h : hexL.contains c = true) : 0 ≤ hexv c := idx_has.2 h
def bytesP (L : List UInt8) (a n : Nat) : Rd1 :=
  if runN hexL L (a + 1) % 2 ≠ 0 then .error (a, 3)
  else if 131072 < runN hexL L (a + 1) then .error (a, 2)
  else .ok (.bytes (pairL ((L.drop (a + 1)).take (runN hexL L (a + 1)))), a + 1 + runN hexL L (a + 1), n)
set_option maxRecDepth 100000 in
set_option maxHeartbeats 8000000 in
theorem bytes_any (bp : Nat) (s : ByteArray) (a n : Nat) (w : World) (h : PaAt w bp s a n) (ha : a < s.size) (hs : s.size ≤ 140737488351232) : Calls Tryz.prog 139 #[.pointer (some ⟨bp, 0, none⟩)] w (VPost bp s (bytesP s.data.toList a n) w) := by
  have hsz := size_list s
  have hlt := h.lt
  have c1 := h.c1
  have f1 := h.f 1
  obtain ⟨i0, hi0, hz0, hz1, hz2⟩ := info_parts Tryz.infoByte
  have HF := Lib.hid (fun (b why : Nat) (W : World) => fail_any (.pointer (some ⟨bp, 0, none⟩)) bp b why rfl W)
  have H1 := Lib.hid (by have h9 := h.set1 (a + 1); simpa using h9 : PaAt (w.setCell ⟨bp, 1, none⟩ (.int .i64 ((a : Int) + 1))) bp s (a + 1) n)
  have HRun := Lib.hid (run_any bp s ⟨hexL.toArray⟩ (a + 1) n _ H1.out (by omega) hs)
  have hrl := runN_le (p := hexL) (L := s.data.toList) (a := a + 1) (by omega)
  obtain ⟨k, hk⟩ : ∃ k, k = runN hexL s.data.toList (a + 1) := ⟨_, rfl⟩
  have hk2 : runN (⟨hexL.toArray⟩ : ByteArray).data.toList s.data.toList (a + 1) = k := by rw [hk]
  unfold RunPost at HRun
  rw [hk2] at HRun
  obtain ⟨ws, hws⟩ : ∃ ws, ws = s.extract (a + 1) (a + 1 + k) := ⟨_, rfl⟩
  have hwz : ws.size = k := by rw [hws]; simp [ByteArray.size_extract]; omega
  have HWD : Hid (ws.data.toList = (s.data.toList.drop (a + 1)).take k) := Lib.hid (by rw [hws, run_slice _ _ _ (by omega)])
  rw [← hws] at HRun
  have HB : Hid (bytesP s.data.toList a n = if k % 2 ≠ 0 then .error (a, 3) else if 131072 < k then .error (a, 2) else .ok (.bytes (pairL ws.data.toList), a + 1 + k, n)) := Lib.hid (by
    unfold bytesP; rw [← hk, HWD.out])
  have HIN : Hid (∀ (j : Nat) (c : UInt8), ws.data.toList[j]? = some c → 0 ≤ hexv c) := Lib.hid (fun j c hj => by
    have hjl := (List.getElem?_eq_some_iff.1 hj).1
    rw [size_list, hwz] at hjl
    rw [HWD.out, List.getElem?_take, if_pos hjl, List.getElem?_drop] at hj
    exact hexv_in (run_all (p := hexL) (by rw [← hk]; exact hjl) hj))
  have HWZ := Lib.hid hwz
  have hks : a + 1 + k ≤ s.size := by omega
  have hrz : (ws.size : Int) = (k : Int) := by omega
  unfold hexL at HRun
  clear h hk hk2 hws hrl hsz hwz
  by_cases hodd : k % 2 = 0
  · have ho : ((k : Int).tmod 2 != 0) = false := by rw [bne_eq_false_iff_eq, Int.tmod_eq_emod_of_nonneg (by omega)]; omega
    have ho2 : ((k : Int) % 2 != 0) = false := by rw [bne_eq_false_iff_eq]; omega
    by_cases hlong : 131072 < k
    · have HPO : Hid (bytesP s.data.toList a n = .error (a, 2)) := Lib.hid (by rw [HB.out, if_neg (by omega), if_pos hlong])
      have hl2 : (131072 : Int) < (k : Int) := by omega
      clear hodd
      go_enter Tryz.func139, Tryz.ntmps139
      go_wp2_with fail
      refine HRun.out.mono ?_
      rintro e w1 ⟨rfl, hpa, hps⟩
      go_wp2_with fail
      refine (HF.out a 2 _).mono ?_
      rintro e w2 ⟨rfl, h3⟩
      exact ⟨rfl, v_bad HPO.out ⟨rfl, (((Pside.refl _ _).set 1 _).trans hps).trans h3⟩⟩
    · have HPO : Hid (bytesP s.data.toList a n = .ok (.bytes (pairL ws.data.toList), a + 1 + k, n)) := Lib.hid (by rw [HB.out, if_neg (by omega), if_neg hlong])
      have hl2 : ¬ (131072 : Int) < (k : Int) := by omega
      obtain ⟨m, rfl⟩ : ∃ m, k = 2 * m := ⟨k / 2, by omega⟩
      have hmm : m ≤ 65536 := by omega
      clear hodd hlong
      go_enter Tryz.func139, Tryz.ntmps139
      go_wp2_with fail
      refine HRun.out.mono ?_
      rintro e w1 ⟨rfl, hpa, hps⟩
      have HPA := Lib.hid hpa
      have HPS := Lib.hid hps
      clear hpa hps
      go_wp2_with fail
      go_loopg [5, 6] m (fun g v j wr => ∃ i : Nat, j = .int .i64 (2 * (i : Int)) ∧ i + g = m ∧ OwnB wr w1.heap.size v (pairL (ws.data.toList.take (2 * i))) ∧ Below w1.heap.size w1 wr)
      case atStart => exact ⟨0, rfl, by omega, ownsRow_empty w1 w1.heap.size 5 1 (Nat.le_refl _), (Below.refl _ _).alloc (Nat.le_refl _) _⟩
      case round =>
        obtain ⟨i, rfl, him, hown, hb⟩ := hrel
        have hsr := hb.size
        cases gk with
        | zero =>
          obtain rfl : i = m := by omega
          have hfull : ws.data.toList.take (2 * i) = ws.data.toList := List.take_of_length_le (by rw [size_list, HWZ.out]; exact Nat.le_refl _)
          rw [hfull] at hown
          have hlen : (pairL ws.data.toList).length = i := by rw [pairL_len, size_list, HWZ.out]; omega
          have hge : ¬ (2 * (i : Int) < (ws.size : Int)) := by omega
          obtain ⟨A2, c2, rfl, hA2, hB2⟩ := bytes_of_row hown
          have HRd : Hid (RdS wr (New w wr) (.bytes (pairL ws.data.toList)) (.iface 23 (.slice A2 (pairL ws.data.toList).length c2))) := Lib.hid ⟨A2, c2, rfl, by omega, hA2, hB2.more (fun b hb9 => ⟨by have := (HPS.out.size); simp at this; omega, hb9.2⟩)⟩
          have HPW : Hid (PaAt wr bp s (a + 1 + 2 * i) n) := Lib.hid (HPA.out.below hb)
          have HSW : Hid (Pside bp w wr) := Lib.hid ((((Pside.refl _ _).set 1 _).trans HPS.out).trans (Pside.of_below hb))
          rw [hlen] at HRd ⊢
          clear hown hb hB2 hfull
          go_wp2_with fail
          go_ret
          exact v_ok HPO.out rfl HRd.out HPW.out HSW.out
        | succ g =>
          obtain ⟨d, hd⟩ : ∃ d, ws.data.toList[2 * i]? = some d := ⟨_, List.getElem?_eq_getElem (by rw [size_list, HWZ.out]; omega)⟩
          obtain ⟨e, he⟩ : ∃ e, ws.data.toList[2 * i + 1]? = some e := ⟨_, List.getElem?_eq_getElem (by rw [size_list, HWZ.out]; omega)⟩
          have hix1 : ∀ W : World, (Instr.index 9 (.string ws) (.int .i64 (2 * (i : Int)))).run Tryz.prog W = .ok (.int .u8 (d.toNat : Int)) W := fun W => by have := index_at hd rfl W; simpa using this
          have hix2 : ∀ W : World, (Instr.index 9 (.string ws) (.int .i64 (2 * (i : Int) + 1))).run Tryz.prog W = .ok (.int .u8 (e.toNat : Int)) W := fun W => by have := index_at he rfl W; simpa using this
          have hd0 := HIN.out _ _ hd
          have he0 := HIN.out _ _ he
          have hd1 := hexv_lt d
          have he1 := hexv_lt e
          have HV1 : Hid (∀ W : World, Calls Tryz.prog 201 #[.int .u8 (d.toNat : Int)] W (fun e w' => e = .returned (.int .i64 (hexv d)) ∧ W = w')) := Lib.hid (fun W => hexv_any d _ rfl W)
          have HV2 : Hid (∀ W : World, Calls Tryz.prog 201 #[.int .u8 (e.toNat : Int)] W (fun e' w' => e' = .returned (.int .i64 (hexv e)) ∧ W = w')) := Lib.hid (fun W => hexv_any e _ rfl W)
          have HPL := Lib.hid (pairL_two ws.data.toList i d e hd he)
          obtain ⟨z, hz⟩ : ∃ z : UInt8, z = UInt8.ofNat (16 * (hexv d).toNat + (hexv e).toNat) := ⟨_, rfl⟩
          have hzz : (z.toNat : Int) = 16 * hexv d + hexv e := by rw [hz, UInt8.toNat_ofNat']; omega
          rw [← hz] at HPL
          have HZ := Lib.hid hzz
          generalize hexv d = y1 at *
          generalize hexv e = y2 at *
          have hw1 : IntKind.i64.wrap (16 * y1) = 16 * y1 := by rw [IntKind.wrap_i64]; omega
          have hw2 : IntKind.i64.wrap (16 * y1 + y2) = 16 * y1 + y2 := by rw [IntKind.wrap_i64]; omega
          have hw3 : IntKind.u8.wrap (16 * y1 + y2) = 16 * y1 + y2 := by rw [IntKind.wrap_u8]; omega
          have hw4 : IntKind.i64.wrap (2 * (i : Int) + 1) = 2 * (i : Int) + 1 := by rw [IntKind.wrap_i64]; omega
          have hw5 : IntKind.i64.wrap (2 * (i : Int) + 2) = 2 * (i : Int) + 2 := by rw [IntKind.wrap_i64]; omega
          have hlt2 : 2 * (i : Int) < (ws.size : Int) := by omega
          have hlp : (pairL (ws.data.toList.take (2 * i))).length ≤ 65536 := by rw [pairL_len, List.length_take]; omega
          obtain ⟨l, hl⟩ : ∃ l, l = pairL (ws.data.toList.take (2 * i)) := ⟨_, rfl⟩
          rw [← hl] at hown hlp HPL
          obtain ⟨A1, c1, rfl⟩ := ownsRow_form hown
          have S0 := hb.drew
          clear hd he hz hl hzz HIN
          go_wp2_with fail
          refine wp_region_mix (fun W => Below w1.heap.size w1 W) [(true, 0), (true, 1), (true, 2), (true, 3), (true, 6), (true, 7), (true, 8), (true, 9), (false, 4), (true, 5), (false, 10), (true, 11), (true, 12), (false, 13), (false, 14), (false, 15)] (by kernel_rfl) (by kernel_rfl) (fun _ _ _ _ _ h => h) ?_ ?_
          · ((exact S0))
          simp only [pickM, List.getElem?_cons_succ, List.getElem?_cons_zero]
          repeat (refine MixS.head (fun K hK => ?_); go_simp; first | (refine hK _ ?_; clear hK K) | (apply Exists.intro; refine ⟨fun W hW => ?_, hK _ ?_⟩; (first | (intros; rfl) | ((go_simp; rfl))); clear hK K))
          refine MixS.step (fun K hK => ?_)
          go_simp
          go_at_call 201
          refine (HV1.out _).mono ?_
          rintro e9 w9 ⟨rfl, rfl⟩
          refine hK _ _ S0 ?_
          clear hK K
          repeat (refine MixS.head (fun K hK => ?_); go_simp; first | (refine hK _ ?_; clear hK K) | (apply Exists.intro; refine ⟨fun W hW => ?_, hK _ ?_⟩; (first | (intros; rfl) | ((go_simp; rfl))); clear hK K))
          refine MixS.step (fun K hK => ?_)
          go_simp
          go_at_call 201
          refine (HV2.out _).mono ?_
          rintro e9 w9 ⟨rfl, rfl⟩
          refine hK _ _ S0 ?_
          clear hK K
          repeat (refine MixS.head (fun K hK => ?_); go_simp; first | (refine hK _ ?_; clear hK K) | (apply Exists.intro; refine ⟨fun W hW => ?_, hK _ ?_⟩; (first | (intros; rfl) | ((go_simp; rfl))); clear hK K))
          have S1 := (hb.alloc hsr (.cells #[.int .u8 (16 * y1 + y2)] 5)).drew
          refine MixS.step (fun K hK => ?_)
          go_simp
          refine hK _ _ S1 ?_
          clear hK K
          have hown2 : OwnB (wr.alloc (.cells #[.int .u8 (16 * y1 + y2)] 5)).drew w1.heap.size (.slice A1 l.length c1) l := World.ownsRow.drew (World.ownsRow.alloc hown _)
          refine MixS.step (fun K hK => ?_)
          refine wp_append_own _ (.tmp 40) (.tmp 53) 23 rfl w1.heap.size 5 i0 _ 1 1 Tryz.underlying23 hi0 hz0 hz1 hz2 rfl (by omega) (.slice A1 l.length c1) l.length _ rfl hown2 ⟨wr.heap.size, 0, none⟩ 1 1 [_] rfl rfl (news_at rfl) (one_of1 rfl) (by unfold maxLen; omega) (by omega) (by simp; omega) ?_
          intro v2 w2 hn2 hg2 _
          have ho2 := OwnB.app (m := [z]) rfl (by rw [← HZ.out]; rfl) hn2
          have S2 := S1.grown hg2 (by simp; omega) (fun j hj => (World.ownsRow.lt hown2 j hj).1)
          have HO : Hid (OwnB w2 w1.heap.size v2 (pairL (ws.data.toList.take (2 * (i + 1))))) := Lib.hid (by rw [HPL.out]; exact ho2)
          obtain ⟨A2, c2, hv2⟩ := ownsRow_form ho2
          subst hv2
          generalize l ++ [z] = l2 at *
          refine hK _ _ S2 ?_
          clear hK K hn2 hg2 hown2 hown hb ho2 S1 S0
          refine MixS.step (fun K hK => ?_)
          go_simp
          refine hK _ _ S2 ?_
          clear hK K
          refine MixS.nil ?_
          go_wp2_with fail
          go_roundg g
          case rel => exact ⟨i + 1, by first | go_num | (simp; omega), by omega, HO.out, S2⟩
          case measure => omega
  · have ho : ((k : Int).tmod 2 != 0) = true := by rw [bne_iff_ne, Int.tmod_eq_emod_of_nonneg (by omega)]; omega
    have ho2 : ((k : Int) % 2 != 0) = true := by rw [bne_iff_ne]; omega
    have HPO : Hid (bytesP s.data.toList a n = .error (a, 3)) := Lib.hid (by rw [HB.out, if_pos hodd])
    clear hodd
    go_enter Tryz.func139, Tryz.ntmps139
    go_wp2_with fail
    refine HRun.out.mono ?_
    rintro e w1 ⟨rfl, hpa, hps⟩
    go_wp2_with fail
    refine (HF.out a 3 _).mono ?_
    rintro e w2 ⟨rfl, h3⟩
    exact ⟨rfl, v_bad HPO.out ⟨rfl, (((Pside.refl _ _).set 1 _).trans hps).trans h3⟩⟩
end Go.Proofs.YtobpkelblpdajaaGreatDoor
