/- What a query answers, as a plain function. -/
import Derived.Test.YtbemeapjeipjlaaGreatDoorQL14
set_option linter.unusedVariables false
set_option linter.unusedSimpArgs false
namespace Go.Proofs.YtbemeapjeipjlaaGreatDoor
open Go Go.RowKit
inductive Out where
  | val (x : V)
  | gone (a : Int) (why : Nat)
abbrev oValue : ByteArray := ⟨#[118, 97, 108, 117, 101]⟩
abbrev oSelf : ByteArray := ⟨#[115, 101, 108, 102]⟩
abbrev oField : ByteArray := ⟨#[102, 105, 101, 108, 100]⟩
abbrev oDot : ByteArray := ⟨#[100, 111, 116]⟩
abbrev oOr : ByteArray := ⟨#[111, 114]⟩
abbrev oAnd : ByteArray := ⟨#[97, 110, 100]⟩
abbrev oNot : ByteArray := ⟨#[110, 111, 116]⟩
abbrev oIs : ByteArray := ⟨#[105, 115]⟩
abbrev oNeg : ByteArray := ⟨#[110, 101, 103]⟩
abbrev oList : ByteArray := ⟨#[108, 105, 115, 116]⟩
abbrev oCall : ByteArray := ⟨#[99, 97, 108, 108]⟩
abbrev oAt : ByteArray := ⟨#[97, 116]⟩
abbrev oIn : ByteArray := ⟨#[105, 110]⟩
abbrev oAdd : ByteArray := ⟨#[43]⟩
abbrev oSub : ByteArray := ⟨#[45]⟩
abbrev oMul : ByteArray := ⟨#[42]⟩
abbrev oDiv : ByteArray := ⟨#[47]⟩
abbrev oRem : ByteArray := ⟨#[37]⟩
abbrev oEq : ByteArray := ⟨#[61]⟩
abbrev oNe : ByteArray := ⟨#[33, 61]⟩
abbrev oLt : ByteArray := ⟨#[60]⟩
abbrev oLe : ByteArray := ⟨#[60, 61]⟩
abbrev oGt : ByteArray := ⟨#[62]⟩
abbrev oGe : ByteArray := ⟨#[62, 61]⟩
abbrev gLen : ByteArray := ⟨#[108, 101, 110]⟩
abbrev gKind : ByteArray := ⟨#[107, 105, 110, 100]⟩
abbrev gKeys : ByteArray := ⟨#[107, 101, 121, 115]⟩
abbrev gFirst : ByteArray := ⟨#[102, 105, 114, 115, 116]⟩
abbrev gLast : ByteArray := ⟨#[108, 97, 115, 116]⟩
abbrev gSum : ByteArray := ⟨#[115, 117, 109]⟩
abbrev gLeast : ByteArray := ⟨#[108, 101, 97, 115, 116]⟩
abbrev gMost : ByteArray := ⟨#[109, 111, 115, 116]⟩
abbrev gHas : ByteArray := ⟨#[104, 97, 115]⟩
abbrev gAny : ByteArray := ⟨#[97, 110, 121]⟩
abbrev gAll : ByteArray := ⟨#[97, 108, 108]⟩
abbrev gMap : ByteArray := ⟨#[109, 97, 112]⟩
abbrev gPick : ByteArray := ⟨#[112, 105, 99, 107]⟩
def kindWords : List ByteArray := [⟨#[]⟩, ⟨#[110, 105, 108]⟩, ⟨#[98, 111, 111, 108]⟩, ⟨#[105, 110, 116]⟩, ⟨#[102, 108, 111, 97, 116]⟩, ⟨#[116, 101, 120, 116]⟩, ⟨#[98, 121, 116, 101, 115]⟩, ⟨#[114, 101, 102]⟩, ⟨#[108, 105, 115, 116]⟩, ⟨#[100, 105, 99, 116]⟩, ⟨#[114, 101, 99, 111, 114, 100]⟩]
/- Where a word stands among words, if it does. -/
def idxW : List ByteArray → ByteArray → Nat → Int
  | [], _, _ => -1
  | x :: r, s, k => if (s.toList == x.toList) = true then k else idxW r s (k + 1)
def fieldsOf : V → Option (List (ByteArray × V))
  | .dict l => some l
  | .record _ _ l => some l
  | _ => none
def underV : List (ByteArray × V) → ByteArray → Option V
  | [], _ => none
  | (n, x) :: r, s => if (n.toList == s.toList) = true then some x else underV r s
def fieldV (a : Int) (v : V) (s : ByteArray) : Out := match fieldsOf v with
  | none => .gone a 172
  | some l => .val ((underV l s).getD .nil)
noncomputable def goodV (a : Int) (x : V) : Out := if (checkV x).2 = 0 then .val x else .gone a (checkV x).2
noncomputable def equalV : V → V → Bool
  | .int n, .flt f => match exactV f with
    | some m => m == n
    | none => false
  | .flt f, .int n => match exactV f with
    | some m => m == n
    | none => false
  | a, b => sameV a b
def lessV : V → V → Option Bool
  | .int a, .int b => some (decide (a < b))
  | .int a, .flt g => some (behindV g a)
  | .flt f, .int b => some (aheadV f b)
  | .flt f, .flt g => some (ltF f g)
  | .text a, .text b => some (lessS a b)
  | .bytes a, .bytes b => some (decide (ordB a b < 0))
  | .bool a, .bool b => some (!a && b)
  | _, _ => none
def nanOf : V → Bool
  | .flt f => nanB f
  | _ => false
noncomputable def heldV (op : ByteArray) (a : Int) (x y : V) : Out :=
  if op = oEq then .val (.bool (equalV x y))
  else if op = oNe then .val (.bool (!equalV x y))
  else if op = oLt then (match lessV x y with | none => .gone a 172 | some b => .val (.bool b))
  else if op = oGt then (match lessV y x with | none => .gone a 172 | some b => .val (.bool b))
  else if op = oLe then (match lessV y x with | none => .gone a 172 | some b => .val (.bool (!b && (!nanOf y && !nanOf x))))
  else (match lessV x y with | none => .gone a 172 | some b => .val (.bool (!b && (!nanOf x && !nanOf y))))
def addO (x y : Int) : Option Int := if (decide (x < wrap64 (x + y)) == decide (0 < y)) = true then some (wrap64 (x + y)) else none
def subO (x y : Int) : Option Int := if (decide (wrap64 (x - y) < x) == decide (0 < y)) = true then some (wrap64 (x - y)) else none
def mulO (x y : Int) : Option Int :=
  if x = 0 ∨ y = 0 then some 0
  else if wrap64 ((wrap64 (x * y)).tdiv y) = x ∧ ¬ (x = -1 ∧ y = -9223372036854775808) ∧ ¬ (y = -1 ∧ x = -9223372036854775808) then some (wrap64 (x * y)) else none
def divO (x y : Int) : Option Int := if y ≠ 0 ∧ ¬ (x = -9223372036854775808 ∧ y = -1) then some (wrap64 (x.tdiv y)) else none
def remO (x y : Int) : Option Int := if y = -1 then some 0 else if y ≠ 0 then some (x.tmod y) else none
def wholeO (op : ByteArray) (x y : Int) : Option Int :=
  if op = oAdd then addO x y else if op = oSub then subO x y else if op = oMul then mulO x y else if op = oDiv then divO x y else if op = oRem then remO x y else none
def intOut (a : Int) (r : Option Int) : Out := match r with
  | some n => .val (.int n)
  | none => .gone a 172
def arith? (op : ByteArray) : Option BinOp :=
  if op = oAdd then some .add else if op = oSub then some .sub else if op = oMul then some .mul else if op = oDiv then some .quo else none
def arithF (o : BinOp) (f g : Nat) : Nat := match floatBits o .f64 f g with
  | some r => oneV r
  | none => 9221120237041090561
def floatOf : V → Option Nat
  | .int n => some (FloatKind.f64.nearest n)
  | .flt f => some f
  | _ => none
noncomputable def joinedV (a : Int) : V → V → Out
  | .text x, .text y => goodV a (.text (x ++ y))
  | .bytes x, .bytes y => goodV a (.bytes (x ++ y))
  | .list x, .list y => goodV a (.list (x ++ y))
  | _, _ => .gone a 172
noncomputable def reckonV (op : ByteArray) (a : Int) (x y : V) : Out :=
  match x, y with
  | .int m, .int n => intOut a (wholeO op m n)
  | x, y => match floatOf x, floatOf y with
    | some f, some g => (match arith? op with | some o => .val (.flt (arithF o f g)) | none => .gone a 172)
    | _, _ => if op = oAdd then joinedV a x y else .gone a 172
def negV (a : Int) : V → Out
  | .int n => if n = -9223372036854775808 then .gone a 172 else .val (.int (-n))
  | .flt f => .val (.flt (oneV (Op.negFloat .f64 f)))
  | _ => .gone a 172
def notV (a : Int) : V → Out
  | .bool b => .val (.bool !b)
  | _ => .gone a 172
def placeAt (l : List V) (n : Int) : V := if n < 0 then (if n + l.length < 0 then .nil else l.getD (n + l.length).toNat .nil) else l.getD n.toNat .nil
def placeV' (a : Int) (v i : V) : Out := match v with
  | .list l => (match i with | .int n => .val (placeAt l n) | _ => .gone a 172)
  | v => (match i with | .text s => fieldV a v s | _ => .gone a 172)
noncomputable def withinV (a : Int) (x y : V) : Out := match y with
  | .list l => .val (.bool (l.any fun z => equalV x z))
  | y => match fieldsOf y, x with
    | some l, .text s => .val (.bool (underV l s).isSome)
    | _, _ => .gone a 172
def lengthV (a : Int) : V → Out
  | .text s => .val (.int s.size)
  | .bytes l => .val (.int l.length)
  | .list l => .val (.int l.length)
  | v => match fieldsOf v with
    | some l => .val (.int l.length)
    | none => .gone a 172
noncomputable def keysV (a : Int) (v : V) : Out := match fieldsOf v with
  | some l => goodV a (.list (l.map fun p => .text p.1))
  | none => .gone a 172
noncomputable def sumV (a : Int) : List V → V → Out
  | [], n => .val n
  | x :: r, n => match floatOf x with
    | none => .gone a 172
    | some _ => (match reckonV oAdd a n x with | .val m => sumV a r m | .gone b w => .gone b w)
def leadV (a : Int) (most : Bool) : List V → V → Out
  | [], n => .val n
  | x :: r, n => match (if most = true then lessV n x else lessV x n) with
    | none => .gone a 172
    | some b => leadV a most r (if b = true then x else n)
noncomputable def listedV (name : ByteArray) (a : Int) (l : List V) : Out :=
  if name = gSum then sumV a l (.int 0)
  else match l with
    | [] => .val .nil
    | x :: r => if name = gFirst then .val x
      else if name = gLast then .val ((x :: r).getLastD .nil)
      else match lessV x x with
        | none => .gone a 172
        | some _ => leadV a (decide (name = gMost)) r x
noncomputable def pairV (op : ByteArray) (a : Int) (x y : V) : Out :=
  if op = oAt then placeV' a x y else if op = oIn then withinV a x y else if op = oAdd ∨ op = oSub ∨ op = oMul ∨ op = oDiv ∨ op = oRem then reckonV op a x y else heldV op a x y
/- An asking: of a value, with so many asked before; how many were asked behind it. -/
abbrev Ask := V → Nat → Out × Nat
def bindA (r : Out × Nat) (K : V → Nat → Out × Nat) : Out × Nat := match r.1 with
  | .val x => K x r.2
  | .gone a w => (.gone a w, r.2)
def subA (l : List Ask) (i : Nat) : Ask := l.getD i fun _ n => (.gone 0 0, n)
def logicA (a : Int) (or : Bool) : List Ask → V → Nat → Out × Nat
  | [], _, n => (.val (.bool !or), n)
  | f :: r, v, n => bindA (f v n) fun x m => match x with
    | .bool b => if b = or then (.val (.bool b), m) else logicA a or r v m
    | _ => (.gone a 172, m)
noncomputable def listA (a : Int) : List Ask → V → List V → Nat → Out × Nat
  | [], _, o, n => (goodV a (.list o), n)
  | f :: r, v, o, n => bindA (f v n) fun x m => listA a r v (o ++ [x]) m
noncomputable def eachA (name : ByteArray) (a : Int) (f : Ask) : List V → List V → Nat → Out × Nat
  | [], o, n => (if name = gAny then .val (.bool false) else if name = gAll then .val (.bool true) else goodV a (.list o), n)
  | x :: r, o, n => bindA (f x n) fun y m =>
    if name = gMap then eachA name a f r (o ++ [y]) m
    else match y with
      | .bool b => if name = gAny ∧ b = true then (.val (.bool true), m)
        else if name = gAll ∧ b = false then (.val (.bool false), m)
        else if name = gPick ∧ b = true then eachA name a f r (o ++ [x]) m
        else eachA name a f r o m
      | _ => (.gone a 172, m)
def turnsB (name : ByteArray) : Bool := decide (name = gAny) || (decide (name = gAll) || (decide (name = gMap) || decide (name = gPick)))
noncomputable def hasV (a : Int) (x y : V) : Out := match fieldsOf x, y with
  | some l, .text s => .val (.bool (underV l s).isSome)
  | _, _ => .gone a 172
noncomputable def callA (name : ByteArray) (a : Int) (l : List Ask) (v : V) (n : Nat) : Out × Nat :=
  bindA (subA l 0 v n) fun x m =>
    if turnsB name = true then (match x with | .list xs => eachA name a (subA l 1) xs [] m | _ => (.gone a 172, m))
    else if name = gLen then (lengthV a x, m)
    else if name = gKind then (.val (.text (kindWords.getD (kindV x) ⟨#[]⟩)), m)
    else if name = gKeys then (keysV a x, m)
    else if name = gHas then bindA (subA l 1 v m) fun y k => (hasV a x y, k)
    else (match x with | .list xs => listedV name a xs | _ => .gone a 172, m)
noncomputable def literalV (t : Tm) : V := if (checkV (builtV t)).2 = 0 then builtV t else .nil
noncomputable def stepA (op : ByteArray) (a : Int) (name : ByteArray) (t : Tm) (l : List Ask) : Ask := fun v n =>
  if 1048576 < n + 1 then (.gone a 2, n + 1)
  else if op = oValue then (.val (literalV t), n + 1)
  else if op = oSelf then (.val v, n + 1)
  else if op = oField then (fieldV a v name, n + 1)
  else if op = oDot then bindA (subA l 0 v (n + 1)) fun x m => (fieldV a x name, m)
  else if op = oOr then logicA a true l v (n + 1)
  else if op = oAnd then logicA a false l v (n + 1)
  else if op = oNot then bindA (subA l 0 v (n + 1)) fun x m => (notV a x, m)
  else if op = oIs then bindA (subA l 0 v (n + 1)) fun x m => (.val (.bool (decide ((kindV x : Int) = idxW kindWords name 0))), m)
  else if op = oNeg then bindA (subA l 0 v (n + 1)) fun x m => (negV a x, m)
  else if op = oList then listA a l v [] (n + 1)
  else if op = oCall then callA name a l v (n + 1)
  else bindA (subA l 0 v (n + 1)) fun x m => bindA (subA l 1 v m) fun y k => (pairV op a x y, k)
mutual
/- What an expression answers. -/
noncomputable def askV : Ex → Ask
  | .mk op a l name t => stepA op a name t (askL l)
noncomputable def askL : List Ex → List Ask
  | [] => []
  | x :: r => askV x :: askL r
end
theorem askL_eq (l : List Ex) : askL l = l.map askV := by
  induction l with
  | nil => rfl
  | cons x r ih => simp [askL, ih]
end Go.Proofs.YtbemeapjeipjlaaGreatDoor
