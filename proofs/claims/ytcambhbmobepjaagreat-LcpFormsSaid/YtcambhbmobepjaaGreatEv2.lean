/- Ev2: the evaluator: operations, regions, code, calls. No condition. -/
import Derived.Test.YtcambhbmobepjaaGreatEv1
namespace Go.Proofs.YtcambhbmobepjaaGreat
set_option linter.unusedSimpArgs false
set_option linter.unusedVariables false
open Go.RowKit
set_option maxRecDepth 10000

noncomputable section
/-- no function of the program bears the name that calls treat apart -/
def noGor (P : Program) : Bool := P.funcs.toList.all fun fn => !(fn.name == "runtime.NumGoroutine")
def Fit (P : Program) : Prop := P.follows .mixedOrders = true ∧ noGor P = true
abbrev Spec := List AV → Hp → RT (AV × Hp)
inductive Ex where | normal | exit (id : Nat) | ret
abbrev Out := Ex × Tm × Hp
/-- what a block of a function does, where it is told -/
abbrev BSpec := Tm → Hp → RT Out

section
variable (P : Program)

def ofConst : Value → AV
  | .agg cs => bif cs.toList.all Value.oneCell' then .agg (cs.toList.map (.sc true)) else .any
  | .tuple _ => .any
  | v => .sc true v
def opnd (F : Tm) : Operand → AV
  | .tmp t => look t F.tm
  | .const v => ofConst v
  | .global _ => .any
  | .func f => .fn (.func f) [] []
/-- a value's cells -/
def cellsA : AV → Option (List AV)
  | .agg cs => some cs
  | .any => none
  | .tup _ => none
  | .rw _ _ => none
  | x => some [x]
def sizeT (t : TypeId) : Option Nat := (P.info? t).map (·.size)
/-- a slice whose structure is known tells of each element whether it is known -/
def hint (kn : Bool) (d : D) : Bool := bif kn then d.isK else false
def hintAll (kn : Bool) (d : D) : Bool := bif kn then d.toL.all (fun e => (e.cell 0).isK) else false
def leaf (kn : Bool) : Sh → D → AV
  | .int k, d => .sc (hint kn d) (.int k d.toI)
  | .bool, d => .sc (hint kn d) (.bool d.toB)
  | .str, d => .sc (hint kn d) (.string d.toS)
  | .sl es, d => .sl (hint kn d) es d none
def leaves (kn : Bool) : List Sh → D → Nat → List AV
  | [], _, _ => []
  | s :: ss, d, j => leaf kn s (d.cell j) :: leaves kn ss d (j + 1)
/-- cells, and no map -/
def isVar : List AV → Bool
  | [.tup _] => false
  | [.any] => false
  | [.agg _] => false
  | [.rw _ _] => false
  | _ => true
/-- a row's data -/
def rowOf (o : Nat) (h : Hp) : Option (List Sh × D) := match lookO o h.ob with | some [.rw es d] => some (es, d) | _ => none
/-- an element with other cells from j on -/
def putC : List Sh → Nat → Nat → List D → D → List D
  | [], _, _, _, _ => []
  | _ :: ss, k, j, [], e => e.cell k :: putC ss (k + 1) j [] e
  | _ :: ss, k, j, x :: r, e => bif Nat.ble j k then x :: putC ss (k + 1) j r e else e.cell k :: putC ss (k + 1) j (x :: r) e
def loadA (t : TypeId) (a : AV) (h : Hp) : RT AV :=
  match sizeT P t with
  | none => .bad 1
  | some n => match P.underlying t with
    | none => .bad 11
    | some td => match a with
      | .ptr o off => match lookO o h.ob with
        | none => .bad 2
        | some cs => bif isVar cs then (bif td.isRow then (bif Nat.ble (off + n) cs.length then .ok (.agg ((cs.drop off).take n)) else .bad 3)
          else match cs[off]? with | some x => .ok x | none => .bad 4) else .bad 160
      | .ep kn es d j => bif td.isRow then (bif Nat.ble n es.length then .ok (.agg (leaves kn (es.take n) d j)) else .bad 5)
          else match es with | s :: _ => .ok (leaf kn s (d.cell j)) | [] => .bad 6
      | .rp kn o m i j => match rowOf o h with
        | some (es, d) => bif Nat.beq m es.length then need kn (decide (i < d.len)) 170 (bif td.isRow then (bif Nat.ble (j + n) es.length then .ok (.agg (leaves kn ((es.drop j).take n) (d.get i) j)) else .bad 171)
          else match es.drop j with | s :: _ => .ok (leaf kn s ((d.get i).cell j)) | [] => .bad 172) else .bad 173
        | none => .bad 174
      | _ => .bad 7
def confA : Sh → AV → Option D
  | .int k, .sc kn (.int k' v) => bif decide (k = k') then some (bif kn then .ki v else .i v) else none
  | .bool, .sc kn (.bool v) => some (bif kn then .kb v else .b v)
  | .str, .sc kn (.string v) => some (bif kn then .ks v else .s v)
  | .sl es, .sl kn es' d _ => bif Sh.eqsL es es' then some (d.mkK kn) else none
  | .sl _, .sc _ (.slice none 0 0) => some (.kl [])
  | _, _ => none
def confL : List Sh → List AV → Option (List D)
  | [], [] => some []
  | s :: ss, x :: xs => match confA s x, confL ss xs with | some d, some ds => some (d :: ds) | _, _ => none
  | _, _ => none
def storeA (t : TypeId) (a x : AV) (h : Hp) : RT Hp :=
  match sizeT P t, a, cellsA x with
  | some n, .ptr o off, some new => match lookO o h.ob with
    | some cs => bif isVar cs && Nat.beq new.length n && Nat.ble (off + n) cs.length then .ok { h with ob := (o, cs.take off ++ new ++ cs.drop (off + n)) :: h.ob } else .bad 8
    | none => .bad 9
  | some n, .rp kn o m i j, some new => match rowOf o h with
    | some (es, d) => bif Nat.beq m es.length && Nat.beq new.length n && Nat.ble (j + n) es.length && Nat.ble 1 es.length then (match confL ((es.drop j).take n) new with
      | some ds => need kn (decide (i < d.len)) 175 (.ok { h with ob := (o, [.rw es (d.setE i (.t (putC es 0 j ds (d.get i))))]) :: h.ob })
      | none => .bad 176) else .bad 177
    | none => .bad 178
  | _, _, _ => .bad 10
/-- which entry of a map has a key -/
def findE (k : IntKind) (kn : Bool) (n : Int) : List AV → Nat → RT (Option (Nat × AV))
  | .sc k1 (.int k' m) :: v :: r, i => bif decide (k = k') then brk (kn && k1) (n == m) (.ok (some (i, v))) (findE k kn n r (i + 1)) else .bad 161
  | [], _ => .ok none
  | _, _ => .bad 162
def setE (k v : AV) : List AV → Nat → List AV
  | _ :: _ :: r, 0 => k :: v :: r
  | a :: b :: r, i + 1 => a :: b :: setE k v r i
  | l, _ => l
def mapOf (o : Nat) (h : Hp) : Option (List AV) := match lookO o h.ob with | some [.tup kvs] => some kvs | _ => none
def lookupA (t : TypeId) (m k : AV) (two : Bool) (h : Hp) : RT AV :=
  match P.underlying t, m, k with
  | some (.map kt vt), .mp o, .sc kn (.int kk n) => match P.underlying kt, mapOf o h with
    | some (.int _), some kvs => (findE kk kn n kvs 0).bind fun r => match r with
      | some (_, v) => .ok (bif two then .tup [v, .sc true (.bool true)] else v)
      | none => match (P.info? vt).bind (·.zero) with
        | some z => .ok (bif two then .tup [ofConst z, .sc true (.bool false)] else ofConst z)
        | none => .bad 163
    | _, _ => .bad 164
  | _, _, _ => .bad 165
def updateA (t : TypeId) (m k x : AV) (h : Hp) : RT Hp :=
  match P.underlying t, m, k with
  | some (.map kt _), .mp o, .sc kn (.int kk n) => match P.underlying kt, mapOf o h with
    | some (.int _), some kvs => (findE kk kn n kvs 0).bind fun r => match r with
      | some (i, _) => .ok { h with ob := (o, [.tup (setE k x kvs i)]) :: h.ob }
      | none => .ok { h with ob := (o, [.tup (kvs ++ [k, x])]) :: h.ob }
    | _, _ => .bad 166
  | _, _, _ => .bad 167
def newM (h : Hp) : AV × Hp := (.mp h.nx, { h with ob := (h.nx, [.tup []]) :: h.ob, nx := h.nx + 1 })
/-- a new variable -/
def newA (cs : List AV) (h : Hp) : AV × Hp := (.ptr h.nx 0, { h with ob := (h.nx, cs) :: h.ob, nx := h.nx + 1 })
def fillA (place : Nat → Option (Nat × Nat)) : List AV → List (Nat × AV) → Option (List AV)
  | cells, [] => some cells
  | cells, (i, x) :: rest => match place i, cellsA x with
    | some (off, n), some new => bif Nat.beq new.length n && Nat.ble (off + n) cells.length then fillA place (cells.take off ++ new ++ cells.drop (off + n)) rest else none
    | _, _ => none
def zeroA (t : TypeId) : Option (List AV) := match (P.info? t).bind (·.zero) with
  | some z => cellsA (ofConst z)
  | none => none
def fieldsA (fs : Array Field) (i : Nat) : Option (Nat × Nat) := match fs[i]? with
  | some f => (sizeT P f.type).map fun n => (f.offset, n)
  | none => none
def knownA : AV → Bool
  | .sc kn _ => kn
  | .sl kn _ _ _ => kn
  | _ => false
/-- the elements of a row of cells -/
def elsA (es : List Sh) : Nat → List AV → Option (List D)
  | 0, _ => some []
  | m + 1, cs => match confL es (cs.take es.length), elsA es m (cs.drop es.length) with | some d, some ds => some (.t d :: ds) | _, _ => none
/-- a slice: its shapes, its data -/
def asSl (es0 : List Sh) : AV → Option (Bool × List Sh × D)
  | .sl kn es d _ => some (kn, es, d)
  | .sc _ (.slice none 0 0) => some (true, es0, .l [])
  | _ => none
def newVec (kn : Bool) (es : List Sh) (d : D) (e : TypeId) (h : Hp) : AV × Hp :=
  (.sl kn es d (some (h.nv, h.ng)), { h with gn := (h.nv, h.ng, e) :: h.gn, nv := h.nv + 1, ng := h.ng + 1 })
def elemA (t : TypeId) : Option TypeId := match P.underlying t with | some (.slice e) => some e | _ => none

/-- a part of a row of cells -/
def partA (t : TypeId) (cs : List AV) (off : Nat) : Option AV :=
  match P.underlying t, sizeT P t with
  | some td, some n => bif td.isRow then some (.agg ((cs.drop off).take n)) else cs[off]?
  | _, _ => none
/-- both: (known, value) -/
def bothB (a b : Bool × Bool) : Bool × Bool := bif a.1 then (bif a.2 then b else (true, false)) else (a.1 && b.1, a.2 && b.2)
def eqFs (eq : TypeId → AV → AV → Option (Bool × Bool)) (xs ys : List AV) : List Field → Option (Bool × Bool)
  | [] => some (true, true)
  | f :: fs => bif decide (f.name = "_") then none else match partA P f.type xs f.offset, partA P f.type ys f.offset with
    | some a, some b => match eq f.type a b, eqFs eq xs ys fs with
      | some r, some s => some (bothB r s)
      | _, _ => none
    | _, _ => none
def eqIs (eq : AV → AV → Option (Bool × Bool)) (e : TypeId) (c : Nat) (xs ys : List AV) : List Nat → Option (Bool × Bool)
  | [] => some (true, true)
  | i :: is => match partA P e xs (i * c), partA P e ys (i * c) with
    | some a, some b => match eq a b, eqIs eq e c xs ys is with
      | some r, some s => some (bothB r s)
      | _, _ => none
    | _, _ => none
/-- whether two values are the same -/
def eqAV : Nat → TypeId → AV → AV → Option (Bool × Bool)
  | 0, _, _, _ => none
  | n + 1, t, x, y => match P.underlying t, x, y with
    | some (.int _), .sc k1 (.int k a), .sc k2 (.int k' b) => bif decide (k = k') then some (k1 && k2, a == b) else none
    | some .string, .sc k1 (.string a), .sc k2 (.string b) => some (k1 && k2, a.toList == b.toList)
    | some .bool, .sc k1 (.bool a), .sc k2 (.bool b) => some (k1 && k2, a == b)
    | some (.struct fs), .agg xs, .agg ys => bif P.stoodInHeld t then none else eqFs P (eqAV n) xs ys fs.toList
    | some (.array m e), .agg xs, .agg ys => match sizeT P e with
      | some c => eqIs P (eqAV n e) e c xs ys (List.range m)
      | none => none
    | _, _, _ => none
def indexA (t : TypeId) (x i : AV) : RT AV :=
  match P.underlying t, x, i with
  | some (.array m e), .agg cs, .sc true (.int _ n) => match sizeT P e with
    | some k => bif decide (0 ≤ n ∧ n < m) then (match partA P e cs (n.toNat * k) with | some v => .ok v | none => .bad 152) else .bad 153
    | none => .bad 154
  | some .string, .sc k1 (.string s), .sc k2 (.int _ n) => need (k1 && k2) (decide (0 ≤ n ∧ n < s.size)) 155 (.ok (.sc (k1 && k2) (.int .u8 (s.data.getD n.toNat 0).toNat)))
  | _, _, _ => .bad 156
def fieldA (t : TypeId) (x : AV) (f : Nat) : RT AV :=
  match P.underlying t, x with
  | some (.struct fs), .agg cs => match fs[f]? with
    | some fd => match partA P fd.type cs fd.offset with | some v => .ok v | none => .bad 157
    | none => .bad 158
  | _, _ => .bad 159
def intOp (op : BinOp) (k : IntKind) (kn : Bool) (a b : Int) : RT AV :=
  let r (n : Int) : RT AV := .ok (.sc kn (.int k n))
  let c (v : Bool) : RT AV := .ok (.sc kn (.bool v))
  match op with
  | .add => r (k.wrap (a + b))
  | .sub => r (k.wrap (a - b))
  | .mul => r (k.wrap (a * b))
  | .quo => need kn (b != 0) 20 (r (k.wrap (a.tdiv b)))
  | .rem => need kn (b != 0) 21 (r (a.tmod b))
  | .and => r (k.wrap (BitVec.ofInt k.bits a &&& BitVec.ofInt k.bits b).toNat)
  | .or => r (k.wrap (BitVec.ofInt k.bits a ||| BitVec.ofInt k.bits b).toNat)
  | .xor => r (k.wrap (BitVec.ofInt k.bits a ^^^ BitVec.ofInt k.bits b).toNat)
  | .andNot => r (k.wrap (BitVec.ofInt k.bits a &&& ~~~ BitVec.ofInt k.bits b).toNat)
  | .eql => c (a == b)
  | .neq => c (a != b)
  | .lss => c (decide (a < b))
  | .leq => c (decide (a ≤ b))
  | .gtr => c (decide (a > b))
  | .geq => c (decide (a ≥ b))
  | _ => .bad 22
def strOp (op : BinOp) (kn : Bool) (a b : ByteArray) : RT AV :=
  match op with
  | .eql => .ok (.sc kn (.bool (a.toList == b.toList)))
  | .neq => .ok (.sc kn (.bool (!(a.toList == b.toList))))
  | .lss => .ok (.sc kn (.bool (Op.bytesLess a.toList b.toList)))
  | .add => need kn (decide (a.size + b.size ≤ maxLen)) 23 (.ok (.sc kn (.string (a ++ b))))
  | _ => .bad 24
def binA (op : BinOp) (t : TypeId) (x y : AV) : RT AV :=
  match x, y with
  | .sc k1 (.int k a), .sc k2 (.int k' b) => match op with
    | .shl => need (k1 && k2) (decide (0 ≤ b)) 25 (.ok (.sc (k1 && k2) (.int k (k.wrap (a * 2 ^ (min b.toNat k.bits))))))
    | .shr => need (k1 && k2) (decide (0 ≤ b)) 26 (.ok (.sc (k1 && k2) (.int k (a.fdiv (2 ^ (min b.toNat k.bits))))))
    | op => bif decide (k = k') then intOp op k (k1 && k2) a b else .bad 27
  | .sc k1 (.string a), .sc k2 (.string b) => strOp op (k1 && k2) a b
  | .sc k1 (.bool a), .sc k2 (.bool b) => match P.underlying t with
    | some .bool => match op with
      | .eql => .ok (.sc (k1 && k2) (.bool (a == b)))
      | .neq => .ok (.sc (k1 && k2) (.bool (!(a == b))))
      | _ => .bad 28
    | _ => .bad 29
  | .sc _ .nilFunc, .sc _ .nilFunc => match P.underlying t, op with
    | some (.func ..), .eql => .ok (.sc true (.bool true))
    | some (.func ..), .neq => .ok (.sc true (.bool false))
    | _, _ => .bad 30
  | .sl kn _ d _, .sc _ (.slice none 0 0) => match P.underlying t, op with
    | some (.slice _), .eql => brk kn (decide (d.len = 0)) (.all (.ok (.sc true (.bool true))) (.ok (.sc true (.bool false)))) (.ok (.sc true (.bool false)))
    | some (.slice _), .neq => brk kn (decide (d.len = 0)) (.all (.ok (.sc true (.bool false))) (.ok (.sc true (.bool true)))) (.ok (.sc true (.bool true)))
    | _, _ => .bad 33
  | .sc _ (.slice none 0 0), .sc _ (.slice none 0 0) => match P.underlying t, op with
    | some (.slice _), .eql => .ok (.sc true (.bool true))
    | some (.slice _), .neq => .ok (.sc true (.bool false))
    | _, _ => .bad 34
  | .agg xs, .agg ys => bif P.eqGuardType P.depth t then .bad 150 else match op, eqAV P 16 t (.agg xs) (.agg ys) with
    | .eql, some (kn, r) => .ok (.sc kn (.bool r))
    | .neq, some (kn, r) => .ok (.sc kn (.bool (!r)))
    | _, _ => .bad 151
  | .fn _ _ _, .sc _ .nilFunc => match P.underlying t, op with
    | some (.func ..), .eql => .ok (.sc true (.bool false))
    | some (.func ..), .neq => .ok (.sc true (.bool true))
    | _, _ => .bad 31
  | _, _ => .bad 32
def unA (op : UnOp) (x : AV) : RT AV :=
  match op, x with
  | .not, .sc kn (.bool b) => .ok (.sc kn (.bool (!b)))
  | .neg, .sc kn (.int k n) => .ok (.sc kn (.int k (k.wrap (0 - n))))
  | _, _ => .bad 33
def convA (src dst : TypeId) (x : AV) (h : Hp) : RT AV :=
  match P.underlying src, P.underlying dst, x with
  | some (.int _), some (.int k), .sc kn (.int _ n) => .ok (.sc kn (.int k (k.wrap n)))
  | some (.slice e), some .string, .sl kn es d _ => match P.underlying e, es with
    | some (.int .u8), [.int .u8] => .ok (.sc (hintAll kn d) (.string d.str))
    | _, _ => .bad 34
  | some (.slice e), some .string, .sc _ (.slice none 0 0) => match P.underlying e with
    | some (.int .u8) => .ok (.sc true (.string .empty))
    | _ => .bad 35
  | _, _, _ => .bad 36
/-- a bound of a slice -/
def boundA (dflt : Int) : Option AV → Option (Bool × Int)
  | none => some (true, dflt)
  | some (.sc kn (.int _ n)) => some (kn, n)
  | _ => none
def sliceA (t : TypeId) (x : AV) (lo hi mx : Option AV) : RT AV :=
  match elemA P t with
  | some e => match asSl (shE P e) x, sizeT P e with
    | some (kn, es, d), some n => match boundA 0 lo, boundA d.len hi, boundA d.len mx with
      | some (k1, l), some (k2, u), some (k3, m) => bif Nat.beq n es.length && (mx.isNone || hi.isSome) then
          need (kn && k1 && k2 && k3) (decide (0 ≤ l ∧ l ≤ u ∧ u ≤ m ∧ m ≤ d.len)) 37 (.ok (.sl (kn && k1 && k2) es (d.sub l.toNat u.toNat) none)) else .bad 38
      | _, _, _ => .bad 39
    | _, _ => .bad 40
  | none => .bad 41
def indexAddrA (t : TypeId) (x i : AV) : RT AV :=
  match P.underlying t, x, i with
  | some (.slice e), .sl kn es d _, .sc k2 (.int _ n) => bif (match sizeT P e with | some m => Nat.beq m es.length | none => false) then
      need (kn && k2) (decide (0 ≤ n ∧ n < d.len)) 42 (.ok (.ep (kn && k2) es (d.get n.toNat) 0)) else .bad 43
  | some (.slice _), .sc _ (.slice none 0 0), .sc k2 (.int _ _) => need k2 false 48 (.bad 49)
  | some (.slice e), .rsl kn o m len, .sc k2 (.int _ n) => bif (match sizeT P e with | some k => Nat.beq k m | none => false) then
      need (kn && k2) (decide (0 ≤ n ∧ n < (len : Int))) 179 (.ok (.rp (kn && k2) o m n.toNat 0)) else .bad 180
  | some (.array m e), .ptr o off, .sc true (.int _ n) => match sizeT P e with
    | some k => bif decide (0 ≤ n ∧ n < m) then .ok (.ptr o (off + n.toNat * k)) else .bad 44
    | none => .bad 45
  | some (.array m e), .ep kn es d j, .sc true (.int _ n) => match sizeT P e with
    | some k => bif decide (0 ≤ n ∧ n < m) && Nat.ble (n.toNat * k) es.length then .ok (.ep kn (es.drop (n.toNat * k)) d (j + n.toNat * k)) else .bad 46
    | none => .bad 47
  | _, _, _ => .bad 50
def fieldAddrA (s : TypeId) (x : AV) (f : Nat) : RT AV :=
  match P.underlying s with
  | some (.struct fs) => match fs[f]? with
    | some fd => match sizeT P fd.type with
      | some (_ + 1) => match x with
        | .ptr o off => .ok (.ptr o (off + fd.offset))
        | .ep kn es d j => bif Nat.ble fd.offset es.length then .ok (.ep kn (es.drop fd.offset) d (j + fd.offset)) else .bad 51
        | .rp kn o m i j => .ok (.rp kn o m i (j + fd.offset))
        | _ => .bad 52
      | _ => .bad 53
    | none => .bad 54
  | _ => .bad 55
def buildA (t : TypeId) (parts : List (Nat × AV)) : RT AV :=
  match zeroA P t with
  | none => .bad 56
  | some z => match P.underlying t with
    | some (.struct fs) => bif fs.toList.all (fun f => (sizeT P f.type).isSome) then (match fillA (fieldsA P fs) z parts with | some cs => .ok (.agg cs) | none => .bad 57) else .bad 79
    | some (.array _ e) => match sizeT P e with
      | some n => match fillA (fun i => some (i * n, n)) z parts with | some cs => .ok (.agg cs) | none => .bad 58
      | none => .bad 59
    | _ => .bad 60
def rep {α : Type} (z : List α) : Nat → List α
  | 0 => []
  | m + 1 => z ++ rep z m
def buildSliceA (t : TypeId) (len : Nat) (parts : List (Nat × AV)) (h : Hp) : RT (AV × Hp) :=
  match elemA P t with
  | none => .bad 61
  | some e => match sizeT P e, zeroA P e with
    | some n, some z => bif Nat.ble (len * n) 16777216 && Nat.beq z.length n && Nat.beq (shE P e).length n && Nat.ble 1 n && Nat.ble (len * szB (shE P e)) room then
        match fillA (fun i => some (i * n, n)) (rep z len) parts with
        | some cs => match elsA (shE P e) len cs with
          | some ds => .ok (newVec true (shE P e) (.l ds) e h)
          | none => .bad 62
        | none => .bad 63 else .bad 64
    | _, _ => .bad 65
def appendA (t0 : TypeId) (s x : AV) (h : Hp) : RT (AV × Hp) :=
  match elemA P t0 with
  | none => .bad 66
  | some e => match P.info? e with
    | none => .bad 67
    | some inf => match inf.zero with
      | none => .bad 68
      | some z => bif Nat.beq z.cells.size inf.size && Nat.ble 1 inf.size && Nat.ble 1 inf.bytes && Nat.beq (shE P e).length inf.size && Nat.ble inf.bytes (szB (shE P e)) then
        match asSl (shE P e) x with
        | none => .bad 69
        | some (k2, es', d') => match s with
          | .sl k1 es d (some (k, g)) => match lookG k h.gn with
            | some (g', e') => bif Nat.beq g g' && Nat.beq e e' && Sh.eqsL es es' && Sh.eqsL es (shE P e) then
                let r : RT (AV × Hp) := .ok (.sl (k1 && k2) es (d.app d') (some (k, h.ng)), { h with gn := (k, h.ng, e) :: h.gn, ng := h.ng + 1 })
                bif k1 && Nat.beq d.len 0 then r else need (k1 && k2) (decide ((d.len + d'.len) * szB es ≤ room)) 70 r else .bad 71
            | none => .bad 72
          | .sc _ (.slice none 0 0) => bif Sh.eqsL (shE P e) es' then .ok (newVec k2 es' ((D.l []).app d') e h) else .bad 74
          | _ => .bad 75 else .bad 76
def lenA (t : TypeId) (x : AV) : RT AV :=
  match P.underlying t, x with
  | some (.slice _), .sl kn _ d _ => .ok (.sc kn (.int .i64 d.len))
  | some (.slice _), .sc _ (.slice none 0 0) => .ok (.sc true (.int .i64 0))
  | some (.slice _), .rsl kn _ _ len => .ok (.sc kn (.int .i64 len))
  | some .string, .sc kn (.string s) => .ok (.sc kn (.int .i64 s.size))
  | some (.array m _), _ => .ok (.sc true (.int .i64 m))
  | _, _ => .bad 77
def imin (a b : Int) : Int := if b < a then b else a
def imax (a b : Int) : Int := if b > a then b else a
def minA : List AV → RT AV
  | [.sc k1 (.int k a), .sc k2 (.int _ b)] => .ok (.sc (k1 && k2) (.int k (imin a b)))
  | _ => .bad 78
def maxA : List AV → RT AV
  | [.sc k1 (.int k a), .sc k2 (.int _ b)] => .ok (.sc (k1 && k2) (.int k (imax a b)))
  | _ => .bad 78
def builtinA (b : Builtin) (ts : Array TypeId) (xs : List AV) (h : Hp) : RT (AV × Hp) :=
  match b, xs with
  | .len, [x] => match ts.toList with | [t] => (lenA P t x).bind fun v => .ok (v, h) | _ => .bad 79
  | .append, [s, x] => match ts.toList with
    | [t, t'] => bif Nat.beq t t' then appendA P t s x h else .bad 80
    | _ => .bad 81
  | .min, xs => (minA xs).bind fun v => .ok (v, h)
  | .max, xs => (maxA xs).bind fun v => .ok (v, h)
  | _, _ => .bad 82
def evOp (call : FuncId → Spec) (o : Oper) (F : Tm) (h : Hp) : RT (AV × Hp) :=
  let v (r : RT AV) : RT (AV × Hp) := r.bind fun a => .ok (a, h)
  match o.op with
  | .move x => .ok (opnd F x, h)
  | .assign x => .ok (opnd F x, h)
  | .pick c a b => match opnd F c with | .sc kn (.bool t) => brk kn t (.ok (opnd F a, h)) (.ok (opnd F b, h)) | _ => .bad 83
  | .alloc e => match zeroA P e with | some cs => .ok (newA cs h) | none => .bad 84
  | .box _ x => match cellsA (opnd F x) with | some cs => .ok (newA cs h) | none => .bad 85
  | .build t ps => v (buildA P t (ps.toList.map fun p => (p.1, opnd F p.2)))
  | .buildSlice t n ps => buildSliceA P t n (ps.toList.map fun p => (p.1, opnd F p.2)) h
  | .load t a => v (loadA P t (opnd F a) h)
  | .store t a x => (storeA P t (opnd F a) (opnd F x) h).bind fun h => .ok (.any, h)
  | .makeMap _ none => .ok (newM h)
  | .lookup t m k two => v (lookupA P t (opnd F m) (opnd F k) two h)
  | .mapUpdate t m k x => (updateA P t (opnd F m) (opnd F k) (opnd F x) h).bind fun h => .ok (.any, h)
  | .nilCheck x => match opnd F x with
    | .ptr o off => .ok (.ptr o off, h)
    | .ep kn es d j => .ok (.ep kn es d j, h)
    | .rp kn o n i j => .ok (.rp kn o n i j, h)
    | .fn (.func f) a c => .ok (.fn (.func f) a c, h)
    | _ => .bad 86
  | .binOp op t x y _ => v (binA P op t (opnd F x) (opnd F y))
  | .unOp op _ x => v (unA op (opnd F x))
  | .convert s d x => v (convA P s d (opnd F x) h)
  | .makeFunc f a c => .ok (.fn f (a.toList.map (opnd F)) (c.toList.map (opnd F)), h)
  | .slice t x lo hi mx => v (sliceA P t (opnd F x) (lo.map (opnd F)) (hi.map (opnd F)) (mx.map (opnd F)))
  | .fieldAddr s x f => v (fieldAddrA P s (opnd F x) f)
  | .indexAddr t x i => v (indexAddrA P t (opnd F x) (opnd F i))
  | .index t x i => v (indexA P t (opnd F x) (opnd F i))
  | .field t x f => v (fieldA P t (opnd F x) f)
  | .extract t i => match opnd F t with | .tup vs => (match vs[i]? with | some a => .ok (a, h) | none => .bad 87) | _ => .bad 88
  | .call c => match c.callee with
    | .value f => match opnd F f with
      | .fn (.func g) a cap => call g (a ++ c.args.toList.map (opnd F) ++ cap) h
      | _ => .bad 89
    | .builtin b => builtinA P b c.argTypes (c.args.toList.map (opnd F)) h
    | _ => .bad 90
  | _ => .bad 91

def putA (F : Tm) (dst : Option Tmp) (v : AV) : RT Tm :=
  match dst with
  | none => .ok F
  | some d => bif Nat.blt d F.nt then .ok { F with tm := (d, v) :: F.tm } else .bad 92
def setA (F : Tm) (d : Nat) (b : Bool) : Tm := { F with tm := (d, .sc true (.bool b)) :: F.tm }
/-- a guard: go on, or leave out -/
def guardA {α : Type} (ops : Array Oper) (o : Oper) (F : Tm) (go skip : Tm → RT α) : RT α :=
  match o.guard with
  | none => go F
  | some (j, want) => match (ops[j]?).bind (·.dst) with
    | none => .bad 93
    | some d => match look d F.tm with
      | .sc kn (.bool b) => brk kn b (bif want then go (setA F d true) else skip (setA F d true)) (bif want then skip (setA F d false) else go (setA F d false))
      | .tup [] => skip F
      | _ => .bad 94
/-- a call that is put off -/
def deferA (o : Oper) (F : Tm) : Option (RT Tm) :=
  match o.op with
  | .defer c => some (match c.callee with
    | .value f => match opnd F f with
      | .fn (.func g) a cap => putA { F with df := (g, a ++ c.args.toList.map (opnd F) ++ cap) :: F.df } o.dst .any
      | _ => .bad 110
    | _ => .bad 111)
  | _ => none
def evStep (call : FuncId → Spec) (ops : Array Oper) (o : Oper) (F : Tm) (h : Hp) : RT (Tm × Hp) :=
  guardA ops o F (fun F => match deferA o F with
    | some r => r.bind fun F => .ok (F, h)
    | none => (evOp P call o F h).bind fun r => (putA F o.dst r.1).bind fun F => .ok (F, r.2)) (fun F => (putA F o.dst (.tup [])).bind fun F => .ok (F, h))
def evList (call : FuncId → Spec) (ops : Array Oper) (l : List Oper) : Tm → Hp → RT (Tm × Hp) :=
  @List.rec Oper (fun _ => Tm → Hp → RT (Tm × Hp)) (fun F h => .ok (F, h)) (fun o _ r F h => (evStep P call ops o F h).bind fun x => r x.1 x.2) l
theorem evList_nil (call : FuncId → Spec) (ops : Array Oper) (F : Tm) (h : Hp) : evList P call ops [] F h = .ok (F, h) := rfl
theorem evList_cons (call : FuncId → Spec) (ops : Array Oper) (o : Oper) (rest : List Oper) (F : Tm) (h : Hp) : evList P call ops (o :: rest) F h = (evStep P call ops o F h).bind fun r => evList P call ops rest r.1 r.2 := rfl

/-! A region that draws its order. -/
def cnt (o : Nat) (l : List (Nat × List AV)) : Nat := @List.rec (Nat × List AV) (fun _ => Nat) 0 (fun kv _ r => bif Nat.beq kv.1 o then Nat.succ r else r) l
theorem cnt_nil (o : Nat) : cnt o [] = 0 := rfl
theorem cnt_con (o k : Nat) (v : List AV) (r : List (Nat × List AV)) : cnt o ((k, v) :: r) = bif Nat.beq k o then cnt o r + 1 else cnt o r := rfl
/-- how often a block was written -/
def ver (o : Nat) (h : Hp) : Nat := h.ep + cnt o h.ob
/-- what waits for what -/
def waits (i : Nat) (o : Oper) : Bool := o.after.any fun e => Region.binds .any e && e.on == i
/-- an operation that reads alone: it may be taken first -/
def earlyA (o : Oper) : Bool :=
  match o.op with
  | .move _ | .assign _ | .pick .. | .build .. | .load .. | .nilCheck _ | .binOp .. | .unOp .. | .convert .. | .makeFunc .. | .slice .. | .fieldAddr .. | .indexAddr .. | .extract .. | .index .. | .field .. => true
  | .call { callee := .builtin .len, .. } | .call { callee := .builtin .min, .. } | .call { callee := .builtin .max, .. } => true
  | _ => false
/-- what a promise is: operation i read block o when it had been written n times -/
abbrev Prm := List (Nat × Nat × Nat)
/-- the block that an address points into, where it may change -/
def tgt : AV → Option Nat
  | .ptr o _ => some o
  | .rp _ o _ _ _ => some o
  | _ => none
def promise (i : Nat) (o : Oper) (F : Tm) (h : Hp) : Prm :=
  match o.op with
  | .load _ a => match tgt (opnd F a) with | some b => [(i, b, ver b h)] | none => []
  | _ => []
def keepP (oj : Oper) : Prm → Prm
  | [] => []
  | p :: r => bif waits p.1 oj then keepP oj r else p :: keepP oj r
def keeps (h : Hp) : Prm → Bool
  | [] => true
  | (_, b, n) :: r => Nat.beq (ver b h) n && keeps h r
def evDrawn (call : FuncId → Spec) (ops : Array Oper) : Nat → Array Bool → Prm → Tm → Hp → RT (Tm × Hp)
  | 0, listed, _, F, h => match Region.ready .any ops listed with | [] => .ok (F, h) | _ => .bad 95
  | n + 1, listed, pr, F, h =>
    let rdy := Region.ready .any ops listed
    match rdy.find? (fun i => match ops[i]? with | some o => earlyA o | none => false) with
    | some i => match ops[i]? with
      | some o => bif Region.free .any ops listed i then
          (evStep P call ops o F h).bind fun r => evDrawn call ops n (listed.setIfInBounds i true) (promise i o F h ++ pr) r.1 r.2 else .bad 96
      | none => .bad 97
    | none =>
      let one (i : Nat) : RT (Tm × Hp) := match ops[i]? with
        | some o => (evStep P call ops o F h).bind fun r => bif keeps r.2 (keepP o pr) then evDrawn call ops n (listed.setIfInBounds i true) (keepP o pr) r.1 r.2 else .bad 98
        | none => .bad 99
      match rdy with
      | [] => .ok (F, h)
      | [i] => one i
      | [i, j] => .all (one i) (one j)
      | [i, j, k] => .all (one i) (.all (one j) (one k))
      | _ => .bad 100

/-! A region in which nothing changes: whatever the order, the same comes out: so it is read in the text's order. -/
mutual
/-- a value, what the heap h does not know left out -/
def calm (h : Hp) : AV → AV
  | .ptr o off => match lookO o h.ob with | some _ => .ptr o off | none => .any
  | .mp o => match lookO o h.ob with | some _ => .mp o | none => .any
  | .rsl kn o n len => match lookO o h.ob with | some _ => .rsl kn o n len | none => .any
  | .rp kn o n i j => match lookO o h.ob with | some _ => .rp kn o n i j | none => .any
  | .sl kn es d tip => match tip with
    | some (k, g) => bif Nat.blt k h.nv && Nat.blt g h.ng then .sl kn es d (some (k, g)) else .sl kn es d none
    | none => .sl kn es d none
  | .fn f a c => .fn f (calmL h a) (calmL h c)
  | .agg cs => .agg (calmL h cs)
  | .tup vs => .tup (calmL h vs)
  | .any => .any
  | .sc kn v => .sc kn v
  | .ep kn es d j => .ep kn es d j
  | .rw es d => .rw es d
def calmL (h : Hp) : List AV → List AV
  | [] => []
  | x :: xs => calm h x :: calmL h xs
end
/-- what was there is as it was -/
def quietH (h h' : Hp) : Bool :=
  (List.range h.nx).all (fun o => Nat.beq (ver o h') (ver o h)) && (List.range h.nv).all (fun k => match lookG k h.gn, lookG k h'.gn with
    | some (g, e), some (g', e') => Nat.beq g g' && Nat.beq e e'
    | _, _ => false)
def only (ls : List Nat) (F : Tm) : Tm := { F with tm := ls.map fun t => (t, look t F.tm) }
def isCallO (o : Oper) : Bool := match o.op with | .call { callee := .value _, .. } => true | _ => false
def sameDst (o : Oper) (d : Nat) : Bool := match o.dst with | some k => Nat.beq k d | none => false
def okPair (ops : Array Oper) (k : Nat) (ok : Oper) (j : Nat) : Bool := match ops[j]? with
  | some oj => match oj.dst with
    | some d => !(sameDst ok d) && (!((ok.looksAt ops).contains d) || waits j ok || waits k oj)
    | none => true
  | none => true
def okQ (ops : Array Oper) (m : Nat) : Bool := (List.range ops.size).all fun k => match ops[k]? with
  | some ok => ok.after.all (fun e => !(Region.binds .any e) || Nat.blt e.on k) && (bif Nat.blt k m then (List.range m).all fun j => Nat.beq j k || okPair ops k ok j else true)
  | none => false
/-- a new variable, whatever stands around -/
def isAllocO (o : Oper) : Bool := match o.op, o.guard, o.dst with | .alloc _, none, some _ => true | _, _, _ => false
def isQuietO (o : Oper) : Bool := earlyA o || isCallO o || isAllocO o
def leadQ : List Oper → Nat
  | [] => 0
  | o :: r => bif isQuietO o then leadQ r + 1 else 0
def rdyB (ops : Array Oper) (S : Nat → Bool) (k : Nat) : Bool := match ops[k]? with
  | some o => o.after.all fun e => !(Region.binds .any e) || S e.on
  | none => false
def wtB (ops : Array Oper) (i j : Nat) : Bool := match ops[j]? with | some o => waits i o | none => false
/-- which of the first m operation k waits for, near or far -/
def cov (ops : Array Oper) (k m : Nat) : Nat → List Nat
  | 0 => []
  | c + 1 => bif wtB ops (m - (c + 1)) k || (cov ops k m c).any (fun j => wtB ops (m - (c + 1)) j) then (m - (c + 1)) :: cov ops k m c else cov ops k m c
/-- behind the first m all come in their row -/
def sufOk (ops : Array Oper) (m : Nat) : Bool := (List.range ops.size).all fun k => Nat.blt k m ||
  ((List.range m).all (fun i => (cov ops k m m).contains i) && (List.range ops.size).all (fun j => !(Nat.blt k j) || !(rdyB ops (fun x => Nat.blt x k) j)))
/-- what each operation waits for, as bits -/
def ancs (ops : List Oper) : List Nat := ops.foldl (fun acc o => acc ++ [o.after.toList.foldl (fun m e => bif Region.binds .any e then Nat.lor (Nat.lor m (Nat.shiftLeft 1 e.on)) (acc.getD e.on 0) else m) 0]) []
def unordB : List (Bool × Nat) → Nat → List Nat → Bool
  | [], _, _ => false
  | (c, m) :: r, i, cs => bif c then (bif cs.all (fun k => Nat.testBit m k) then unordB r (i + 1) (i :: cs) else true) else unordB r (i + 1) cs
/-- two operations that may come up in either order, a new variable among them -/
def unord (ops : Array Oper) : Bool := bif ops.toList.any isAllocO then unordB ((ops.toList.map fun o => !(earlyA o)).zip (ancs ops.toList)) 0 [] else false
def quietR (ops : Array Oper) : Bool := bif unord ops then (bif okQ ops (leadQ ops.toList) then sufOk ops (leadQ ops.toList) else false) else false
def actQ (call : FuncId → Spec) (ops : Array Oper) (o : Oper) (F : Tm) (h : Hp) : RT Tm := (evStep P call ops o (only (o.looksAt ops) F) h).bind fun r => bif quietH h r.2 then (match o.dst with
  | some d => .ok { F with tm := (d, calm h (look d r.1.tm)) :: F.tm }
  | none => .ok F) else .bad 231
def evQ1 (call : FuncId → Spec) (ops : Array Oper) (o : Oper) (F : Tm) (h : Hp) : RT Tm := match o.guard with
  | none => actQ P call ops o F h
  | some (j, _) => match (ops[j]?).bind (·.dst) with
    | none => .bad 232
    | some d => match look d F.tm with
      | .sc kn (.bool b) => brk kn b (actQ P call ops o (setA F d true) h) (actQ P call ops o (setA F d false) h)
      | .tup [] => actQ P call ops o F h
      | _ => .bad 233
/-- where the answer is one -/
def detA {α : Type} (x : RT α) : RT α := @RT.rec α (fun _ => RT α) (fun a => .ok a) (fun w => .bad w) (fun b _ _ x y => .br b x y) (fun _ _ _ _ => .bad 234) x
/-- the new variables, in the text's order -/
def adoptQ (h0 : Hp) (l : List Oper) : Tm → Hp → RT (Tm × Hp) :=
  @List.rec Oper (fun _ => Tm → Hp → RT (Tm × Hp)) (fun F h => .ok (F, h)) (fun o _ r F h => bif isAllocO o then (match o.op, o.dst with
    | .alloc e, some d => match zeroA P e with
      | some cs => r { F with tm := (d, .ptr h.nx 0) :: F.tm } (newA (calmL h0 cs) h).2
      | none => .bad 235
    | _, _ => .bad 236) else r F h) l
def evQs (call : FuncId → Spec) (ops : Array Oper) (h : Hp) (l : List Oper) : Tm → RT Tm :=
  @List.rec Oper (fun _ => Tm → RT Tm) (fun F => .ok F) (fun o _ r F => (detA (evQ1 P call ops o F h)).bind r) l
def evReg (call : FuncId → Spec) (ops : Array Oper) (F : Tm) (h : Hp) : RT (Tm × Hp) :=
  (evQs P call ops h (ops.toList.take (leadQ ops.toList)) F).bind fun F => (adoptQ P h (ops.toList.take (leadQ ops.toList)) F h).bind fun r => evList P call ops (ops.toList.drop (leadQ ops.toList)) r.1 r.2

/-! Code and calls. -/
variable (Γ : FuncId → Option Spec) (Λ : FuncId → Nat → Option BSpec)
def enterA (fn : Func) (args : List AV) : Tm := ⟨fn.ntmps, (List.range args.length).zip args, []⟩
def resA (F : Tm) (h : Hp) : List ResultVar → RT (List AV)
  | [] => .ok []
  | .tmp t :: r => (resA F h r).bind fun vs => .ok (look t F.tm :: vs)
  | .cell a t :: r => (loadA P t (look a F.tm) h).bind fun v => (resA F h r).bind fun vs => .ok (v :: vs)
def resultA (fn : Func) (F : Tm) (h : Hp) : RT (AV × Hp) :=
  (resA P F h fn.results.toList).bind fun vs => match vs with
    | [v] => .ok (v, h)
    | vs => .ok (.tup vs, h)
def plainF (f : FuncId) : Option (Func × Code) := match P.funcs[f]? with
  | some fn => match fn.body with
    | some c => some (fn, c)
    | none => none
  | none => none
/-- the calls that were put off -/
def runDf (rec : FuncId → Code → Tm → Hp → RT Out) : List (FuncId × List AV) → Hp → RT Hp
  | [], h => .ok h
  | (g, args) :: r, h => match plainF P g with
    | none => .bad 112
    | some (fn, b) => bif Nat.ble args.length fn.ntmps then (rec g b (enterA fn args) h).bind fun x => match x.1, x.2.1.df with
      | .exit _, _ => .bad 113
      | _, [] => (resultA P fn x.2.1 x.2.2).bind fun y => runDf rec r y.2
      | _, _ => .bad 114 else .bad 115
/-- a function's own code -/
def bodyE (rec : FuncId → Code → Tm → Hp → RT Out) (g : FuncId) (fn : Func) (b : Code) : Spec := fun args h =>
  bif Nat.ble args.length fn.ntmps then (rec g b (enterA fn args) h).bind fun r => match r.1 with
    | .exit _ => .bad 103
    | _ => (runDf P rec r.2.1.df r.2.2).bind fun h => resultA P fn r.2.1 h else .bad 107
def callE (rec : FuncId → Code → Tm → Hp → RT Out) : FuncId → Spec := fun g args h => match plainF P g with
  | none => .bad 102
  | some (fn, b) => match Γ g with
    | some sp => sp args h
    | none => bodyE P rec g fn b args h
/-- whether a region is read in the text's order (a table of loops may say no) -/
def asRow (Λ : FuncId → Nat → Option BSpec) (f : FuncId) (id : Nat) (ops : Array Oper) : Bool := match Λ f (1000 + id) with
  | some _ => false
  | none => quietR ops
def evC : Nat → FuncId → Code → Tm → Hp → RT Out
  | 0, _, _, _, _ => .bad 101
  | n + 1, f, c, F, h =>
    match c with
    | .skip => .ok (.normal, F, h)
    | .region _ ops false => (evList P (callE P Γ (evC n)) ops ops.toList F h).bind fun r => .ok (.normal, r.1, r.2)
    | .region id ops true => bif asRow Λ f id ops then (evReg P (callE P Γ (evC n)) ops F h).bind fun r => .ok (.normal, r.1, r.2) else bif Region.noSelect ops then (evDrawn P (callE P Γ (evC n)) ops ops.size (Array.replicate ops.size false) [] F h).bind fun r => .ok (.normal, r.1, r.2) else .bad 108
    | .seq a b => (evC n f a F h).bind fun r => match r.1 with | .normal => evC n f b r.2.1 r.2.2 | e => .ok (e, r.2.1, r.2.2)
    | .cond c a b => match c with
      | .tmp t => match look t F.tm with
        | .sc kn (.bool v) => brk kn v (evC n f a (setA F t true) h) (evC n f b (setA F t false) h)
        | _ => .bad 104
      | _ => .bad 105
    | .block id b => match Λ f id with
      | some sp => sp F h
      | none => (evC n f b F h).bind fun r => match r.1 with
        | .exit j => bif Nat.beq j id then .ok (.normal, r.2.1, r.2.2) else .ok (.exit j, r.2.1, r.2.2)
        | e => .ok (e, r.2.1, r.2.2)
    | .loop b => (evC n f b F h).bind fun r => match r.1 with
      | .normal => evC n f (.loop b) r.2.1 r.2.2
      | e => .ok (e, r.2.1, r.2.2)
    | .exit id => .ok (.exit id, F, h)
    | .ret => .ok (.ret, F, h)
    | _ => .bad 106
/-- a call, by the function's own code -/
def evF (n : Nat) (f : FuncId) : Spec := fun args h => match plainF P f with
  | none => .bad 102
  | some (fn, b) => bodyE P (evC P Γ Λ n) f fn b args h
end
end
end Go.Proofs.YtcambhbmobepjaaGreat
