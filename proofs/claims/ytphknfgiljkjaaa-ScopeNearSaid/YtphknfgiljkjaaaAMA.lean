import GoSem.Step
import Derived.Below
import Derived.Laws.Sem
import GoSem.Extern.Table
import Derived.Laws.Cells
import Derived.Laws.StructEq
import Derived.ChangeKeysEq
import Derived.Orders
import Derived.Laws.BytesString
set_option linter.unusedVariables false
set_option linter.unusedSimpArgs false
namespace Go.AM
inductive Lab where
  | l (k : Nat)
  | o (p : Nat)
  deriving DecidableEq
inductive AV where
  | v (x : Value)
  | ptr (ℓ : Lab) (n off : Nat)
  | own (ℓ : Lab) (n off len esz : Nat) (cap : Option Nat)
  | ro (isNil : Bool) (esz len : Nat) (cells : List AV)
  | rop (cells : List AV)
  | fn (f : String) (first caps : List AV)
  | agg (cs : List AV)
  | tup (vs : List AV)
  | dead
structure Blk where
  cells : List AV
  opn : Bool
  wr : Bool
  data : Bool
  virt : Bool
  /-- No string shares its row. -/
  plain : Bool := false
structure Hp where
  G : List (Option Blk)
  L : List (Option Blk)
structure St where
  env : List AV
  h : Hp
def Hp.get (h : Hp) : Lab → Option Blk
  | .l k => (h.L[k]?).join
  | .o p => (h.G[p]?).join
def Hp.put (h : Hp) : Lab → Option Blk → Hp
  | .l k, B => { h with L := h.L.set k B }
  | .o p, B => { h with G := h.G.set p B }
def AV.lf : AV → Bool
  | .ptr .. | .own .. => false
  | .fn _ a b => lfs a && lfs b
  | .agg cs => lfs cs
  | .tup vs => lfs vs
  | _ => true
where lfs : List AV → Bool
  | [] => true
  | a :: as => a.lf && lfs as
def AV.ren (ρ : Lab → Option Lab) : AV → AV
  | .ptr ℓ n off => match ρ ℓ with | some ℓ' => .ptr ℓ' n off | none => .dead
  | .own ℓ n off len esz cap => match ρ ℓ with | some ℓ' => .own ℓ' n off len esz cap | none => .dead
  | .fn f a b => .fn f (rens ρ a) (rens ρ b)
  | .agg cs => .agg (rens ρ cs)
  | .tup vs => .tup (rens ρ vs)
  | a => a
where rens (ρ : Lab → Option Lab) : List AV → List AV
  | [] => []
  | a :: as => a.ren ρ :: rens ρ as
def AV.labs : AV → List Lab
  | .ptr ℓ _ _ => [ℓ]
  | .own ℓ _ _ _ _ _ => [ℓ]
  | .fn _ a b => labss a ++ labss b
  | .agg cs => labss cs
  | .tup vs => labss vs
  | _ => []
where labss : List AV → List Lab
  | [] => []
  | a :: as => a.labs ++ labss as
def Blk.ren (ρ : Lab → Option Lab) (B : Blk) : Blk := if B.data then B else { B with cells := AV.ren.rens ρ B.cells }
def Blk.labs (B : Blk) : List Lab := if B.data then [] else AV.labs.labss B.cells
inductive Leaf where
  | int | bool | str
  deriving DecidableEq
inductive NilKind where
  | slice | ptr | func
  deriving DecidableEq
inductive Opd where
  | t (n : Nat)
  | c (x : Value)
  | f (name : String)
inductive Prim where
  | id
  | pick
  | nilv (site esz : Nat)
  | alloc (site : Nat) (zero : List Value) (kids : List (Nat × Nat × Nat))
  | box (site : Nat)
  | boxK (site : Nat) (kids : List (Nat × Nat × Nat))
  | build (zero : List Value) (places : List (Nat × Nat))
  | buildSlice (site : Nat) (frz : Bool) (esz : Nat) (len : Nat) (zero : List Value) (places : List (Nat × Nat))
  | load (sz : Nat) (agg : Bool)
  | loadAt (site sz : Nat) (agg : Bool)
  | store (sz : Nat) (frz : Bool)
  | nilCheck
  | bin (op : BinOp)
  | eq (neg : Bool) (ls : List Leaf)
  | eqBool (neg : Bool)
  | eqNil (neg : Bool) (k : NilKind)
  | un (op : UnOp)
  | convInt (k : IntKind)
  | strBytes (site : Nat)
  | bytesStr
  | bytesBytes
  | strStr
  | makeFunc (f : String) (first : Nat)
  | makeSlice (site esz bytes : Nat) (zero : List Value)
  | sliceStr (lo hi : Bool)
  | slice (esz : Nat) (lo hi max : Bool)
  | sliceArr (n esz : Nat) (lo hi max : Bool)
  | fieldAddr (off : Nat)
  | field (off sz : Nat) (agg : Bool)
  | indexAddr (esz : Nat)
  | indexArr (n esz : Nat)
  | indexStr
  | indexAgg (n esz : Nat) (agg : Bool)
  | extract (i : Nat)
  | append (site : Nat) (frz : Bool) (esz bytes : Nat)
  | appendZ (site : Nat) (esz bytes : Nat) (zero : List Value)
  | copy (esz : Nat)
  | lenStr
  | lenSlice
  | lenArr (n : Nat)
  | cap
  | min
  | max
  | call (f : String) (sites : List Nat)
  | callV (sites : List Nat)
  | callIn (f : String) (sites : List Nat)
  | buildPlain (site esz len : Nat) (zero : List Value) (places : List (Nat × Nat))
  | buildF (zero : List Value) (places : List (Nat × Nat))
  | overlaps
  | eqPtr (neg : Bool)
structure IOp where
  dst : Option Nat
  p : Prim
  xs : List Opd
  guard : Option (Nat × Bool) := none
  /-- Sites that operations beside it may turn meanwhile. -/
  u : List Nat := []
  /-- Sites that it turns beside the ones it fills. -/
  m : List Nat := []
  /-- It turns more than sites. -/
  loud : Bool := false
inductive ICode where
  | skip
  | ops (l : List IOp)
  | draw (l : List IOp)
  | seq (a b : ICode)
  | cond (c : Opd) (a b : ICode)
  | block (id : Nat) (a : ICode)
  | loop (clr fre : List Nat) (a : ICode)
  | post (mv : List (Nat × Nat)) (a : ICode)
  | postIf (g : Nat × Nat × Nat) (mv : List (Nat × Nat)) (a : ICode)
  | exit (id : Nat)
  | ret
def ICode.calm : ICode → Bool
  | .skip | .ops _ | .draw _ | .exit _ | .ret => true
  | .seq a b | .cond _ a b => a.calm && b.calm
  | .block _ a => a.calm
  | .loop .. | .post .. | .postIf .. => false
inductive RV where
  | tmp (t : Nat)
  | cell (t sz : Nat) (agg : Bool)
structure IFn where
  ntmps : Nat
  nsites : Nat
  res : List RV
  body : ICode
inductive Out where
  | normal
  | exit (id : Nat)
  | ret
  deriving DecidableEq
def constAV : Value → AV
  | .agg cs => .agg (cs.toList.map .v)
  | .tuple vs => .tup (vs.toList.map .v)
  | x => .v x
def evalO (env : List AV) : Opd → AV
  | .t n => env.getD n .dead
  | .c x => constAV x
  | .f g => .fn g [] []
def AV.cellsOf : AV → Option (List AV)
  | .agg cs => some cs
  | .tup _ => none
  | .dead => none
  | .v (.agg _) => none
  | .v (.tuple _) => none
  | a => some [a]
def Hp.sees (h : Hp) : AV → Option (List AV)
  | .v (.slice none 0 0) => some []
  | .ro _ _ _ cells => some cells
  | .own ℓ n off len esz _ => match h.get ℓ with
    | some B => if B.cells.length = n then some ((B.cells.drop off).take (len * esz)) else none
    | none => none
  | _ => none
def lenOf : AV → Option Nat
  | .v (.slice none 0 0) => some 0
  | .ro _ _ len _ => some len
  | .own _ _ _ len _ _ => some len
  | _ => none
def Hp.freeze (h : Hp) : AV → Option (AV × Hp)
  | .own ℓ n off len esz _ => match h.get ℓ with
    | some B => if B.cells.length = n ∧ B.data then
        some (.ro B.virt esz len ((B.cells.drop off).take (len * esz)), h.put ℓ (some { B with wr := false }))
      else none
    | none => none
  | a => some (a, h)
def Hp.freezes (h : Hp) : List AV → Option (List AV × Hp)
  | [] => some ([], h)
  | a :: as => (h.freeze a).bind fun (a', h') => (h'.freezes as).map fun (as', h'') => (a' :: as', h'')
def Hp.mayFreeze (h : Hp) (frz : Bool) (cs : List AV) : Option (List AV × Hp) := if frz then h.freezes cs else some (cs, h)
def labLt (p : Nat) : Lab → Bool
  | .o i => i < p
  | .l _ => false
def okPut : Lab → List AV → Bool
  | .l _, _ => true
  | .o p, cs => AV.lf.lfs cs || (AV.labs.labss cs).all (labLt p)
def Hp.new (h : Hp) (site : Nat) (B : Blk) : Option Hp :=
  match h.L[site]? with
  | some none => some { h with L := h.L.set site (some B) }
  | _ => none
def newBlk (cells : List AV) : Blk := { cells, opn := false, wr := true, data := AV.lf.lfs cells, virt := false }
def virtBlk : Blk := { cells := [], opn := true, wr := true, data := true, virt := true }
def lay (cs : List AV) (off : Nat) (new : List AV) : List AV := cs.take off ++ new ++ cs.drop (off + new.length)
def fills (places : List (Nat × Nat)) (cells : List AV) : List AV → Option (List AV)
  | [] => match places with | [] => some cells | _ => none
  | a :: as => match places with
    | [] => none
    | (off, sz) :: ps => match a.cellsOf with
      | some cs => if cs.length = sz ∧ off + sz ≤ cells.length then fills ps (lay cells off cs) as else none
      | none => none
def whole (agg : Bool) (cs : List AV) : Option AV := if agg then some (.agg cs) else match cs with | [a] => some a | _ => none
def vBits (op : BinOp) (k : IntKind) (x y : Int) : Option Value :=
  let a := BitVec.ofInt k.bits x
  let b := BitVec.ofInt k.bits y
  match op with
  | .and => some (.int k (k.wrap (a &&& b).toNat))
  | .or => some (.int k (k.wrap (a ||| b).toNat))
  | .xor => some (.int k (k.wrap (a ^^^ b).toNat))
  | .andNot => some (.int k (k.wrap (a &&& ~~~b).toNat))
  | _ => none
def vBin (op : BinOp) : Value → Value → Option Value
  | .int k a, .int k' b => match op with
    | .shl => if b < 0 then none else some (.int k (k.wrap (a * 2 ^ (min b.toNat k.bits))))
    | .shr => if b < 0 then none else some (.int k (a.fdiv (2 ^ (min b.toNat k.bits))))
    | op => if k ≠ k' then none else match op with
      | .add => some (.int k (k.wrap (a + b)))
      | .sub => some (.int k (k.wrap (a - b)))
      | .mul => some (.int k (k.wrap (a * b)))
      | .quo => if b = 0 then none else some (.int k (k.wrap (a.tdiv b)))
      | .rem => if b = 0 then none else some (.int k (a.tmod b))
      | .eql => some (.bool (a == b))
      | .neq => some (.bool (a != b))
      | .lss => some (.bool (a < b))
      | .leq => some (.bool (a ≤ b))
      | .gtr => some (.bool (a > b))
      | .geq => some (.bool (a ≥ b))
      | op => vBits op k a b
  | .string a, .string b => match op with
    | .add => if a.size + b.size ≤ 9223372036854775807 then some (.string (a ++ b)) else none
    | .eql => some (.bool (a.toList == b.toList))
    | .neq => some (.bool !(a.toList == b.toList))
    | .lss => some (.bool (Op.bytesLess a.toList b.toList))
    | .leq => some (.bool (Op.bytesLess a.toList b.toList || a.toList == b.toList))
    | .gtr => some (.bool !(Op.bytesLess a.toList b.toList || a.toList == b.toList))
    | .geq => some (.bool !Op.bytesLess a.toList b.toList)
    | _ => none
  | _, _ => none
def cellEq : Leaf → AV → AV → Option Bool
  | .int, .v (.int k a), .v (.int k' b) => if k = k' then some (a == b) else none
  | .bool, .v (.bool a), .v (.bool b) => some (a == b)
  | .str, .v (.string a), .v (.string b) => some (a.toList == b.toList)
  | _, _, _ => none
def cellsEq : List Leaf → List AV → List AV → Option Bool
  | [], [], [] => some true
  | l :: ls, a :: as, b :: bs => match cellEq l a b, cellsEq ls as bs with
    | some p, some q => some (p && q)
    | _, _ => none
  | _, _, _ => none
def Hp.isNil (h : Hp) : NilKind → AV → Option Bool
  | .slice, .ro n _ _ _ => some n
  | .slice, .own ℓ n _ _ _ _ => match h.get ℓ with
    | some B => if B.cells.length = n then some B.virt else none
    | none => none
  | .slice, .v (.slice none 0 0) => some true
  | .ptr, .v (.pointer none) => some true
  | .func, .v .nilFunc => some true
  | .ptr, .ptr .. => some false
  | .ptr, .rop _ => some false
  | .func, .fn .. => some false
  | _, _ => none
def isNilV : NilKind → AV → Bool
  | .slice, .v (.slice none 0 0) => true
  | .ptr, .v (.pointer none) => true
  | .func, .v .nilFunc => true
  | _, _ => false
def vUn (op : UnOp) : Value → Option Value
  | .int k n => match op with
    | .neg => some (.int k (k.wrap (0 - n)))
    | .xor => vBits .xor k (if k.signed then -1 else k.max) n
    | _ => none
  | .bool b => match op with | .not => some (.bool !b) | _ => none
  | _ => none
def byteOf : AV → Option UInt8
  | .v (.int .u8 n) => some (UInt8.ofNat n.toNat)
  | _ => none
def bytesOf : List AV → Option (List UInt8)
  | [] => some []
  | a :: as => (byteOf a).bind fun b => (bytesOf as).map (b :: ·)
def byteAV (b : UInt8) : AV := .v (.int .u8 b.toNat)
def room : Nat := 140737488355328
def kidsIn (h : Hp) (site : Nat) (cells : List AV) : List (Nat × Nat × Nat) → Option (List AV × Hp)
  | [] => some (cells, h)
  | (j, s, esz) :: ks => match cells[j]? with
    | some (.v (.slice none 0 0)) => (h.new s virtBlk).bind fun h' => kidsIn h' site (cells.set j (.own (.l s) 0 0 0 esz none)) ks
    | _ => none
def natOf : AV → Option Nat
  | .v (.int _ n) => if 0 ≤ n then some n.toNat else none
  | _ => none
def leCap (len : Nat) (cap : Option Nat) (a : Nat) : Bool := match cap with | some c => a ≤ c | none => a ≤ len
def bounds (len : Nat) (cap : Option Nat) (lo hi max : Bool) (xs : List AV) : Option (Nat × Nat × Option Nat) :=
  match lo, hi, max, xs with
  | false, false, false, [] => some (0, len, cap)
  | true, false, false, [a] => (natOf a).bind fun i => if i ≤ len then some (i, len, cap.map (· - i)) else none
  | false, true, false, [b] => (natOf b).bind fun j => if leCap len cap j then some (0, j, cap) else none
  | true, true, false, [a, b] => (natOf a).bind fun i => (natOf b).bind fun j => if i ≤ j ∧ leCap len cap j then some (i, j, cap.map (· - i)) else none
  | true, true, true, [a, b, c] => (natOf a).bind fun i => (natOf b).bind fun j => (natOf c).bind fun k =>
      if i ≤ j ∧ j ≤ k ∧ leCap len cap k then some (i, j, some (k - i)) else none
  | false, true, true, [b, c] => (natOf b).bind fun j => (natOf c).bind fun k => if j ≤ k ∧ leCap len cap k then some (0, j, some k) else none
  | _, _, _, _ => none
def Hp.append (h : Hp) (site esz bytes : Nat) (s : AV) (k : Nat) (new : List AV) : Option (AV × Hp) :=
  if new.length = k * esz then
    match s with
    | .v (.slice none 0 0) =>
      if k = 0 then some (s, h) else if k * bytes ≤ room then
        (h.new site { cells := new, opn := true, wr := true, data := AV.lf.lfs new, virt := false }).map fun h' => (.own (.l site) (k * esz) 0 k esz none, h')
      else none
    | .own ℓ n off len esz' cap => match h.get ℓ with
      | none => none
      | some B =>
        if B.cells.length = n ∧ esz' = esz ∧ (len + k) * bytes ≤ room ∧ okPut ℓ new then
          if k = 0 then some (s, h) else
          match cap with
          | some c =>
            if len + k ≤ c then
              if B.wr then some (.own ℓ n off (len + k) esz cap, h.put ℓ (some { B with cells := lay B.cells (off + len * esz) new, data := B.data && AV.lf.lfs new })) else none
            else
              (h.new site { cells := (B.cells.drop off).take (len * esz) ++ new, opn := true, wr := true, data := B.data && AV.lf.lfs new, virt := false }).map
                fun h' => (.own (.l site) ((len + k) * esz) 0 (len + k) esz none, h')
          | none =>
            if B.wr = false then none
            else if off + (len + k) * esz ≤ n then
              some (.own ℓ n off (len + k) esz none, h.put ℓ (some { B with cells := lay B.cells (off + len * esz) new, data := B.data && AV.lf.lfs new }))
            else if off = 0 ∧ B.opn then
              some (.own ℓ ((len + k) * esz) 0 (len + k) esz none,
                h.put ℓ (some { B with cells := B.cells.take (len * esz) ++ new, data := B.data && AV.lf.lfs new, virt := false }))
            else none
        else none
    | .ro .. => if k = 0 then some (s, h) else none
    | _ => none
  else none
def Hp.copyInto (h : Hp) (esz : Nat) (d : AV) (src : List AV) (k : Nat) : Option Hp :=
  if k = 0 then some h else
  match d with
  | .own ℓ n off len esz' _ => match h.get ℓ with
    | some B => if B.cells.length = n ∧ B.wr ∧ esz' = esz ∧ k ≤ len ∧ off + len * esz ≤ n ∧ okPut ℓ src then
        some (h.put ℓ (some { B with cells := lay B.cells off (src.take (k * esz)), data := B.data && AV.lf.lfs (src.take (k * esz)) })) else none
    | none => none
  | _ => none
def Hp.source (h : Hp) (a : AV) : Option (Nat × List AV) :=
  match a with
  | .v (.string s) => some (s.size, s.data.toList.map byteAV)
  | a => match lenOf a, h.sees a with
    | some n, some cs => some (n, cs)
    | _, _ => none
def mins (k : IntKind) (a : Int) : List AV → Option Int
  | [] => some a
  | .v (.int _ b) :: as => mins k (if b < a then b else a) as
  | _ => none
def maxs (k : IntKind) (a : Int) : List AV → Option Int
  | [] => some a
  | .v (.int _ b) :: as => maxs k (if b > a then b else a) as
  | _ => none
def prim (h : Hp) (p : Prim) (xs0 : List AV) : Option (AV × Hp) :=
  match p with
  | .id => match xs0 with
    | [a] => some (a, h)
    | _ => none
  | .pick => match xs0 with
    | [.v (.bool c), a, b] => some (if c then a else b, h)
    | _ => none
  | .nilv site esz => match xs0 with
    | [.v (.slice none 0 0)] => (h.new site virtBlk).map fun h' => (.own (.l site) 0 0 0 esz none, h')
    | _ => none
  | .alloc site zero kids => match xs0 with
    | [] =>
      (h.new site (newBlk (zero.map .v))).bind fun h1 => (kidsIn h1 site (zero.map .v) kids).map fun (cells, h2) =>
        (.ptr (.l site) cells.length 0, h2.put (.l site) (some (newBlk cells)))
    | _ => none
  | .box site => match xs0 with
    | [a] => a.cellsOf.bind fun cs => (h.new site (newBlk cs)).map fun h' => (.ptr (.l site) cs.length 0, h')
    | _ => none
  | .boxK site kids => match xs0 with
    | [a] => a.cellsOf.bind fun cs => (h.new site (newBlk cs)).bind fun h1 => (kidsIn h1 site cs kids).map fun (cells, h2) =>
        (.ptr (.l site) cells.length 0, h2.put (.l site) (some (newBlk cells)))
    | _ => none
  | .build zero places => match xs0 with
    | as => (fills places (zero.map .v) as).map fun cs => (.agg cs, h)
  | .buildSlice site frz esz len zero places => match xs0 with
    | as =>
      (h.mayFreeze frz as).bind fun (as', h1) =>
        (fills places ((List.replicate len (zero.map AV.v)).flatten) as').bind fun cs =>
          if cs.length = len * esz then (h1.new site (newBlk cs)).map fun h' => (.own (.l site) (len * esz) 0 len esz (some len), h') else none
  | .load sz agg => match xs0 with
    | [.ptr ℓ n off] => match h.get ℓ with
      | some B => if B.cells.length = n ∧ off + sz ≤ n then (whole agg ((B.cells.drop off).take sz)).map fun a => (a, h) else none
      | none => none
    | [.rop cells] => if sz ≤ cells.length then (whole agg (cells.take sz)).map fun a => (a, h) else none
    | _ => none
  | .loadAt site sz agg => match xs0 with
    | [.ptr (.l k) n off] => if k = site then match h.get (.l k) with
      | some B => if B.cells.length = n ∧ off + sz ≤ n then (whole agg ((B.cells.drop off).take sz)).map fun a => (a, h) else none
      | none => none
      else none
    | _ => none
  | .store sz frz => match xs0 with
    | [.ptr ℓ n off, x] =>
      x.cellsOf.bind fun cs0 => (h.mayFreeze frz cs0).bind fun (cs, h1) => match h1.get ℓ with
        | some B => if B.cells.length = n ∧ B.wr ∧ cs.length = sz ∧ off + sz ≤ n ∧ okPut ℓ cs then
            some (.v undef, h1.put ℓ (some { B with cells := lay B.cells off cs, data := B.data && AV.lf.lfs cs })) else none
        | none => none
    | _ => none
  | .nilCheck => match xs0 with
    | [.ptr ℓ n off] => some (.ptr ℓ n off, h)
    | [.fn f a b] => some (.fn f a b, h)
    | [.rop cs] => some (.rop cs, h)
    | _ => none
  | .bin op => match xs0 with
    | [.v x, .v y] => (vBin op x y).map fun z => (.v z, h)
    | _ => none
  | .eq neg ls => match xs0 with
    | [.agg as, .agg bs] => (cellsEq ls as bs).map fun z => (.v (.bool (z != neg)), h)
    | _ => none
  | .eqBool neg => match xs0 with
    | [.v (.bool a), .v (.bool b)] => some (.v (.bool ((a == b) != neg)), h)
    | _ => none
  | .eqNil neg k => match xs0 with
    | [a, b] => if isNilV k b then (h.isNil k a).map fun z => (.v (.bool (z != neg)), h)
        else if isNilV k a then (h.isNil k b).map fun z => (.v (.bool (z != neg)), h) else none
    | _ => none
  | .un op => match xs0 with
    | [.v x] => (vUn op x).map fun z => (.v z, h)
    | _ => none
  | .convInt k => match xs0 with
    | [.v (.int _ n)] => some (.v (.int k (k.wrap n)), h)
    | _ => none
  | .strBytes site => match xs0 with
    | [.v (.string s)] =>
      (h.new site { cells := s.data.toList.map byteAV, opn := true, wr := true, data := true, virt := false }).map fun h' => (.own (.l site) s.size 0 s.size 1 none, h')
    | _ => none
  | .bytesStr => match xs0 with
    | [a] => (h.sees a).bind fun cs => if lenOf a = some cs.length then (bytesOf cs).map fun bs => (.v (.string ⟨bs.toArray⟩), h) else none
    | _ => none
  | .bytesBytes => match xs0 with
    | [.own ℓ n off len esz cap] => match h.get ℓ with
      | some B => if B.cells.length = n ∧ B.virt = false ∧ 0 < len ∧ B.wr ∧ B.plain = false then some (.own ℓ n off len esz cap, h) else none
      | none => none
    | _ => none
  | .strStr => match xs0 with
    | [.v (.string s)] => some (.v (.string s), h)
    | _ => none
  | .makeFunc f k => match xs0 with
    | as => if k ≤ as.length then some (.fn f (as.take k) (as.drop k), h) else none
  | .makeSlice site esz bytes zero => match xs0 with
    | [a, b] => (natOf a).bind fun len => (natOf b).bind fun cap =>
        if len ≤ cap ∧ cap ≤ room ∧ cap * bytes ≤ room ∧ zero.length = esz then
          (h.new site (newBlk ((List.replicate cap (zero.map AV.v)).flatten))).map fun h' => (.own (.l site) (cap * esz) 0 len esz (some cap), h')
        else none
    | _ => none
  | .sliceStr lo hi => match xs0 with
    | .v (.string s) :: xs => (bounds s.size none lo hi false xs).bind fun (i, j, _) =>
        if i ≤ j then some (.v (.string (s.extract i j)), h) else none
    | _ => none
  | .slice esz lo hi mx => match xs0 with
    | .own ℓ n off len esz' cap :: xs =>
      if esz' = esz then (bounds len cap lo hi mx xs).bind fun (i, j, c) =>
        if i ≤ j then some (.own ℓ n (off + i * esz) (j - i) esz c, h) else none
      else none
    | .ro nl esz' len cells :: xs =>
      if esz' = esz then (bounds len none lo hi mx xs).bind fun (i, j, _) =>
        if i ≤ j ∧ mx = false then some (.ro nl esz (j - i) ((cells.drop (i * esz)).take ((j - i) * esz)), h) else none
      else none
    | .v (.slice none 0 0) :: xs => (bounds 0 (some 0) lo hi mx xs).bind fun (i, j, _) =>
        if i ≤ j then some (.v (.slice none 0 0), h) else none
    | _ => none
  | .sliceArr n esz lo hi mx => match xs0 with
    | .ptr ℓ m off :: xs => (bounds n (some n) lo hi mx xs).bind fun (i, j, c) =>
        if i ≤ j ∧ off + n * esz ≤ m then some (.own ℓ m (off + i * esz) (j - i) esz c, h) else none
    | _ => none
  | .fieldAddr off' => match xs0 with
    | [.ptr ℓ n off] => some (.ptr ℓ n (off + off'), h)
    | [.rop cs] => some (.rop (cs.drop off'), h)
    | _ => none
  | .field off sz agg => match xs0 with
    | [.agg cs] => if off + sz ≤ cs.length then (whole agg ((cs.drop off).take sz)).map fun a => (a, h) else none
    | _ => none
  | .indexAddr esz => match xs0 with
    | [.own ℓ n off len esz' _, ix] => (natOf ix).bind fun i => if i < len ∧ esz' = esz then some (.ptr ℓ n (off + i * esz), h) else none
    | [.ro _ esz' len cells, ix] => (natOf ix).bind fun i => if i < len ∧ esz' = esz then some (.rop (cells.drop (i * esz)), h) else none
    | _ => none
  | .indexArr n esz => match xs0 with
    | [.ptr ℓ m off, ix] => (natOf ix).bind fun i => if i < n then some (.ptr ℓ m (off + i * esz), h) else none
    | _ => none
  | .indexStr => match xs0 with
    | [.v (.string s), ix] => (natOf ix).bind fun i => (s.data.toList[i]?).map fun b => (byteAV b, h)
    | _ => none
  | .indexAgg n esz agg => match xs0 with
    | [.agg cs, ix] => (natOf ix).bind fun i => if i < n ∧ (i + 1) * esz ≤ cs.length then (whole agg ((cs.drop (i * esz)).take esz)).map fun a => (a, h) else none
    | _ => none
  | .extract i => match xs0 with
    | [.tup vs] => (vs[i]?).map fun a => (a, h)
    | _ => none
  | .append site frz esz bytes => match xs0 with
    | [s, x] =>
      (h.source x).bind fun (k, new) => (h.mayFreeze frz new).bind fun (new', h1) => h1.append site esz bytes s k new'
    | _ => none
  | .appendZ site esz bytes zero => match xs0 with
    | [s, x] => (natOf x).bind fun k =>
        if k * bytes ≤ room ∧ zero.length = esz then h.append site esz bytes s k ((List.replicate k (zero.map AV.v)).flatten) else none
    | _ => none
  | .copy esz => match xs0 with
    | [d, x] => (lenOf d).bind fun m => (h.source x).bind fun (k, src) =>
        if src.length = k * esz then (h.copyInto esz d src (Nat.min k m)).map fun h' => (.v (goInt (Nat.min k m)), h') else none
    | _ => none
  | .lenStr => match xs0 with
    | [.v (.string s)] => some (.v (goInt s.size), h)
    | _ => none
  | .lenSlice => match xs0 with
    | [a] => (lenOf a).map fun (n : Nat) => (.v (goInt n), h)
    | _ => none
  | .lenArr n => match xs0 with
    | [_] => some (.v (goInt n), h)
    | _ => none
  | .cap => match xs0 with
    | [.own _ _ _ _ _ (some c)] => some (.v (goInt c), h)
    | [.v (.slice none 0 0)] => some (.v (goInt 0), h)
    | _ => none
  | .min => match xs0 with
    | .v (.int k a) :: as => (mins k a as).map fun n => (.v (.int k n), h)
    | _ => none
  | .max => match xs0 with
    | .v (.int k a) :: as => (maxs k a as).map fun n => (.v (.int k n), h)
    | _ => none
  | .buildPlain site esz len zero places => match xs0 with
    | as => (fills places ((List.replicate len (zero.map AV.v)).flatten) as).bind fun cs =>
        if cs.length = len * esz then (h.new site { newBlk cs with plain := true }).map fun h' => (.own (.l site) (len * esz) 0 len esz (some len), h') else none
  | .buildF zero places => match xs0 with
    | as => (h.freezes as).bind fun (as', h1) => (fills places (zero.map .v) as').map fun cs => (.agg cs, h1)
  | .overlaps => match xs0 with
    | [.own ℓ n _ len esz _, .own ℓ' n' _ len' esz' _] => match h.get ℓ, h.get ℓ' with
      | some B, some B' => if ℓ ≠ ℓ' ∧ B.cells.length = n ∧ B'.cells.length = n' ∧ B.plain ∧ B.virt = false ∧ B'.virt = false ∧ 0 < len ∧ 0 < len' ∧ 0 < esz ∧ 0 < esz' then some (.v (.bool false), h) else none
      | _, _ => none
    | _ => none
  | .eqPtr neg => match xs0 with
    | [.ptr ℓ n off, .ptr ℓ' n' off'] => match h.get ℓ with
      | some B => if ℓ = ℓ' ∧ n = n' ∧ B.cells.length = n then some (.v (.bool ((off == off') != neg)), h) else none
      | none => none
    | _ => none
  | _ => none
def St.put (s : St) (dst : Option Nat) (a : AV) : St :=
  match dst with
  | some d => { s with env := s.env.set d a }
  | none => s
def up (g : Nat) : Lab → Option Lab
  | .l k => some (.o (g + k))
  | .o p => some (.o p)
def down (g s : Nat) (sites : List Nat) : Lab → Option Lab
  | .o p => if p < g then some (.o p) else if p < g + s then some (.l (p - g)) else (sites[p - (g + s)]?).map .l
  | .l _ => none
def Hp.into (h : Hp) : List (Option Blk) := h.G ++ h.L.map (Option.map (Blk.ren (up h.G.length)))
def intoLt (k : Nat) : Lab → Bool
  | .l j => j < k
  | .o _ => true
def okBlks : Nat → List (Option Blk) → Bool
  | _, [] => true
  | k, some B :: Bs => B.labs.all (intoLt k) && okBlks (k + 1) Bs
  | k, none :: Bs => okBlks (k + 1) Bs
def putAll (L : List (Option Blk)) : List Nat → List (Option Blk) → List (Option Blk)
  | k :: ks, B :: Bs => putAll (L.set k B) ks Bs
  | _, _ => L
def free (L : List (Option Blk)) (k : Nat) : Bool := match L[k]? with | some none => true | _ => false
def Hp.back0 (h : Hp) (sites : List Nat) (G2 : List (Option Blk)) (r : AV) : Option (AV × Hp) :=
  let g := h.G.length
  let s := h.L.length
  let ρ := down g s sites
  if G2.length = g + s + sites.length ∧ sites.Nodup ∧ sites.all (free h.L) ∧ sites.all (fun k => free G2 (g + k)) then
    some (r.ren ρ, { G := G2.take g, L := putAll (((G2.drop g).take s).map (Option.map (Blk.ren ρ))) sites ((G2.drop (g + s)).map (Option.map (Blk.ren ρ))) })
  else none
def padTo (n : Nat) (G : List (Option Blk)) : List (Option Blk) := G ++ List.replicate (n - G.length) none
def Hp.back (h : Hp) (sites : List Nat) (G2 : List (Option Blk)) (r : AV) : Option (AV × Hp) :=
  if h.G.length + h.L.length ≤ G2.length then h.back0 sites (padTo (h.G.length + h.L.length + sites.length) G2) r else none
def outBlks : Nat → List (Option Blk) → Bool
  | _, [] => true
  | k, some B :: Bs => B.labs.all (labLt k) && outBlks (k + 1) Bs
  | k, none :: Bs => outBlks (k + 1) Bs
def collect (h : Hp) : Nat → List Lab → List Nat → List Nat
  | 0, _, acc => acc
  | _ + 1, [], acc => acc
  | n + 1, .o _ :: ls, acc => collect h n ls acc
  | n + 1, .l k :: ls, acc => if k ∈ acc then collect h n ls acc else
      collect h n (ls ++ (match h.get (.l k) with | some B => B.labs | none => [])) (acc ++ [k])
def keepMap (g : Nat) (K : List Nat) : Lab → Option Lab
  | .o p => some (.o p)
  | .l k => (K.idxOf? k).map fun i => .o (g + i)
def Hp.leave (h : Hp) (r : AV) : Option (AV × List (Option Blk)) :=
  let K := (collect h 40 r.labs []).reverse
  let ρ := keepMap h.G.length K
  let Bs := K.map fun k => ((h.L[k]?).join).map (Blk.ren ρ)
  if outBlks h.G.length Bs ∧ K.Nodup then some (r.ren ρ, h.G ++ Bs) else none
def resVal (s : St) : RV → Option AV
  | .tmp t => some (s.env.getD t .dead)
  | .cell t sz agg => (prim s.h (.load sz agg) [s.env.getD t .dead]).map (·.1)
def resVals (s : St) : List RV → Option (List AV)
  | [] => some []
  | r :: rs => (resVal s r).bind fun a => (resVals s rs).map (a :: ·)
def finish (F : IFn) (s : St) : Option (AV × List (Option Blk)) :=
  (resVals s F.res).bind fun vs => s.h.leave (match vs with | [a] => a | vs => .tup vs)
def enter (F : IFn) (args : List AV) (G : List (Option Blk)) : St :=
  { env := args ++ List.replicate (F.ntmps - args.length) .dead, h := { G, L := List.replicate F.nsites none } }
def labNot (ks : List Nat) : Lab → Bool
  | .l k => !ks.contains k
  | .o _ => true
def noRef (ks : List Nat) (a : AV) : Bool := a.labs.all (labNot ks)
def blkNoRef (ks : List Nat) : Option Blk → Bool
  | some B => B.labs.all (labNot ks)
  | none => true
def clear (s : St) (clr fre : List Nat) : Option St :=
  let env := clr.foldl (fun e t => e.set t .dead) s.env
  let L := fre.foldl (fun L k => L.set k none) s.h.L
  if env.all (noRef fre) ∧ L.all (blkNoRef fre) then
    some { env, h := { s.h with L } }
  else none
def over (L : List (Option Blk)) (u : List Nat) (X : Nat → Option Blk) : List (Option Blk) := u.foldl (fun L k => L.set k (X k)) L
def Hp.over (h : Hp) (u : List Nat) (X : Nat → Option Blk) : Hp := { h with L := AM.over h.L u X }
def St.guard (s : St) : Option (Nat × Bool) → Option Bool
  | none => some true
  | some (t, b) => match s.env.getD t .dead with
    | .v (.bool c) => some (c == b)
    | .v (.tuple _) => some false
    | _ => none
def Prim.sites : Prim → List Nat
  | .nilv s _ | .box s | .buildSlice s .. | .strBytes s | .makeSlice s .. | .append s .. | .appendZ s .. => [s]
  | .alloc s _ kids => s :: kids.map fun k => k.2.1
  | .boxK s kids => s :: kids.map fun k => k.2.1
  | .call _ ss | .callV ss | .callIn _ ss => ss
  | .buildPlain s .. => [s]
  | _ => []
def Prim.free : Prim → Bool
  | .id | .pick | .build .. | .bin _ | .un _ | .convInt _ | .strStr | .makeFunc .. | .sliceStr .. | .eq .. | .eqBool _ | .field .. | .indexStr | .indexAgg .. | .extract _
  | .lenStr | .lenSlice | .lenArr _ | .cap | .min | .max | .nilCheck | .slice .. | .sliceArr .. | .fieldAddr _ | .indexAddr _ | .indexArr .. => true
  | _ => false
def Prim.inl : Prim → Bool
  | .callIn .. => true
  | _ => false
def Prim.home : Prim → Option Nat
  | .loadAt s _ _ => some s
  | _ => none
def mvLab (mv : List (Nat × Nat)) : Lab → Option Lab
  | .o p => some (.o p)
  | .l k => match mv.find? (fun q => q.1 == k) with
    | some q => some (.l q.2)
    | none => if mv.any (fun q => q.2 == k) then none else some (.l k)
def mvBlk (L : List (Option Blk)) (mv : List (Nat × Nat)) (k : Nat) : Option Blk := match mv.find? (fun q => q.2 == k) with
  | some q => ((L[q.1]?).join).map (Blk.ren (mvLab mv))
  | none => if mv.any (fun q => q.1 == k) then none else ((L[k]?).join).map (Blk.ren (mvLab mv))
def mvOK (n : Nat) (mv : List (Nat × Nat)) : Bool := decide (mv.map (·.1) ++ mv.map (·.2)).Nodup && mv.all fun q => decide (q.1 < n) && decide (q.2 < n)
def mvSt (mv : List (Nat × Nat)) (s : St) : Option St :=
  if mvOK s.h.L.length mv then
    some { env := s.env.map (AV.ren (mvLab mv)), h := { s.h with L := (List.range s.h.L.length).map (mvBlk s.h.L mv) } }
  else none
def mvIf (g : Nat × Nat × Nat) (mv : List (Nat × Nat)) (s : St) : Option St :=
  match (s.h.L[g.1]?).join with
  | some B => match B.cells[g.2.1]? with
    | some (.ptr (.l k) _ _) => if k = g.2.2 then mvSt mv s else some s
    | _ => some s
  | none => some s
theorem mvIf_or {g mv s s1} (h : mvIf g mv s = some s1) : mvSt mv s = some s1 ∨ s1 = s := by
  unfold mvIf at h
  split at h
  · split at h
    · split at h
      · exact .inl h
      · cases h; exact .inr rfl
    · cases h; exact .inr rfl
  · cases h; exact .inr rfl
def IOp.turns (i : IOp) : List Nat := i.p.sites ++ i.m
def Quiet (w : List Nat) (h h' : Hp) : Prop := h' = h.over w fun k => (h'.L[k]?).join
def refLt (g k : Nat) : Lab → Bool
  | .l j => j < k
  | .o p => p < g
def okX (g : Nat) (X : Nat → Option Blk) : Prop := ∀ k B, X k = some B → B.labs.all (refLt g k) = true
def okB (g k : Nat) : Option Blk → Bool
  | some B => B.labs.all (refLt g k)
  | none => true
def okAt (g : Nat) (ks : List Nat) (L : List (Option Blk)) : Bool := ks.all fun k => okB g k (L[k]?).join
def packA : List AV → AV
  | [a] => a
  | vs => .tup vs
inductive Task where
  | call (f : String) (args : List AV) (G : List (Option Blk))
  | code (c : ICode) (s : St)
  | op (p : Prim) (xs : List AV) (h : Hp)
  | ops (l : List IOp) (s : St)
  | draw (l : List IOp) (s : St)
inductive Res where
  | ret (r : AV) (G : List (Option Blk))
  | out (o : Out) (s : St)
  | val (a : AV) (h : Hp)
  | env (s : St)
def xFn : IFn := ⟨0, 0, [.tmp 77777], .exit 0⟩
def isX (F : IFn) : Bool := match F.res with
  | [.tmp 77777] => true
  | _ => false
def xLines : List AV → Option (List (Int × Int))
  | [] => some []
  | .v (.string _) :: .v (.int .i64 q) :: .v (.int .i64 p) :: cs => (xLines cs).map ((q, p) :: ·)
  | _ => none
def xSum : List (Int × Int) → Int × Int
  | [] => (0, 0)
  | (q, p) :: l => (q + (xSum l).1, q * p + (xSum l).2)
def xMay (l : List (Int × Int)) : Bool :=
  decide (l.length ≤ 1000) && (l.all fun x => decide (0 ≤ x.1) && (decide (x.1 ≤ 100000) && (decide (0 ≤ x.2) && decide (x.2 ≤ 1000000000)))) && (decide ((xSum l).1 ≤ 100000) && decide ((xSum l).2 ≤ 10000000000000))
def xUnit (i : Nat) (p : Int) : List AV := [.v (.int .i64 i), .v (.int .i64 p), .v (.bool true)]
def xUnits : Nat → List (Int × Int) → List AV
  | _, [] => []
  | i, (q, p) :: l => (List.replicate q.toNat (xUnit i p)).flatten ++ xUnits (i + 1) l
def xCells (f : String) (cs : List (Nat × List AV)) : Option (Nat × List AV) :=
  if f = "haberdash/basket.Units" then match cs with
    | [(n, c)] => if c.length = n * 3 ∧ n ≤ 1000000 then (xLines c).map fun l => (3, if xMay l then xUnits 0 l else []) else none
    | _ => none
  else none
def Hp.seesAll (h : Hp) : List AV → Option (List (Nat × List AV))
  | [] => some []
  | a :: as => (lenOf a).bind fun n => (h.sees a).bind fun c => (h.seesAll as).map ((n, c) :: ·)
def xNew (f : String) (args : List AV) (G : List (Option Blk)) : Option (AV × List (Option Blk)) :=
  ((⟨G, []⟩ : Hp).seesAll args).bind fun cs => (xCells f cs).bind fun q =>
    if q.2 = [] then some (.v (.slice none 0 0), G)
    else some (.own (.o G.length) q.2.length 0 (q.2.length / q.1) q.1 none, G ++ [some { cells := q.2, opn := true, wr := true, data := true, virt := false }])
def xIns (args : List AV) (G : List (Option Blk)) : Option (AV × List (Option Blk)) := match args with
  | [s, .v (.int .i64 i), .own (.o q) 3 0 1 3 (some 1)] => match (G[q]?).join with
    | some V =>
      if V.cells.length = 3 ∧ V.data = true ∧ V.plain = true ∧ V.virt = false then
        match s with
        | .v (.slice none 0 0) => if i = 0 ∧ AV.lf.lfs V.cells = true then some (.own (.o G.length) 3 0 1 3 none, G ++ [some { cells := V.cells, opn := true, wr := true, data := true, virt := false }]) else none
        | .own (.o p) n 0 len 3 cap => match (G[p]?).join with
          | some B => match cap with
            | some c => if c = 0 ∧ n = 0 ∧ len = 0 ∧ i = 0 ∧ B.cells = [] ∧ B.data = true ∧ AV.lf.lfs V.cells = true then
                some (.own (.o G.length) 3 0 1 3 none, G ++ [some { cells := V.cells, opn := true, wr := true, data := true, virt := false }]) else none
            | none => if p ≠ q ∧ n = len * 3 ∧ B.cells.length = n ∧ B.opn = true ∧ B.wr = true ∧ B.virt = false ∧ B.data = true ∧ B.plain = false ∧ AV.lf.lfs V.cells = true ∧ AV.lf.lfs B.cells = true ∧ 0 ≤ i ∧ i.toNat ≤ len ∧ 0 < len ∧ len < 1000000 then
                some (.own (.o p) ((len + 1) * 3) 0 (len + 1) 3 none, G.set p (some { B with cells := B.cells.take (i.toNat * 3) ++ V.cells ++ B.cells.drop (i.toNat * 3) }))
              else none
          | none => none
        | _ => none
      else none
    | none => none
  | _ => none
def xItems : List AV → Option (List (ByteArray × ByteArray))
  | [] => some []
  | .v (.string s) :: .v (.string c) :: .v (.int .i64 _) :: .v (.bool _) :: cs => (xItems cs).map ((s, c) :: ·)
  | _ => none
def xStrs : List AV → Option (List ByteArray)
  | [] => some []
  | .v (.string s) :: cs => (xStrs cs).map (s :: ·)
  | _ => none
def xNames : AV → Option (List ByteArray)
  | .v (.slice none 0 0) => some []
  | .ro _ 1 n cs => if cs.length = n ∧ n ≤ 1000000 then xStrs cs else none
  | _ => none
def xScopes : List AV → Option (List (List ByteArray × List ByteArray))
  | [] => some []
  | a :: b :: cs => (xNames a).bind fun s => (xNames b).bind fun c => (xScopes cs).map ((s, c) :: ·)
  | _ => none
def xHas (x : ByteArray × ByteArray) (s : List ByteArray × List ByteArray) : Bool :=
  decide (s.1.length + s.2.length = 0) || s.1.any (fun b => b.toList == x.1.toList) || s.2.any (fun b => b.toList == x.2.toList)
def xWho (x : ByteArray × ByteArray) : Nat → List (List ByteArray × List ByteArray) → List Nat
  | _, [] => []
  | k, s :: ss => (if xHas x s then [k] else []) ++ xWho x (k + 1) ss
def xRow (l : List Nat) : AV := if l = [] then .v (.slice none 0 0) else .ro false 1 l.length (l.map fun (k : Nat) => .v (.int .i64 (k : Int)))
def xIdx (args : List AV) (G : List (Option Blk)) : Option (AV × List (Option Blk)) :=
  ((⟨G, []⟩ : Hp).seesAll args).bind fun
  | [(n, ic), (m, sc)] => (xItems ic).bind fun is => (xScopes sc).bind fun ss =>
      if is.length = n ∧ ss.length = m ∧ n ≤ 1000000 ∧ m ≤ 1000000 then
        some (.own (.o G.length) n 0 n 1 (some n), G ++ [some { cells := is.map fun x => xRow (xWho x 0 ss), opn := false, wr := true, data := true, virt := false }])
      else none
  | _ => none
def xRun (f : String) (args : List AV) (G : List (Option Blk)) : Option (AV × List (Option Blk)) :=
  if f = "slices.Insert[[]haberdash/api.Seen,haberdash/api.Seen]" then xIns args G
  else if f = "haberdash/scope.Index" then xIdx args G
  else xNew f args G
inductive Ev (prog : String → Option IFn) : Task → Res → Prop
  | call {f args G F o s r} (hf : prog f = some F) (hb : Ev prog (.code F.body (enter F args G)) (.out o s)) (ho : o = .normal ∨ o = .ret)
      (hr : finish F s = some r) : Ev prog (.call f args G) (.ret r.1 r.2)
  | orc {f args G r} (hf : prog f = some xFn) (h : xRun f args G = some r) : Ev prog (.call f args G) (.ret r.1 r.2)
  | skip {s} : Ev prog (.code .skip s) (.out .normal s)
  | ops {l s s'} (h : Ev prog (.ops l s) (.env s')) : Ev prog (.code (.ops l) s) (.out .normal s')
  | draw {l s s'} (h : Ev prog (.draw l s) (.env s')) : Ev prog (.code (.draw l) s) (.out .normal s')
  | seq {a b s s' r} (h : Ev prog (.code a s) (.out .normal s')) (h' : Ev prog (.code b s') r) : Ev prog (.code (.seq a b) s) r
  | seqOut {a b s o s'} (h : Ev prog (.code a s) (.out o s')) (ho : o ≠ .normal) : Ev prog (.code (.seq a b) s) (.out o s')
  | cond {c a b s t r} (hc : evalO s.env c = .v (.bool t)) (h : Ev prog (.code (if t then a else b) s) r) : Ev prog (.code (.cond c a b) s) r
  | block {id a s o s'} (h : Ev prog (.code a s) (.out o s')) : Ev prog (.code (.block id a) s) (.out (if o = .exit id then .normal else o) s')
  | loop {clr fre a s s1 s2 r} (hc : clear s clr fre = some s1) (h : Ev prog (.code a s1) (.out .normal s2)) (h' : Ev prog (.code (.loop clr fre a) s2) r) :
      Ev prog (.code (.loop clr fre a) s) r
  | loopOut {clr fre a s s1 o s2} (hc : clear s clr fre = some s1) (h : Ev prog (.code a s1) (.out o s2)) (ho : o ≠ .normal) :
      Ev prog (.code (.loop clr fre a) s) (.out o s2)
  | post {mv a s s1 s2} (h : Ev prog (.code a s) (.out .normal s1)) (hm : mvSt mv s1 = some s2) : Ev prog (.code (.post mv a) s) (.out .normal s2)
  | postOut {mv a s o s1} (h : Ev prog (.code a s) (.out o s1)) (ho : o ≠ .normal) : Ev prog (.code (.post mv a) s) (.out o s1)
  | postIf {g mv a s s1 s2} (h : Ev prog (.code a s) (.out .normal s1)) (hm : mvIf g mv s1 = some s2) : Ev prog (.code (.postIf g mv a) s) (.out .normal s2)
  | postIfOut {g mv a s o s1} (h : Ev prog (.code a s) (.out o s1)) (ho : o ≠ .normal) : Ev prog (.code (.postIf g mv a) s) (.out o s1)
  | exit {id s} : Ev prog (.code (.exit id) s) (.out (.exit id) s)
  | ret {s} : Ev prog (.code .ret s) (.out .ret s)
  | prim {p xs h a h'} (hp : prim h p xs = some (a, h')) : Ev prog (.op p xs h) (.val a h')
  | opCall {f sites xs h r G2 a h'} (hi : okBlks 0 h.L = true) (hc : Ev prog (.call f (xs.map (AV.ren (up h.G.length))) h.into) (.ret r G2)) (hb : h.back sites G2 r = some (a, h')) :
      Ev prog (.op (.call f sites) xs h) (.val a h')
  | opCallV {f first caps sites xs h r G2 a h'} (hi : okBlks 0 h.L = true) (hc : Ev prog (.call f ((first ++ xs ++ caps).map (AV.ren (up h.G.length))) h.into) (.ret r G2))
      (hb : h.back sites G2 r = some (a, h')) : Ev prog (.op (.callV sites) (.fn f first caps :: xs) h) (.val a h')
  | opIn {f sites xs h F o s' vs} (hf : prog f = some F) (hc : F.body.calm = true)
      (hb : Ev prog (.code F.body ⟨xs ++ List.replicate (F.ntmps - xs.length) .dead, h⟩) (.out o s')) (ho : o = .normal ∨ o = .ret) (hv : resVals s' F.res = some vs) (hl : s'.h.L.length = h.L.length) :
      Ev prog (.op (.callIn f sites) xs h) (.val (packA vs) s'.h)
  | opsNil {s} : Ev prog (.ops [] s) (.env s)
  | opsSkip {i l s s'} (hg : s.guard i.guard = some false) (h : Ev prog (.ops l (s.put i.dst (.v undef))) (.env s')) : Ev prog (.ops (i :: l) s) (.env s')
  | opsCons {i l s a h' s'} (hg : s.guard i.guard = some true) (ho : Ev prog (.op i.p (i.xs.map (evalO s.env)) s.h) (.val a h'))
      (h : Ev prog (.ops l (({ s with h := h' } : St).put i.dst a)) (.env s')) : Ev prog (.ops (i :: l) s) (.env s')
  | drawNil {s} : Ev prog (.draw [] s) (.env s)
  | drawSkip {i l s s'} (hg : s.guard i.guard = some false) (h : Ev prog (.draw l (s.put i.dst (.v undef))) (.env s')) : Ev prog (.draw (i :: l) s) (.env s')
  | drawCons {i l s a h' s'} (hg : s.guard i.guard = some true)
      (ho : ∀ X, okX s.h.G.length X → Ev prog (.op i.p (i.xs.map (evalO s.env)) (s.h.over i.u X)) (.val a (h'.over i.u X)))
      (hd : okAt s.h.G.length (i.u ++ i.turns) s.h.L = true) (hq : i.loud = true ∨ (Quiet i.turns s.h h' ∧ okAt s.h.G.length i.turns h'.L = true)) (hu : ∀ k ∈ i.u, h'.L[k]? = s.h.L[k]?)
      (h : Ev prog (.draw l (({ s with h := h' } : St).put i.dst a)) (.env s')) : Ev prog (.draw (i :: l) s) (.env s')
def iP (d : Nat) (p : Prim) (xs : List Opd) : IOp := ⟨some d, p, xs, none, [], [], false⟩
def iN (p : Prim) (xs : List Opd) : IOp := ⟨none, p, xs, none, [], [], false⟩
def iG (g : Nat) (b : Bool) (d : Nat) (p : Prim) (xs : List Opd) : IOp := ⟨some d, p, xs, some (g, b), [], [], false⟩
def kI (n : Int) : Opd := .c (.int .i64 n)
theorem iP_eq {d p xs} : iP d p xs = ⟨some d, p, xs, none, [], [], false⟩ := rfl
theorem iN_eq {p xs} : iN p xs = ⟨none, p, xs, none, [], [], false⟩ := rfl
theorem iG_eq {g b d p xs} : iG g b d p xs = ⟨some d, p, xs, some (g, b), [], [], false⟩ := rfl
theorem kI_eq {n} : kI n = .c (.int .i64 n) := rfl
theorem DS : type_of% (And.intro @ne_eq.{1} (And.intro @not_false_eq_true (And.intro @implies_true.{1} (And.intro @implies_true.{0} (And.intro @List.getElem?_cons_zero.{0} (@List.getElem?_cons_succ.{0})))))) :=
  And.intro @ne_eq.{1} (And.intro @not_false_eq_true (And.intro @implies_true.{1} (And.intro @implies_true.{0} (And.intro @List.getElem?_cons_zero.{0} (@List.getElem?_cons_succ.{0})))))
theorem LS : type_of% (And.intro @List.map_cons.{0,0} (And.intro @List.map_nil.{0,0} (And.intro @List.getD_cons_zero.{0} (And.intro @List.getD_cons_succ.{0} (And.intro @List.set_cons_zero.{0} (And.intro @List.set_cons_succ.{0} (And.intro @Option.map_some.{0,0} (And.intro @Option.bind_some.{0,0} (And.intro
    @ne_eq.{1} (And.intro @not_false_eq_true (And.intro @implies_true.{1} (And.intro @beq_self_eq_true.{0} (And.intro @BEq.rfl.{0} (And.intro @if_true.{1} (And.intro @if_false.{1} (And.intro @Bool.false_eq_true (And.intro @not_true_eq_false (And.intro @Option.some.injEq.{0} (And.intro @Bool.not_true (And.intro
    @Bool.not_false (And.intro @beq_true (And.intro @beq_false (And.intro @Bool.true_and (And.intro @Bool.and_true (And.intro @Bool.false_and (And.intro @Bool.and_false (And.intro @true_and (And.intro @List.getElem?_cons_zero.{0} (And.intro @List.getElem?_cons_succ.{0} (And.intro @List.length_cons.{0}
    (@List.length_nil.{0}))))))))))))))))))))))))))))))) :=
  And.intro @List.map_cons.{0,0} (And.intro @List.map_nil.{0,0} (And.intro @List.getD_cons_zero.{0} (And.intro @List.getD_cons_succ.{0} (And.intro @List.set_cons_zero.{0} (And.intro @List.set_cons_succ.{0} (And.intro @Option.map_some.{0,0} (And.intro @Option.bind_some.{0,0} (And.intro
    @ne_eq.{1} (And.intro @not_false_eq_true (And.intro @implies_true.{1} (And.intro @beq_self_eq_true.{0} (And.intro @BEq.rfl.{0} (And.intro @if_true.{1} (And.intro @if_false.{1} (And.intro @Bool.false_eq_true (And.intro @not_true_eq_false (And.intro @Option.some.injEq.{0} (And.intro @Bool.not_true (And.intro
    @Bool.not_false (And.intro @beq_true (And.intro @beq_false (And.intro @Bool.true_and (And.intro @Bool.and_true (And.intro @Bool.false_and (And.intro @Bool.and_false (And.intro @true_and (And.intro @List.getElem?_cons_zero.{0} (And.intro @List.getElem?_cons_succ.{0} (And.intro @List.length_cons.{0}
    (@List.length_nil.{0}))))))))))))))))))))))))))))))
end Go.AM
namespace Go.AM
open Go.RowKit
structure LInfo where
  b : Nat
  n : Nat
  virt : Bool
  sz : Nat
def RowAt (w : World) (W : Nat → Prop) (a : Addr) (n : Nat) (us : Nat → Value) : Prop :=
  n = 0 ∨ (a.spot = none ∧ ¬ W a.block ∧ ∀ i, i < n → w.cell? ⟨a.block, a.off + i, none⟩ = some (us i) ∧ (us i).oneCell' = true)
def OwnOK (I : LInfo) (off len esz : Nat) (cap : Option Nat) (x : Value) : Prop :=
  if I.virt then x = .slice none 0 0 ∧ off = 0 ∧ len = 0
  else ∃ a C, x = .slice (some a) len C ∧ len ≤ C ∧ (C = 0 ∨ a = ⟨I.b, off, none⟩) ∧ off + C * esz ≤ I.sz ∧
    (∀ c, cap = some c → C = c ∧ off + c * esz ≤ I.n) ∧ (cap = none → I.n ≤ off + C * esz) ∧ off + len * esz ≤ I.n
def RoOK (w : World) (W : Nat → Prop) (x : Value) (isNil : Bool) (len n : Nat) (us : Nat → Value) : Prop :=
  (isNil = true → x = .slice none 0 0 ∧ len = 0) ∧ (isNil = false → ∃ a C, x = .slice (some a) len C ∧ len ≤ C ∧ RowAt w W a n us)
inductive Rep (fid : String → Option FuncId) (w : World) (W : Nat → Prop) (M : Lab → Option LInfo) : Value → AV → Prop
  | v (x) : Rep fid w W M x (.v x)
  | dead (x) : Rep fid w W M x .dead
  | ptr {a : Addr} {ℓ n off I} (hM : M ℓ = some I) (hn : n ≤ I.n) (h : I.n = n → I.virt = false ∧ a = ⟨I.b, off, none⟩) : Rep fid w W M (.pointer (some a)) (.ptr ℓ n off)
  | own {x ℓ n off len esz cap I} (hM : M ℓ = some I) (hn : n ≤ I.n) (h : I.n = n → OwnOK I off len esz cap x)
      (hlen : ∃ a C, x = .slice a len C ∧ len ≤ C ∧ (a = none → len = 0 ∧ C = 0) ∧ ∀ c, cap = some c → C = c) :
      Rep fid w W M x (.own ℓ n off len esz cap)
  | ro {x isNil esz len cells} (us : Nat → Value) (hlen : cells.length = len * esz) (hlf : AV.lf.lfs cells = true) (h : RoOK w W x isNil len cells.length us)
      (hc : ∀ i a, cells[i]? = some a → Rep fid w W M (us i) a) : Rep fid w W M x (.ro isNil esz len cells)
  | rop {a : Addr} {cells} (us : Nat → Value) (hlf : AV.lf.lfs cells = true) (h : RowAt w W a cells.length us)
      (hc : ∀ i a, cells[i]? = some a → Rep fid w W M (us i) a) : Rep fid w W M (.pointer (some a)) (.rop cells)
  | fn {f id first caps} {fs cs : List Value} (hf : fid f = some id) (h1 : fs.length = first.length) (hc1 : ∀ (i : Nat) x a, fs[i]? = some x → first[i]? = some a → Rep fid w W M x a)
      (h2 : cs.length = caps.length) (hc2 : ∀ (i : Nat) x a, cs[i]? = some x → caps[i]? = some a → Rep fid w W M x a) :
      Rep fid w W M (.func (.func id) fs.toArray cs.toArray) (.fn f first caps)
  | agg {xs : List Value} {as} (h1 : xs.length = as.length) (h2 : ∀ x ∈ xs, x.oneCell' = true) (hc : ∀ (i : Nat) x a, xs[i]? = some x → as[i]? = some a → Rep fid w W M x a) :
      Rep fid w W M (.agg xs.toArray) (.agg as)
  | tup {xs : List Value} {as} (h1 : xs.length = as.length) (hc : ∀ (i : Nat) x a, xs[i]? = some x → as[i]? = some a → Rep fid w W M x a) :
      Rep fid w W M (.tuple xs.toArray) (.tup as)
def Reps (fid : String → Option FuncId) (w : World) (W : Nat → Prop) (M : Lab → Option LInfo) (xs : List Value) (as : List AV) : Prop :=
  xs.length = as.length ∧ ∀ (i : Nat) x a, xs[i]? = some x → as[i]? = some a → Rep fid w W M x a
variable {fid : String → Option FuncId}
theorem Reps.nil {w W M} : Reps fid w W M [] [] := ⟨rfl, fun i x a h => by simp at h⟩
theorem Reps.cons {w W M x a xs as} (h : Rep fid w W M x a) (hs : Reps fid w W M xs as) : Reps fid w W M (x :: xs) (a :: as) := by
  refine ⟨by simp [hs.1], fun i y b hy hb => ?_⟩
  cases i with
  | zero => simp at hy hb; subst hy; subst hb; exact h
  | succ i => exact hs.2 i y b (by simpa using hy) (by simpa using hb)
theorem Reps.head {w W M x a xs as} (h : Reps fid w W M (x :: xs) (a :: as)) : Rep fid w W M x a := h.2 0 x a rfl rfl
theorem Reps.tail {w W M x a xs as} (h : Reps fid w W M (x :: xs) (a :: as)) : Reps fid w W M xs as :=
  ⟨by simpa using h.1, fun i y b hy hb => h.2 (i + 1) y b (by simpa using hy) (by simpa using hb)⟩
theorem Reps.cons_inv {w W M xs a as} (h : Reps fid w W M xs (a :: as)) : ∃ y ys, xs = y :: ys ∧ Rep fid w W M y a ∧ Reps fid w W M ys as := by
  cases xs with
  | nil => exact absurd h.1 (by simp)
  | cons y ys => exact ⟨y, ys, rfl, h.head, h.tail⟩
theorem Reps.nil_inv {w W M xs} (h : Reps fid w W M xs []) : xs = [] := by
  cases xs with
  | nil => rfl
  | cons y ys => exact absurd h.1 (by simp)
theorem Reps.append {w W M xs as ys bs} (h : Reps fid w W M xs as) (h' : Reps fid w W M ys bs) : Reps fid w W M (xs ++ ys) (as ++ bs) := by
  refine ⟨by simp [h.1, h'.1], fun i x a hx ha => ?_⟩
  by_cases hi : i < xs.length
  · rw [List.getElem?_append_left hi] at hx
    rw [List.getElem?_append_left (by rw [← h.1]; exact hi)] at ha
    exact h.2 i x a hx ha
  · rw [List.getElem?_append_right (by omega)] at hx
    rw [List.getElem?_append_right (by rw [← h.1]; omega)] at ha
    exact h'.2 _ x a hx (by rw [h.1]; exact ha)
theorem Reps.take {w W M xs as} (h : Reps fid w W M xs as) (n : Nat) : Reps fid w W M (xs.take n) (as.take n) := by
  refine ⟨by simp [h.1], fun i x a hx ha => ?_⟩
  rw [List.getElem?_take] at hx ha
  split at hx
  · rename_i hi; rw [if_pos hi] at ha; exact h.2 i x a hx ha
  · cases hx
theorem Reps.drop {w W M xs as} (h : Reps fid w W M xs as) (n : Nat) : Reps fid w W M (xs.drop n) (as.drop n) := by
  refine ⟨by simp [h.1], fun i x a hx ha => ?_⟩
  rw [List.getElem?_drop] at hx ha
  exact h.2 _ x a hx ha
theorem Reps.set {w W M xs as x a} (h : Reps fid w W M xs as) (n : Nat) (h' : Rep fid w W M x a) : Reps fid w W M (xs.set n x) (as.set n a) := by
  refine ⟨by simp [h.1], fun i y b hy hb => ?_⟩
  rw [List.getElem?_set] at hy hb
  split at hy
  · rename_i hi
    subst hi
    rw [if_pos rfl] at hb
    split at hy
    · rename_i hl
      rw [if_pos (by rw [← h.1]; exact hl)] at hb
      cases hy; cases hb; exact h'
    · cases hy
  · rename_i hi
    rw [if_neg hi] at hb
    exact h.2 i y b hy hb
theorem lfs_iff {as : List AV} : AV.lf.lfs as = true ↔ ∀ a ∈ as, a.lf = true := by
  induction as with
  | nil => simp [AV.lf.lfs]
  | cons a as ih => simp [AV.lf.lfs, ih]
theorem lfs_get {as : List AV} (h : AV.lf.lfs as = true) {i : Nat} {a : AV} (ha : as[i]? = some a) : a.lf = true :=
  lfs_iff.1 h a (List.mem_of_getElem? ha)
theorem lfs_append {as bs : List AV} : AV.lf.lfs (as ++ bs) = (AV.lf.lfs as && AV.lf.lfs bs) := by
  rw [Bool.eq_iff_iff]
  simp only [Bool.and_eq_true, lfs_iff, List.mem_append]
  exact ⟨fun h => ⟨fun a ha => h a (.inl ha), fun a ha => h a (.inr ha)⟩, fun h a ha => ha.elim (h.1 a) (h.2 a)⟩
theorem lfs_take {as : List AV} (h : AV.lf.lfs as = true) (n : Nat) : AV.lf.lfs (as.take n) = true :=
  lfs_iff.2 fun a ha => lfs_iff.1 h a (List.mem_of_mem_take ha)
theorem lfs_drop {as : List AV} (h : AV.lf.lfs as = true) (n : Nat) : AV.lf.lfs (as.drop n) = true :=
  lfs_iff.2 fun a ha => lfs_iff.1 h a (List.mem_of_mem_drop ha)
theorem Rep.lf_any {w W M M' x a} (h : Rep fid w W M x a) : a.lf = true → Rep fid w W M' x a := by
  induction h with
  | v x => exact fun _ => .v x
  | dead x => exact fun _ => .dead x
  | ptr => intro h; simp [AV.lf] at h
  | own => intro h; simp [AV.lf] at h
  | ro us hlen hlf h _ ih => exact fun _ => .ro us hlen hlf h fun i a ha => ih i a ha (lfs_get hlf ha)
  | rop us hlf h _ ih => exact fun _ => .rop us hlf h fun i a ha => ih i a ha (lfs_get hlf ha)
  | fn hf h1 _ h2 _ ih1 ih2 =>
    intro h
    simp only [AV.lf, Bool.and_eq_true] at h
    exact .fn hf h1 (fun i x a hx ha => ih1 i x a hx ha (lfs_get h.1 ha)) h2 (fun i x a hx ha => ih2 i x a hx ha (lfs_get h.2 ha))
  | agg h1 h2 _ ih =>
    intro h
    simp only [AV.lf] at h
    exact .agg h1 h2 fun i x a hx ha => ih i x a hx ha (lfs_get h ha)
  | tup h1 _ ih =>
    intro h
    simp only [AV.lf] at h
    exact .tup h1 fun i x a hx ha => ih i x a hx ha (lfs_get h ha)
structure Pres (w : World) (W : Nat → Prop) (M : Lab → Option LInfo) (w' : World) (W' : Nat → Prop) (M' : Lab → Option LInfo) : Prop where
  heap : ∀ b, b < w.heap.size → ¬ W b → w'.heap[b]? = w.heap[b]?
  wr : ∀ b, b < w.heap.size → W' b → W b
  lab : ∀ ℓ I, M ℓ = some I → ∃ I', M' ℓ = some I' ∧ (I' = I ∨ I.n < I'.n)
  size : w.heap.size ≤ w'.heap.size
theorem Pres.refl (w : World) (W : Nat → Prop) (M : Lab → Option LInfo) : Pres w W M w W M :=
  ⟨fun _ _ _ => rfl, fun _ _ h => h, fun _ I h => ⟨I, h, .inl rfl⟩, Nat.le_refl _⟩
theorem Pres.trans {w W M w1 W1 M1 w2 W2 M2} (h : Pres w W M w1 W1 M1) (k : Pres w1 W1 M1 w2 W2 M2) : Pres w W M w2 W2 M2 := by
  refine ⟨fun b hb hW => ?_, fun b hb hW => h.wr b hb (k.wr b (Nat.lt_of_lt_of_le hb h.size) hW), fun ℓ I hI => ?_, Nat.le_trans h.size k.size⟩
  · rw [k.heap b (Nat.lt_of_lt_of_le hb h.size) (fun h1 => hW (h.wr b hb h1)), h.heap b hb hW]
  · obtain ⟨I1, h1, e1⟩ := h.lab ℓ I hI
    obtain ⟨I2, h2, e2⟩ := k.lab ℓ I1 h1
    refine ⟨I2, h2, ?_⟩
    rcases e1 with rfl | e1
    · exact e2
    · rcases e2 with rfl | e2
      · exact .inr e1
      · exact .inr (by omega)
theorem cell?_lt {w : World} {a : Addr} {x : Value} (h : w.cell? a = some x) : a.block < w.heap.size := by
  by_cases hb : a.block < w.heap.size
  · exact hb
  · rw [World.cell?, Array.getElem?_eq_none (by omega)] at h
    cases h
theorem RowAt.pres {w W M w' W' M' a n us} (h : RowAt w W a n us) (p : Pres w W M w' W' M') : RowAt w' W' a n us := by
  rcases h with h | ⟨h1, h2, h3⟩
  · exact .inl h
  · by_cases hn : n = 0
    · exact .inl hn
    · have hlt : a.block < w.heap.size := cell?_lt (a := ⟨a.block, a.off + 0, none⟩) (h3 0 (by omega)).1
      refine .inr ⟨h1, fun h => h2 (p.wr _ hlt h), fun i hi => ⟨?_, (h3 i hi).2⟩⟩
      rw [← (h3 i hi).1]
      exact World.cell?_of_block (p.heap _ hlt h2)
theorem RoOK.pres {w W M w' W' M' x isNil len n us} (h : RoOK w W x isNil len n us) (p : Pres w W M w' W' M') : RoOK w' W' x isNil len n us :=
  ⟨h.1, fun hn => let ⟨a, C, e, l, r⟩ := h.2 hn; ⟨a, C, e, l, r.pres p⟩⟩
theorem Rep.pres {w W M w' W' M' x a} (h : Rep fid w W M x a) (p : Pres w W M w' W' M') : Rep fid w' W' M' x a := by
  induction h with
  | v x => exact .v x
  | dead x => exact .dead x
  | ptr hM hn h =>
    obtain ⟨I', hI', e⟩ := p.lab _ _ hM
    rcases e with rfl | e
    · exact .ptr hI' hn h
    · exact .ptr hI' (by omega) (fun hh => by omega)
  | own hM hn h hlen =>
    obtain ⟨I', hI', e⟩ := p.lab _ _ hM
    rcases e with rfl | e
    · exact .own hI' hn h hlen
    · exact .own hI' (by omega) (fun hh => by omega) hlen
  | ro us hlen hlf h _ ih => exact .ro us hlen hlf (h.pres p) ih
  | rop us hlf h _ ih => exact .rop us hlf (h.pres p) ih
  | fn hf h1 _ h2 _ ih1 ih2 => exact .fn hf h1 ih1 h2 ih2
  | agg h1 h2 _ ih => exact .agg h1 h2 ih
  | tup h1 _ ih => exact .tup h1 ih
theorem Reps.pres {w W M w' W' M' xs as} (h : Reps fid w W M xs as) (p : Pres w W M w' W' M') : Reps fid w' W' M' xs as :=
  ⟨h.1, fun i x a hx ha => (h.2 i x a hx ha).pres p⟩
theorem rens_length {ρ} : ∀ {as : List AV}, (AV.ren.rens ρ as).length = as.length
  | [] => rfl
  | _ :: as => by simp [AV.ren.rens, rens_length (as := as)]
theorem rens_get {ρ} : ∀ {as : List AV} {i : Nat}, (AV.ren.rens ρ as)[i]? = (as[i]?).map (AV.ren ρ)
  | [], i => by simp [AV.ren.rens]
  | a :: as, 0 => by simp [AV.ren.rens]
  | a :: as, i + 1 => by simp [AV.ren.rens, rens_get (as := as) (i := i)]
theorem rens_eq_map {ρ} : ∀ {as : List AV}, AV.ren.rens ρ as = as.map (AV.ren ρ)
  | [] => rfl
  | _ :: as => by simp [AV.ren.rens, rens_eq_map (as := as)]
theorem labss_mem {as : List AV} {ℓ : Lab} : ℓ ∈ AV.labs.labss as ↔ ∃ a ∈ as, ℓ ∈ a.labs := by
  induction as with
  | nil => simp [AV.labs.labss]
  | cons a as ih => simp [AV.labs.labss, ih]
theorem Rep.ren {w W M M' x a} (ρ : Lab → Option Lab) (h : Rep fid w W M x a) (hρ : ∀ ℓ I ℓ', M ℓ = some I → ρ ℓ = some ℓ' → M' ℓ' = some I) :
    Rep fid w W M' x (a.ren ρ) := by
  induction h with
  | v x => exact .v x
  | dead x => exact .dead x
  | @ptr x ℓ n off I hM hn h =>
    simp only [AV.ren]
    cases e : ρ ℓ with
    | none => exact .dead _
    | some ℓ' => exact .ptr (hρ ℓ I ℓ' hM e) hn h
  | @own x ℓ n off len esz cap I hM hn h hlen =>
    simp only [AV.ren]
    cases e : ρ ℓ with
    | none => exact .dead _
    | some ℓ' => exact .own (hρ ℓ I ℓ' hM e) hn h hlen
  | ro us hlen hlf h hc _ => exact .ro us hlen hlf h fun i a ha => (hc i a ha).lf_any (lfs_get hlf ha)
  | rop us hlf h hc _ => exact .rop us hlf h fun i a ha => (hc i a ha).lf_any (lfs_get hlf ha)
  | fn hf h1 _ h2 _ ih1 ih2 =>
    simp only [AV.ren]
    refine .fn hf (by simpa [rens_length] using h1) (fun i x a hx ha => ?_) (by simpa [rens_length] using h2) (fun i x a hx ha => ?_)
    · rw [rens_get] at ha
      obtain ⟨a0, h0, rfl⟩ := Option.map_eq_some_iff.1 ha
      exact ih1 i x a0 hx h0
    · rw [rens_get] at ha
      obtain ⟨a0, h0, rfl⟩ := Option.map_eq_some_iff.1 ha
      exact ih2 i x a0 hx h0
  | agg h1 h2 _ ih =>
    simp only [AV.ren]
    refine .agg (by simpa [rens_length] using h1) h2 (fun i x a hx ha => ?_)
    rw [rens_get] at ha
    obtain ⟨a0, h0, rfl⟩ := Option.map_eq_some_iff.1 ha
    exact ih i x a0 hx h0
  | tup h1 _ ih =>
    simp only [AV.ren]
    refine .tup (by simpa [rens_length] using h1) (fun i x a hx ha => ?_)
    rw [rens_get] at ha
    obtain ⟨a0, h0, rfl⟩ := Option.map_eq_some_iff.1 ha
    exact ih i x a0 hx h0
theorem Reps.ren {w W M M' xs as} (ρ : Lab → Option Lab) (h : Reps fid w W M xs as) (hρ : ∀ ℓ I ℓ', M ℓ = some I → ρ ℓ = some ℓ' → M' ℓ' = some I) :
    Reps fid w W M' xs (as.map (AV.ren ρ)) := by
  refine ⟨by simpa using h.1, fun i x a hx ha => ?_⟩
  rw [List.getElem?_map] at ha
  obtain ⟨a0, h0, rfl⟩ := Option.map_eq_some_iff.1 ha
  exact (h.2 i x a0 hx h0).ren ρ hρ
theorem Rep.labs {w W M M' x a} (h : Rep fid w W M x a) : (∀ ℓ ∈ a.labs, ∀ I, M ℓ = some I → M' ℓ = some I) → Rep fid w W M' x a := by
  induction h with
  | v x => exact fun _ => .v x
  | dead x => exact fun _ => .dead x
  | ptr hM hn h => exact fun hl => .ptr (hl _ (by simp [AV.labs]) _ hM) hn h
  | own hM hn h hlen => exact fun hl => .own (hl _ (by simp [AV.labs]) _ hM) hn h hlen
  | ro us hlen hlf h hc _ => exact fun _ => .ro us hlen hlf h fun i a ha => (hc i a ha).lf_any (lfs_get hlf ha)
  | rop us hlf h hc _ => exact fun _ => .rop us hlf h fun i a ha => (hc i a ha).lf_any (lfs_get hlf ha)
  | fn hf h1 _ h2 _ ih1 ih2 =>
    intro hl
    simp only [AV.labs, List.mem_append] at hl
    exact .fn hf h1 (fun i x a hx ha => ih1 i x a hx ha fun ℓ hm => hl ℓ (.inl (labss_mem.2 ⟨a, List.mem_of_getElem? ha, hm⟩)))
      h2 (fun i x a hx ha => ih2 i x a hx ha fun ℓ hm => hl ℓ (.inr (labss_mem.2 ⟨a, List.mem_of_getElem? ha, hm⟩)))
  | agg h1 h2 _ ih =>
    intro hl
    simp only [AV.labs] at hl
    exact .agg h1 h2 (fun i x a hx ha => ih i x a hx ha fun ℓ hm => hl ℓ (labss_mem.2 ⟨a, List.mem_of_getElem? ha, hm⟩))
  | tup h1 _ ih =>
    intro hl
    simp only [AV.labs] at hl
    exact .tup h1 (fun i x a hx ha => ih i x a hx ha fun ℓ hm => hl ℓ (labss_mem.2 ⟨a, List.mem_of_getElem? ha, hm⟩))
theorem lf_of_labs_nil {a : AV} : a.lf = true → a.labs = [] := by
  induction a using AV.rec (motive_2 := fun as => AV.lf.lfs as = true → AV.labs.labss as = []) with
  | v x => simp [AV.labs]
  | ptr => simp [AV.lf]
  | own => simp [AV.lf]
  | ro => simp [AV.labs]
  | rop => simp [AV.labs]
  | fn f a b iha ihb => intro h; simp only [AV.lf, Bool.and_eq_true] at h; simp [AV.labs, iha h.1, ihb h.2]
  | agg cs ih => intro h; simp only [AV.lf] at h; simp [AV.labs, ih h]
  | tup cs ih => intro h; simp only [AV.lf] at h; simp [AV.labs, ih h]
  | dead => simp [AV.labs]
  | nil => simp [AV.labs.labss]
  | cons a as iha ihas => rename_i h; simp only [AV.lf.lfs, Bool.and_eq_true] at h; simp [AV.labs.labss, iha h.1, ihas h.2]
def info (μ : Lab → Nat × Nat) (get : Lab → Option Blk) (ℓ : Lab) : Option LInfo :=
  (get ℓ).map fun B => ⟨(μ ℓ).1, B.cells.length, B.virt, (μ ℓ).2⟩
def Wr (μ : Lab → Nat × Nat) (get : Lab → Option Blk) (b : Nat) : Prop := ∃ ℓ B, get ℓ = some B ∧ B.wr = true ∧ B.virt = false ∧ (μ ℓ).1 = b
structure BlkOK (fid : String → Option FuncId) (base : Nat) (w : World) (W : Nat → Prop) (M : Lab → Option LInfo) (b sz : Nat) (B : Blk) : Prop where
  virt : B.virt = true → B.cells = [] ∧ B.opn = true
  data : B.data = true → AV.lf.lfs B.cells = true
  row : B.virt = false → ∃ (c : Array Value) (e lo hi : Nat), w.heap[b]? = some (.cells c e (lo, hi)) ∧ c.size = sz ∧ (lo = hi ∨ (sz ≤ lo ∧ B.plain = false)) ∧ B.cells.length ≤ sz ∧
    (B.opn = false → B.cells.length = sz) ∧ base ≤ b ∧ (∀ x ∈ c, x.oneCell' = true) ∧ ∀ (i : Nat) a, B.cells[i]? = some a → ∃ x, (c : Array Value)[i]? = some x ∧ Rep fid w W M x a
structure HeapOK (fid : String → Option FuncId) (base : Nat) (w : World) (μ : Lab → Nat × Nat) (get : Lab → Option Blk) : Prop where
  blk : ∀ ℓ B, get ℓ = some B → BlkOK fid base w (Wr μ get) (info μ get) (μ ℓ).1 (μ ℓ).2 B
  inj : ∀ ℓ ℓ' B B', get ℓ = some B → get ℓ' = some B' → B.virt = false → B'.virt = false → (μ ℓ).1 = (μ ℓ').1 → ℓ = ℓ'
structure Sim (fid : String → Option FuncId) (base : Nat) (w0 : World) (w : World) (μ : Lab → Nat × Nat) (get : Lab → Option Blk) : Prop where
  below : Below base w0 w
  le : base ≤ w.heap.size
  ok : HeapOK fid base w μ get
theorem BlkOK.pres {base w W M w' W' M' b sz B} (h : BlkOK fid base w W M b sz B) (p : Pres w W M w' W' M') (hb : w'.heap[b]? = w.heap[b]?) :
    BlkOK fid base w' W' M' b sz B := by
  refine ⟨h.virt, h.data, fun hv => ?_⟩
  obtain ⟨c, e, lo, hi, h1, h2, h3, h4, h5, h6, h7, h8⟩ := h.row hv
  refine ⟨c, e, lo, hi, by rw [hb, h1], h2, h3, h4, h5, h6, h7, fun i a ha => ?_⟩
  obtain ⟨x, hx, r⟩ := h8 i a ha
  exact ⟨x, hx, r.pres p⟩
theorem BlkOK.lt {base w W M b sz B} (h : BlkOK fid base w W M b sz B) (hv : B.virt = false) : b < w.heap.size := by
  obtain ⟨c, e, lo, hi, h1, _⟩ := h.row hv
  by_cases hb : b < w.heap.size
  · exact hb
  · rw [Array.getElem?_eq_none (by omega)] at h1; cases h1
structure Upd (w : World) (μ : Lab → Nat × Nat) (get : Lab → Option Blk) (w' : World) (ℓ : Lab) (b' sz' : Nat) (B' : Blk) : Prop where
  heap : ∀ k, k < w.heap.size → k ≠ b' → w'.heap[k]? = w.heap[k]?
  size : w.heap.size ≤ w'.heap.size
  os : w'.os = w.os
  tape : w'.tape = w.tape
  output : w'.output = w.output
  blk : w'.heap[b']? = w.heap[b']? ∨ (∃ B, get ℓ = some B ∧ B.wr = true ∧ B.virt = false ∧ (μ ℓ).1 = b') ∨ w.heap.size ≤ b'
  wr : B'.wr = true → B'.virt = false → (∃ B, get ℓ = some B ∧ B.wr = true ∧ B.virt = false ∧ (μ ℓ).1 = b') ∨ w.heap.size ≤ b'
  lab : ∀ B, get ℓ = some B → (B'.cells.length = B.cells.length ∧ B'.virt = B.virt ∧ μ ℓ = (b', sz')) ∨ B.cells.length < B'.cells.length
  other : B'.virt = false → w.heap.size ≤ b' ∨ ∃ B, get ℓ = some B ∧ B.virt = false ∧ (μ ℓ).1 = b'
def upd {α : Type} (f : Lab → α) (ℓ : Lab) (x : α) : Lab → α := fun ℓ' => if ℓ' = ℓ then x else f ℓ'
theorem Upd.pres {w μ get w' ℓ b' sz' B'} (u : Upd w μ get w' ℓ b' sz' B') :
    Pres w (Wr μ get) (info μ get) w' (Wr (upd μ ℓ (b', sz')) (upd get ℓ (some B'))) (info (upd μ ℓ (b', sz')) (upd get ℓ (some B'))) := by
  refine ⟨fun b hb hW => ?_, fun b hb hW => ?_, fun ℓ' I hI => ?_, u.size⟩
  · by_cases e : b = b'
    · subst e
      rcases u.blk with h | ⟨B, h1, h2, h3, h4⟩ | h
      · exact h
      · exact absurd ⟨ℓ, B, h1, h2, h3, h4⟩ hW
      · omega
    · exact u.heap b hb e
  · obtain ⟨ℓ', B, h1, h2, h3, h4⟩ := hW
    by_cases e : ℓ' = ℓ
    · subst e
      simp only [upd, if_true] at h1 h4
      cases h1
      subst h4
      rcases u.wr h2 h3 with ⟨B, g1, g2, g3, g4⟩ | h
      · exact ⟨ℓ', B, g1, g2, g3, g4⟩
      · omega
    · simp only [upd, if_neg e] at h1 h4
      exact ⟨ℓ', B, h1, h2, h3, h4⟩
  · by_cases e : ℓ' = ℓ
    · subst e
      simp only [info] at hI
      obtain ⟨B, hB, rfl⟩ := Option.map_eq_some_iff.1 hI
      refine ⟨_, by simp only [info, upd, if_true, Option.map_some]; rfl, ?_⟩
      rcases u.lab B hB with ⟨g1, g2, g3⟩ | h
      · left; simp [g1, g2, g3]
      · right; exact h
    · exact ⟨I, by simpa only [info, upd, if_neg e] using hI, .inl rfl⟩
theorem Upd.sim {base w0 w μ get w' ℓ b' sz' B'} (S : Sim fid base w0 w μ get) (u : Upd w μ get w' ℓ b' sz' B')
    (hbase : ∀ k, k < base → w'.heap[k]? = w.heap[k]?)
    (hok : BlkOK fid base w' (Wr (upd μ ℓ (b', sz')) (upd get ℓ (some B'))) (info (upd μ ℓ (b', sz')) (upd get ℓ (some B'))) b' sz' B') :
    Sim fid base w0 w' (upd μ ℓ (b', sz')) (upd get ℓ (some B')) := by
  have p := u.pres
  refine ⟨S.below.trans ⟨u.os, u.tape, u.output, u.size, hbase⟩, Nat.le_trans S.le u.size, fun ℓ' B hB => ?_, fun ℓ1 ℓ2 B1 B2 h1 h2 v1 v2 e => ?_⟩
  · by_cases e : ℓ' = ℓ
    · subst e
      simp only [upd, if_true] at hB ⊢
      cases hB
      exact hok
    · simp only [upd, if_neg e] at hB ⊢
      have hB0 := S.ok.blk ℓ' B hB
      by_cases hv : B.virt = true
      · exact ⟨hB0.virt, hB0.data, fun h => by simp [hv] at h⟩
      · have hv' : B.virt = false := by simpa using hv
        refine hB0.pres p ?_
        by_cases eb : (μ ℓ').1 = b'
        · rcases u.blk with h | ⟨B0, g1, g2, g3, g4⟩ | h
          · rw [eb]; exact h
          · exact absurd (S.ok.inj ℓ' ℓ B B0 hB g1 hv' g3 (eb.trans g4.symm)) e
          · have := hB0.lt hv'; omega
        · exact u.heap _ (hB0.lt hv') eb
  · by_cases e1 : ℓ1 = ℓ
    · by_cases e2 : ℓ2 = ℓ
      · rw [e1, e2]
      · exfalso
        subst e1
        simp only [upd, if_true, if_neg e2] at h1 h2 e
        cases h1
        have hlt := (S.ok.blk ℓ2 B2 h2).lt v2
        rcases u.other v1 with h | ⟨B0, g1, g2, g3⟩
        · omega
        · exact e2 (S.ok.inj ℓ2 ℓ1 B2 B0 h2 g1 v2 g2 (by rw [← e, g3]))
    · by_cases e2 : ℓ2 = ℓ
      · exfalso
        subst e2
        simp only [upd, if_true, if_neg e1] at h1 h2 e
        cases h2
        have hlt := (S.ok.blk ℓ1 B1 h1).lt v1
        rcases u.other v2 with h | ⟨B0, g1, g2, g3⟩
        · omega
        · exact e1 (S.ok.inj ℓ1 ℓ2 B1 B0 h1 g1 v1 g2 (by rw [e, g3]))
      · simp only [upd, if_neg e1, if_neg e2] at h1 h2 e
        exact S.ok.inj ℓ1 ℓ2 B1 B2 h1 h2 v1 v2 e
end Go.AM
namespace Go.AM
def atomEq : Value → Value → Bool
  | .bool a, .bool b => a == b
  | .int k a, .int k' b => k == k' && a == b
  | .string a, .string b => a.data == b.data
  | .pointer none, .pointer none => true
  | .slice none 0 0, .slice none 0 0 => true
  | .nilFunc, .nilFunc => true
  | .nilIface, .nilIface => true
  | _, _ => false
theorem atomEq_sound {a b : Value} (h : atomEq a b = true) : a = b := by
  unfold atomEq at h
  split at h <;> simp_all
  rename_i s t; cases s; cases t; simp_all
theorem atomEq_one {a b : Value} (h : atomEq a b = true) : a.oneCell' = true := by
  unfold atomEq at h
  split at h <;> first | rfl | simp_all
def atomsEq : List Value → List Value → Bool
  | [], [] => true
  | a :: as, b :: bs => atomEq a b && atomsEq as bs
  | _, _ => false
theorem atomsEq_sound : ∀ {as bs : List Value}, atomsEq as bs = true → as = bs ∧ ∀ a ∈ as, a.oneCell' = true
  | [], [], _ => ⟨rfl, by simp⟩
  | a :: as, b :: bs, h => by
    simp only [atomsEq, Bool.and_eq_true] at h
    obtain ⟨h1, h2⟩ := atomsEq_sound h.2
    refine ⟨by rw [atomEq_sound h.1, h1], fun x hx => ?_⟩
    rcases List.mem_cons.1 hx with rfl | hx
    · exact atomEq_one h.1
    · exact h2 x hx
  | [], _ :: _, h => by simp [atomsEq] at h
  | _ :: _, [], h => by simp [atomsEq] at h
def valEq : Value → Value → Bool
  | .agg a, .agg b => atomsEq a.toList b.toList
  | .tuple a, .tuple b => atomsEq a.toList b.toList
  | a, b => atomEq a b
def tSize (P : Program) (t : TypeId) (n : Nat) : Bool := match P.info? t with | some i => i.size == n | none => false
def tBytes (P : Program) (t : TypeId) (n : Nat) : Bool := match P.info? t with | some i => i.bytes == n | none => false
def tZero (P : Program) (t : TypeId) (zs : List Value) : Bool := match P.info? t with
  | some i => (match i.zero with | some z => atomsEq z.cells.toList zs | none => false)
  | none => false
def tAgg (P : Program) (t : TypeId) (b : Bool) : Bool := match P.underlying t with
  | some (.struct _) => b
  | some (.array _ _) => b
  | some _ => !b
  | none => false
def tSlice (P : Program) (t : TypeId) (esz : Nat) : Bool := match P.underlying t with | some (.slice e) => tSize P e esz | _ => false
def tByteSlice (P : Program) (t : TypeId) : Bool := match P.underlying t with
  | some (.slice e) => tSize P e 1 && (match P.underlying e with | some (.int .u8) => true | _ => false)
  | _ => false
def tString (P : Program) (t : TypeId) : Bool := match P.underlying t with | some .string => true | _ => false
def tInt (P : Program) (t : TypeId) (k : IntKind) : Bool := match P.underlying t with | some (.int k') => k == k' | _ => false
def tArr (P : Program) (t : TypeId) (n esz : Nat) : Bool := match P.underlying t with | some (.array m e) => m == n && tSize P e esz | _ => false
def tArrPtr (P : Program) (t : TypeId) (n esz : Nat) : Bool := match P.underlying t with
  | some (.array m e) => m == n && tSize P e esz
  | some (.pointer a) => tArr P a n esz
  | _ => false
def tField (P : Program) (t : TypeId) (f off sz : Nat) (agg : Bool) : Bool := match P.underlying t with
  | some (.struct fs) => (match fs[f]? with | some g => g.offset == off && tSize P g.type sz && tAgg P g.type agg | none => false)
  | _ => false
def tFieldAt (P : Program) (t : TypeId) (f off : Nat) : Bool := match P.underlying t with
  | some (.struct fs) => (match fs[f]? with | some g => g.offset == off && !(tSize P g.type 0) && (P.info? g.type).isSome | none => false)
  | _ => false
def placesOK (place : Nat → Option (Nat × Nat)) : List (Nat × Operand) → List (Nat × Nat) → Bool
  | [], [] => true
  | (i, _) :: ps, q :: qs => place i == some q && placesOK place ps qs
  | _, _ => false
def tPlaces (P : Program) (t : TypeId) (parts : List (Nat × Operand)) (qs : List (Nat × Nat)) : Bool := match P.underlying t with
  | some (.struct fs) => fs.toList.all (fun f => (P.info? f.type).isSome) &&
      placesOK (fun i => (fs[i]?).bind fun f => (P.info? f.type).map fun j => (f.offset, j.size)) parts qs
  | some (.array _ e) => (match P.info? e with | some j => placesOK (fun i => some (i * j.size, j.size)) parts qs | none => false)
  | _ => false
def leafFields (P : Program) (r : TypeId → Option (List Leaf)) : List Field → Nat → Option (List Leaf)
  | [], _ => some []
  | f :: fs, off => if f.name != "_" && f.offset == off then
      (r f.type).bind fun l => if tSize P f.type l.length then (leafFields P r fs (off + l.length)).map (l ++ ·) else none
    else none
def leaves (P : Program) : Nat → TypeId → Option (List Leaf)
  | 0, _ => none
  | n + 1, t => match P.underlying t with
    | some (.int _) => some [.int]
    | some .bool => some [.bool]
    | some .string => some [.str]
    | some (.struct fs) => if P.stoodInHeld t = false then leafFields P (leaves P n) fs.toList 0 else none
    | some (.array k e) => (leaves P n e).bind fun l => if tSize P e l.length then some (List.replicate k l).flatten else none
    | _ => none
def tEq (P : Program) (t : TypeId) (ls : List Leaf) : Bool := leaves P 20 t == some ls && P.eqGuardType P.depth t == false && tAgg P t true
def tBool (P : Program) (t : TypeId) : Bool := match P.underlying t with | some .bool => true | _ => false
def tNil (P : Program) (t : TypeId) (k : NilKind) : Bool := match P.underlying t, k with
  | some (.slice _), .slice => true
  | some (.pointer _), .ptr => true
  | some (.func ..), .func => true
  | _, _ => false
def opd (fid : String → Option FuncId) : Operand → Opd → Bool
  | .tmp n, .t m => n == m
  | .const x, .c y => valEq x y
  | .func f, .f g => fid g == some f
  | _, _ => false
def opds (fid : String → Option FuncId) : List Operand → List Opd → Bool
  | [], [] => true
  | x :: xs, y :: ys => opd fid x y && opds fid xs ys
  | _, _ => false
def optOpds (a b c : Option Operand) : List Operand := a.toList ++ b.toList ++ c.toList
def callOK (P : Program) (fid : String → Option FuncId) (callee : Callee) (f : String) : Bool := match callee with
  | .value (.func g) => fid f == some g
  | _ => false
def chkBuiltin (P : Program) (fid : String → Option FuncId) (b : Builtin) (ts : List TypeId) (args : List Operand) (p : Prim) (xs : List Opd) : Bool :=
  match b, p, ts with
  | .append, .append _ _ esz bytes, [t, u] => (match P.underlying t with
      | some (.slice e) => tSize P e esz && tBytes P e bytes && (P.info? e).any (fun i => (i.zero.map (·.cells.size)) == some esz) && (P.info? e).any (fun i => i.zero.any fun z => z.cells.all fun y => y.oneCell') | _ => false) &&
      (match P.underlying u with | some (.slice _) => true | some .string => true | _ => false) && 0 < esz && 0 < bytes && opds fid args xs && args.length == 2
  | .append, .appendZ _ esz bytes zero, [t, u] => (match P.underlying t with
      | some (.slice e) => tSize P e esz && tBytes P e bytes && tZero P e zero | _ => false) &&
      (match P.underlying u with | some (.int _) => true | _ => false) && 0 < esz && 0 < bytes && opds fid args xs && args.length == 2
  | .copy, .copy esz, [t, u] => tSlice P t esz && (match P.underlying u with | some (.slice _) => true | some .string => true | _ => false) && opds fid args xs && args.length == 2
  | .len, .lenStr, [t] => tString P t && opds fid args xs && args.length == 1
  | .len, .lenSlice, [t] => (match P.underlying t with | some (.slice _) => true | _ => false) && opds fid args xs && args.length == 1
  | .len, .lenArr n, [t] => (match P.underlying t with
      | some (.array m _) => m == n
      | some (.pointer a) => (match P.underlying a with | some (.array m _) => m == n | _ => false)
      | _ => false) && opds fid args xs && args.length == 1
  | .cap, .cap, [t] => (match P.underlying t with | some (.slice _) => true | _ => false) && opds fid args xs && args.length == 1
  | .min, .min, _ => opds fid args xs
  | .max, .max, _ => opds fid args xs
  | _, _, _ => false
def tPtr (P : Program) (t : TypeId) : Bool := match P.underlying t with
  | some (.pointer e) => (match P.info? e with | some i => i.size != 0 | none => false)
  | _ => false
def tOverlaps (P : Program) (c : Callee) : Bool := match c with
  | .value (.func g) => (match P.funcs[g]? with
    | some fn => fn.body.isNone && fn.name == "slices.overlaps[haberdash/api.Seen]" && fn.origin == "slices.overlaps" && (match fn.params[0]? with | some t => (match P.underlying t with | some (.slice e) => (P.info? e).isSome | _ => false) | none => false)
    | none => false)
  | _ => false
def chkOp (P : Program) (fid : String → Option FuncId) (o : Op) (p : Prim) (xs : List Opd) : Bool :=
  match o, p with
  | .move x, .id => opds fid [x] xs
  | .assign x, .id => opds fid [x] xs
  | .move x, .nilv .. => opds fid [x] xs
  | .assign x, .nilv .. => opds fid [x] xs
  | .pick c a b, .pick => opds fid [c, a, b] xs
  | .alloc t, .alloc _ zero _ => tZero P t zero && opds fid [] xs
  | .box _ x, .box _ => opds fid [x] xs
  | .box _ x, .boxK _ _ => opds fid [x] xs
  | .build t parts, .build zero qs => tZero P t zero && tPlaces P t parts.toList qs && opds fid (parts.toList.map (·.2)) xs
  | .buildSlice t len parts, .buildSlice _ _ esz len' zero qs => (match P.underlying t with
      | some (.slice e) => tSize P e esz && tZero P e zero && placesOK (fun i => some (i * esz, esz)) parts.toList qs | _ => false) &&
      len == len' && zero.length == esz && len * esz ≤ 16777216 && opds fid (parts.toList.map (·.2)) xs
  | .load t x, .load sz agg => tSize P t sz && tAgg P t agg && opds fid [x] xs
  | .load t x, .loadAt _ sz agg => tSize P t sz && tAgg P t agg && opds fid [x] xs
  | .store t a x, .store sz _ => tSize P t sz && opds fid [a, x] xs
  | .nilCheck x, .nilCheck => opds fid [x] xs
  | .binOp op _ x y _, .bin op' => op == op' && opds fid [x, y] xs
  | .binOp .eql t x y _, .eq false ls => tEq P t ls && opds fid [x, y] xs
  | .binOp .neq t x y _, .eq true ls => tEq P t ls && opds fid [x, y] xs
  | .binOp .eql t x y _, .eqBool false => tBool P t && opds fid [x, y] xs
  | .binOp .neq t x y _, .eqBool true => tBool P t && opds fid [x, y] xs
  | .buildSlice t len parts, .buildPlain _ esz len' zero qs => (match P.underlying t with
      | some (.slice e) => tSize P e esz && tZero P e zero && placesOK (fun i => some (i * esz, esz)) parts.toList qs | _ => false) &&
      len == len' && zero.length == esz && len * esz ≤ 16777216 && opds fid (parts.toList.map (·.2)) xs
  | .build t parts, .buildF zero qs => tZero P t zero && tPlaces P t parts.toList qs && opds fid (parts.toList.map (·.2)) xs
  | .binOp .eql t x y _, .eqPtr false => tPtr P t && opds fid [x, y] xs
  | .binOp .neq t x y _, .eqPtr true => tPtr P t && opds fid [x, y] xs
  | .binOp .eql t x y _, .eqNil false k => tNil P t k && opds fid [x, y] xs
  | .binOp .neq t x y _, .eqNil true k => tNil P t k && opds fid [x, y] xs
  | .unOp op _ x, .un op' => op == op' && opds fid [x] xs
  | .convert s d x, .convInt k => (P.underlying s).isSome && tInt P d k && opds fid [x] xs
  | .convert s d x, .strBytes _ => (P.underlying s).isSome && tByteSlice P d && opds fid [x] xs
  | .convert s d x, .bytesStr => tByteSlice P s && tString P d && opds fid [x] xs
  | .convert s d x, .bytesBytes => s == d && tByteSlice P d && opds fid [x] xs
  | .convert s d x, .strStr => (P.underlying s).isSome && tString P d && opds fid [x] xs
  | .makeFunc fn a b, .makeFunc f k => (match fn with | .func id => fid f == some id | _ => false) && a.size == k && opds fid (a.toList ++ b.toList) xs
  | .makeSlice t l c, .makeSlice _ esz bytes zero => (match P.underlying t with
      | some (.slice e) => tSize P e esz && tBytes P e bytes && tZero P e zero | _ => false) && 0 < esz && opds fid [l, c] xs
  | .slice t x l h m, .sliceStr lo hi => tString P t && l.isSome == lo && h.isSome == hi && m.isNone && opds fid (x :: optOpds l h m) xs
  | .slice t x l h m, .slice esz lo hi mx => tSlice P t esz && l.isSome == lo && h.isSome == hi && m.isSome == mx && opds fid (x :: optOpds l h m) xs
  | .slice t x l h m, .sliceArr n esz lo hi mx => tArrPtr P t n esz && l.isSome == lo && h.isSome == hi && m.isSome == mx && opds fid (x :: optOpds l h m) xs
  | .fieldAddr s x f, .fieldAddr off => tFieldAt P s f off && opds fid [x] xs
  | .field t x f, .field off sz agg => tField P t f off sz agg && opds fid [x] xs
  | .indexAddr t x i, .indexAddr esz => tSlice P t esz && opds fid [x, i] xs
  | .indexAddr t x i, .indexArr n esz => tArr P t n esz && opds fid [x, i] xs
  | .index t x i, .indexStr => tString P t && opds fid [x, i] xs
  | .index t x i, .indexAgg n esz agg => (match P.underlying t with | some (.array m e) => m == n && tSize P e esz && tAgg P e agg | _ => false) && opds fid [x, i] xs
  | .extract x i, .extract i' => i == i' && opds fid [x] xs
  | .call c, .call f _ => callOK P fid c.callee f && opds fid c.args.toList xs
  | .call c, .callIn f _ => callOK P fid c.callee f && opds fid c.args.toList xs
  | .call c, .overlaps => tOverlaps P c.callee && opds fid c.args.toList xs
  | .call c, .callV _ => (match c.callee with | .value g => opds fid (g :: c.args.toList) xs | _ => false)
  | .call c, p => (match c.callee with | .builtin b => chkBuiltin P fid b c.argTypes.toList c.args.toList p xs | _ => false)
  | _, _ => false
def chkGuard (ops : Array Oper) (g : Option (Nat × Bool)) (g' : Option (Nat × Bool)) : Bool := match g, g' with
  | none, none => true
  | some (j, b), some (t, b') => ((ops[j]?).bind (·.dst)) == some t && b == b'
  | _, _ => false
def chkOper (P : Program) (fid : String → Option FuncId) (ops : Array Oper) (o : Oper) (i : IOp) : Bool :=
  o.dst == i.dst && chkGuard ops o.guard i.guard && chkOp P fid o.op i.p i.xs
def chkOpers (P : Program) (fid : String → Option FuncId) (ops : Array Oper) : List Oper → List IOp → Bool
  | [], [] => true
  | o :: os, i :: is => chkOper P fid ops o i && chkOpers P fid ops os is
  | _, _ => false
def IOp.reads (i : IOp) : List Nat := (i.xs.filterMap fun | .t n => some n | _ => none) ++ (match i.guard with | some (t, _) => [t] | none => [])
def IOp.writes (i : IOp) : List Nat := i.dst.toList
def apart (i j : IOp) : Bool :=
  i.writes.all (fun t => !(j.reads ++ j.writes).contains t) && j.writes.all (fun t => !(i.reads ++ i.writes).contains t) &&
  (i.p.free || j.p.free || (match i.p.home, j.p.home with
    | some _, some _ => true
    | some k, none => j.u.contains k
    | none, some k => i.u.contains k
    | none, none => !i.loud && !j.loud && i.turns.all (fun k => j.u.contains k && !i.u.contains k) && j.turns.all (fun k => i.u.contains k && !j.u.contains k)))
def masks : List Oper → List Nat → List Nat
  | [], acc => acc
  | o :: os, acc => masks os (acc ++ [o.after.toList.foldl (fun m e => if Region.binds .any e then m ||| 2 ^ e.on ||| acc.getD e.on 0 else m) 0])
def drawOK (ops : Array Oper) (l : List IOp) : Bool :=
  let ms := masks ops.toList []
  (List.range ops.size).all fun j => match ops[j]?, l[j]? with
    | some o, some i => o.after.all (fun e => !Region.binds .any e || e.on < j) &&
        (List.range j).all fun k => (ms.getD j 0).testBit k || (match l[k]? with | some i' => apart i' i | none => false)
    | _, _ => false
def chkCode (P : Program) (fid : String → Option FuncId) : Code → ICode → Bool
  | .skip, .skip => true
  | .region _ ops false, .ops l => chkOpers P fid ops ops.toList l
  | .region _ ops true, .draw l => chkOpers P fid ops ops.toList l && drawOK ops l && P.follows .mixedOrders
  | .seq a b, .seq a' b' => chkCode P fid a a' && chkCode P fid b b'
  | .cond c a b, .cond c' a' b' => opd fid c c' && chkCode P fid a a' && chkCode P fid b b'
  | .block id a, .block id' a' => id == id' && chkCode P fid a a'
  | .loop a, .loop _ _ a' => chkCode P fid a a'
  | .exit id, .exit id' => id == id'
  | .ret, .ret => true
  | c, .post _ a => chkCode P fid c a
  | c, .postIf _ _ a => chkCode P fid c a
  | _, _ => false
def chkRes (P : Program) : List ResultVar → List RV → Bool
  | [], [] => true
  | .tmp t :: rs, .tmp t' :: rs' => t == t' && chkRes P rs rs'
  | .cell a t :: rs, .cell a' sz agg :: rs' => a == a' && tSize P t sz && tAgg P t agg && chkRes P rs rs'
  | _, _ => false
def chkFn (P : Program) (fid : String → Option FuncId) (fn : Func) (F : IFn) : Bool :=
  !isX F && fn.ntmps == F.ntmps && fn.name != "runtime.NumGoroutine" && chkRes P fn.results.toList F.res &&
  (match fn.body with | some c => chkCode P fid c F.body | none => false)
end Go.AM
namespace Go.AM
open Go.RowKit
variable {fid : String → Option FuncId}
def Post (fid : String → Option FuncId) (base : Nat) (w0 w : World) (μ : Lab → Nat × Nat) (get : Lab → Option Blk) (w' : World) (get' : Lab → Option Blk)
    (x : Value) (a : AV) : Prop :=
  ∃ μ', Sim fid base w0 w' μ' get' ∧ Pres w (Wr μ get) (info μ get) w' (Wr μ' get') (info μ' get') ∧ Rep fid w' (Wr μ' get') (info μ' get') x a
theorem Post.same {base w0 w μ get x a} (S : Sim fid base w0 w μ get) (h : Rep fid w (Wr μ get) (info μ get) x a) : Post fid base w0 w μ get w get x a :=
  ⟨μ, S, .refl _ _ _, h⟩
theorem Sim.drawn {base w0 w μ get} (S : Sim fid base w0 w μ get) (n : Nat) : Sim fid base w0 { w with drawn := n } μ get ∧
    Pres w (Wr μ get) (info μ get) { w with drawn := n } (Wr μ get) (info μ get) := by
  have p : Pres w (Wr μ get) (info μ get) { w with drawn := n } (Wr μ get) (info μ get) := ⟨fun _ _ _ => rfl, fun _ _ h => h, fun _ I h => ⟨I, h, .inl rfl⟩, Nat.le_refl _⟩
  exact ⟨⟨⟨S.below.os, S.below.tape, S.below.output, S.below.size, S.below.block⟩, S.le, fun ℓ B hB => (S.ok.blk ℓ B hB).pres p rfl, S.ok.inj⟩, p⟩
theorem new_get {h h' : Hp} {site : Nat} {B : Blk} (hn : h.new site B = some h') : h'.get = upd h.get (.l site) (some B) ∧ h.get (.l site) = none := by
  unfold Hp.new at hn
  split at hn
  · rename_i hs
    cases hn
    refine ⟨?_, by simp [Hp.get, hs]⟩
    funext ℓ
    cases ℓ with
    | l k =>
      simp only [Hp.get, upd, List.getElem?_set]
      by_cases e : site = k
      · subst e
        have hlt : site < h.L.length := by
          by_cases hlt : site < h.L.length
          · exact hlt
          · rw [List.getElem?_eq_none (by omega)] at hs; cases hs
        simp [hlt]
      · have e' : ¬ (Lab.l k = Lab.l site) := by intro h; cases h; exact e rfl
        simp [e, e']
    | o p => simp [Hp.get, upd]
  · cases hn
theorem put_get {h : Hp} {ℓ : Lab} {B : Blk} (hb : h.get ℓ = some B) (B' : Blk) : (h.put ℓ (some B')).get = upd h.get ℓ (some B') := by
  funext ℓ'
  cases ℓ with
  | l k =>
    have hlt : k < h.L.length := by
      by_cases hlt : k < h.L.length
      · exact hlt
      · simp only [Hp.get] at hb; rw [List.getElem?_eq_none (by omega)] at hb; cases hb
    cases ℓ' with
    | l k' =>
      simp only [Hp.put, Hp.get, upd, List.getElem?_set]
      by_cases e : k = k'
      · subst e; simp [hlt]
      · have e' : ¬ (Lab.l k' = Lab.l k) := by intro h; cases h; exact e rfl
        simp [e, e']
    | o p => simp [Hp.put, Hp.get, upd]
  | o p =>
    have hlt : p < h.G.length := by
      by_cases hlt : p < h.G.length
      · exact hlt
      · simp only [Hp.get] at hb; rw [List.getElem?_eq_none (by omega)] at hb; cases hb
    cases ℓ' with
    | l k' => simp [Hp.put, Hp.get, upd]
    | o p' =>
      simp only [Hp.put, Hp.get, upd, List.getElem?_set]
      by_cases e : p = p'
      · subst e; simp [hlt]
      · have e' : ¬ (Lab.o p' = Lab.o p) := by intro h; cases h; exact e rfl
        simp [e, e']
theorem sim_new {base w0 w μ} {h h' : Hp} (S : Sim fid base w0 w μ h.get) {site : Nat} {B : Blk} (hn : h.new site B = some h') (w' : World)
    (c : Array Value) (e lo hi : Nat) (hheap : w'.heap = w.heap.push (.cells c e (lo, hi))) (hos : w'.os = w.os) (htape : w'.tape = w.tape) (hout : w'.output = w.output)
    (hfr : lo = hi ∨ (c.size ≤ lo ∧ B.plain = false)) (hv : B.virt = false) (hle : B.cells.length ≤ c.size) (hcl : B.opn = false → B.cells.length = c.size)
    (hone : ∀ x ∈ c, x.oneCell' = true) (hdata : B.data = true → AV.lf.lfs B.cells = true)
    (hrep : ∀ (i : Nat) a, B.cells[i]? = some a → ∃ x, c[i]? = some x ∧ Rep fid w (Wr μ h.get) (info μ h.get) x a) :
    let μ' := upd μ (.l site) (w.heap.size, c.size)
    Sim fid base w0 w' μ' h'.get ∧ Pres w (Wr μ h.get) (info μ h.get) w' (Wr μ' h'.get) (info μ' h'.get) ∧ info μ' h'.get (.l site) = some ⟨w.heap.size, B.cells.length, false, c.size⟩ := by
  obtain ⟨hg, hnone⟩ := new_get hn
  have hat : w'.heap[w.heap.size]? = some (.cells c e (lo, hi)) := by rw [hheap]; simp
  have hold : ∀ k, k < w.heap.size → w'.heap[k]? = w.heap[k]? := fun k hk => by rw [hheap, Array.getElem?_push, if_neg (by omega)]
  have u : Upd w μ h.get w' (.l site) w.heap.size c.size B := by
    refine ⟨fun k hk _ => hold k hk, by rw [hheap]; simp, hos, htape, hout, .inr (.inr (Nat.le_refl _)), fun _ _ => .inr (Nat.le_refl _), fun B0 h0 => ?_, fun _ => .inl (Nat.le_refl _)⟩
    rw [hnone] at h0; cases h0
  have p := u.pres
  intro μ'
  rw [hg]
  refine ⟨u.sim S (fun k hk => hold k (Nat.lt_of_lt_of_le hk S.le)) ⟨fun h => by simp [hv] at h, hdata, fun _ => ?_⟩, p, by simp [info, upd, μ', hv]⟩
  refine ⟨c, e, lo, hi, hat, rfl, hfr, hle, hcl, S.le, hone, fun i a ha => ?_⟩
  obtain ⟨x, hx, r⟩ := hrep i a ha
  exact ⟨x, hx, r.pres p⟩
theorem sim_virt {base w0 w μ} {h h' : Hp} (S : Sim fid base w0 w μ h.get) {site : Nat} (hn : h.new site virtBlk = some h') :
    let μ' := upd μ (.l site) (w.heap.size, 0)
    Sim fid base w0 w μ' h'.get ∧ Pres w (Wr μ h.get) (info μ h.get) w (Wr μ' h'.get) (info μ' h'.get) ∧ info μ' h'.get (.l site) = some ⟨w.heap.size, 0, true, 0⟩ := by
  obtain ⟨hg, hnone⟩ := new_get hn
  have u : Upd w μ h.get w (.l site) w.heap.size 0 virtBlk := by
    refine ⟨fun k hk _ => rfl, Nat.le_refl _, rfl, rfl, rfl, .inl rfl, fun _ h => by simp [virtBlk] at h, fun B0 h0 => ?_, fun h => by simp [virtBlk] at h⟩
    rw [hnone] at h0; cases h0
  intro μ'
  rw [hg]
  exact ⟨u.sim S (fun k hk => rfl) ⟨fun _ => ⟨rfl, rfl⟩, fun _ => rfl, fun h => by simp [virtBlk] at h⟩, u.pres, by simp [info, upd, μ', virtBlk]⟩
theorem sim_freeze {base w0 w μ} {h : Hp} (S : Sim fid base w0 w μ h.get) {ℓ : Lab} {B : Blk} (hb : h.get ℓ = some B) :
    Sim fid base w0 w μ (h.put ℓ (some { B with wr := false })).get ∧
    Pres w (Wr μ h.get) (info μ h.get) w (Wr μ (h.put ℓ (some { B with wr := false })).get) (info μ (h.put ℓ (some { B with wr := false })).get) := by
  have hg := put_get hb { B with wr := false }
  have u : Upd w μ h.get w ℓ (μ ℓ).1 (μ ℓ).2 { B with wr := false } := by
    refine ⟨fun k hk _ => rfl, Nat.le_refl _, rfl, rfl, rfl, .inl rfl, fun h _ => by simp at h, fun B0 h0 => ?_, fun h => .inr ⟨B, hb, h, rfl⟩⟩
    rw [hb] at h0; cases h0; exact .inl ⟨rfl, rfl, rfl⟩
  have hμ : upd μ ℓ ((μ ℓ).1, (μ ℓ).2) = μ := by funext ℓ'; simp only [upd]; split <;> simp_all
  have p := u.pres
  have B0 := S.ok.blk ℓ B hb
  have s := u.sim S (fun k hk => rfl) (by
    have := B0.pres p rfl
    exact ⟨this.virt, this.data, this.row⟩)
  rw [hμ] at p s
  rw [hg]
  exact ⟨s, p⟩
theorem sim_put {base w0 w μ} {h : Hp} (S : Sim fid base w0 w μ h.get) {ℓ : Lab} {B B' : Blk} (hb : h.get ℓ = some B) (hwr : B.wr = true) (w' : World) (b' : Nat)
    (c : Array Value) (e lo hi : Nat) (hat : w'.heap[b']? = some (.cells c e (lo, hi)))
    (hold : ∀ k, k < w.heap.size → k ≠ b' → w'.heap[k]? = w.heap[k]?) (hsize : w.heap.size ≤ w'.heap.size)
    (hos : w'.os = w.os) (htape : w'.tape = w.tape) (hout : w'.output = w.output)
    (hb' : (B.virt = false ∧ (μ ℓ).1 = b') ∨ w.heap.size ≤ b')
    (hfr : lo = hi ∨ (c.size ≤ lo ∧ B'.plain = false)) (hv : B'.virt = false) (hle : B'.cells.length ≤ c.size) (hcl : B'.opn = false → B'.cells.length = c.size)
    (hlen : (B'.cells.length = B.cells.length ∧ B.virt = false ∧ μ ℓ = (b', c.size)) ∨ B.cells.length < B'.cells.length)
    (hone : ∀ x ∈ c, x.oneCell' = true) (hdata : B'.data = true → AV.lf.lfs B'.cells = true)
    (hrep : ∀ (i : Nat) a, B'.cells[i]? = some a → ∃ x, c[i]? = some x ∧ Rep fid w (Wr μ h.get) (info μ h.get) x a) :
    let μ' := upd μ ℓ (b', c.size)
    Sim fid base w0 w' μ' (h.put ℓ (some B')).get ∧ Pres w (Wr μ h.get) (info μ h.get) w' (Wr μ' (h.put ℓ (some B')).get) (info μ' (h.put ℓ (some B')).get) ∧
      info μ' (h.put ℓ (some B')).get ℓ = some ⟨b', B'.cells.length, false, c.size⟩ := by
  have hg := put_get hb B'
  have hw : (∃ B, h.get ℓ = some B ∧ B.wr = true ∧ B.virt = false ∧ (μ ℓ).1 = b') ∨ w.heap.size ≤ b' := hb'.imp (fun ⟨h1, h2⟩ => ⟨B, hb, hwr, h1, h2⟩) id
  have hbase : base ≤ b' := by
    rcases hb' with ⟨h1, h2⟩ | h1
    · obtain ⟨c0, e0, lo0, hi0, _, _, _, _, _, h6, _⟩ := (S.ok.blk ℓ B hb).row h1
      omega
    · have := S.le; omega
  have u : Upd w μ h.get w' ℓ b' c.size B' := by
    refine ⟨hold, hsize, hos, htape, hout, .inr hw, fun _ _ => hw, fun B0 h0 => ?_, fun _ => ?_⟩
    · rw [hb] at h0; cases h0
      exact hlen.imp (fun ⟨h1, h2, h3⟩ => ⟨h1, by rw [hv, h2], h3⟩) id
    · rcases hb' with ⟨h1, h2⟩ | h1
      · exact .inr ⟨B, hb, h1, h2⟩
      · exact .inl h1
  have p := u.pres
  intro μ'
  rw [hg]
  refine ⟨u.sim S (fun k hk => hold k (Nat.lt_of_lt_of_le hk S.le) (by omega)) ⟨fun h => by simp [hv] at h, hdata, fun _ => ?_⟩, p, by simp [info, upd, μ', hv]⟩
  refine ⟨c, e, lo, hi, hat, rfl, hfr, hle, hcl, hbase, hone, fun i a ha => ?_⟩
  obtain ⟨x, hx, r⟩ := hrep i a ha
  exact ⟨x, hx, r.pres p⟩
theorem nofr {lo hi n : Nat} {q : Prop} (h : lo = hi ∨ (n ≤ lo ∧ q)) : ∀ i, i < n → ¬ (lo ≤ i ∧ i < hi) := by intro i hi'; omega
def layC (c : Array Value) (off : Nat) (vs : List Value) : Array Value := (c.toList.take off ++ vs ++ c.toList.drop (off + vs.length)).toArray
def setBlk (w : World) (b : Nat) (o : Obj) : World := { w with heap := w.heap.setIfInBounds b o }
theorem add_off (b o i : Nat) : (⟨b, o, none⟩ : Addr).add i = ⟨b, o + i, none⟩ := by unfold Addr.add; split <;> simp_all
theorem layC_size {c : Array Value} {off : Nat} {vs : List Value} (h : off + vs.length ≤ c.size) : (layC c off vs).size = c.size := by
  simp [layC]; omega
theorem layC_nil (c : Array Value) (off : Nat) : layC c off [] = c := by simp [layC]
theorem layC_get {c : Array Value} {vs : List Value} {off : Nat} (h : off + vs.length ≤ c.size) (i : Nat) :
    (layC c off vs)[i]? = if i < off then c[i]? else if i < off + vs.length then vs[i - off]? else c[i]? := by
  unfold layC
  rw [List.getElem?_toArray]
  split
  · rename_i h1
    rw [List.append_assoc, List.getElem?_append_left (by simp; omega), List.getElem?_take, if_pos h1, Array.getElem?_toList]
  · rename_i h1
    rw [List.append_assoc, List.getElem?_append_right (by simp; omega)]
    have e1 : i - (c.toList.take off).length = i - off := by simp; omega
    rw [e1]
    split
    · rename_i h2
      rw [List.getElem?_append_left (by omega)]
    · rename_i h2
      rw [List.getElem?_append_right (by omega), List.getElem?_drop, Array.getElem?_toList]
      congr 1
      omega
theorem layC_cons {c : Array Value} {off : Nat} {v : Value} {vs : List Value} (h : off + (vs.length + 1) ≤ c.size) :
    layC (c.setIfInBounds off v) (off + 1) vs = layC c off (v :: vs) := by
  apply Array.ext_getElem?
  intro i
  rw [layC_get (by simp; omega), layC_get (by simpa using h)]
  simp only [Array.getElem?_setIfInBounds, List.length_cons]
  by_cases h1 : i < off
  · simp [h1, show i < off + 1 by omega, show ¬ off = i by omega]
  · by_cases h2 : i = off
    · subst h2; simp; omega
    · rw [if_neg (show ¬ i < off + 1 by omega), if_neg h1, if_neg (show ¬ off = i by omega)]
      by_cases h3 : i < off + 1 + vs.length
      · rw [if_pos h3, if_pos (by omega), show i - off = (i - (off + 1)) + 1 by omega, List.getElem?_cons_succ]
      · rw [if_neg h3, if_neg (by omega)]
theorem run_storeCells_blk {P : Program} : ∀ (vs : List Value) (i : Nat) (c : Array Value) (w : World) (b o e lo hi : Nat), w.heap[b]? = some (.cells c e (lo, hi)) →
    (∀ j, j < c.size → ¬ (lo ≤ j ∧ j < hi)) → o + i + vs.length ≤ c.size → (∀ v ∈ vs, v.oneCell' = true) →
    (storeCells ⟨b, o, none⟩ vs i).run P w = .ok () (setBlk w b (.cells (layC c (o + i) vs) e (lo, hi)))
  | [], i, c, w, b, o, e, lo, hi, hg, _, _, _ => by
    have hlt : b < w.heap.size := by
      by_cases hb : b < w.heap.size
      · exact hb
      · rw [Array.getElem?_eq_none (by omega)] at hg; cases hg
    have : setBlk w b (.cells c e (lo, hi)) = w := by
      unfold setBlk
      congr 1
      apply Array.ext_getElem?
      intro j
      rw [Array.getElem?_setIfInBounds]
      by_cases hj : b = j
      · subst hj; rw [if_pos rfl, if_pos hlt, hg]
      · rw [if_neg hj]
    simp only [storeCells, Sem.run_pure, layC_nil, this]
  | v :: rest, i, c, w, b, o, e, lo, hi, hg, hf, hl, h1 => by
    have hlt : b < w.heap.size := by
      by_cases hb : b < w.heap.size
      · exact hb
      · rw [Array.getElem?_eq_none (by omega)] at hg; cases hg
    simp only [List.length_cons] at hl
    have hi' : o + i < c.size := by omega
    have hcell : w.cell? ⟨b, o + i, none⟩ = some c[o + i] := by simp [World.cell?, hg, hi']
    have hfro : w.frozen? ⟨b, o + i, none⟩ = false := by
      have := hf (o + i) hi'
      simp [World.frozen?, hg]
      omega
    have hset : w.setCell ⟨b, o + i, none⟩ v = setBlk w b (.cells (c.setIfInBounds (o + i) v) e (lo, hi)) := by
      simp only [World.setCell, setBlk]
      congr 1
      apply Array.ext_getElem?
      intro j
      rw [Array.getElem?_modify, Array.getElem?_setIfInBounds]
      by_cases hj : b = j
      · subst hj; rw [if_pos rfl, if_pos rfl, if_pos hlt, hg]; rfl
      · simp [hj]
    have hst : (store ((⟨b, o, none⟩ : Addr).add i) v).run P w = .ok () (setBlk w b (.cells (c.setIfInBounds (o + i) v) e (lo, hi))) := by
      rw [add_off, run_store P w _ v _ (h1 v (by simp)), hcell]
      simp [hfro, hset]
    have hg' : (setBlk w b (.cells (c.setIfInBounds (o + i) v) e (lo, hi))).heap[b]? = some (.cells (c.setIfInBounds (o + i) v) e (lo, hi)) := by
      simp [setBlk, hlt]
    have ih := run_storeCells_blk (P := P) rest (i + 1) (c.setIfInBounds (o + i) v) _ b o e lo hi hg' (by simpa using hf) (by simp; omega) (fun x hx => h1 x (by simp [hx]))
    simp only [storeCells, Sem.run_bind, hst, Result.andThen_ok, ih]
    have e2 : layC (c.setIfInBounds (o + i) v) (o + (i + 1)) rest = layC c (o + i) (v :: rest) := by
      rw [← layC_cons (c := c) (off := o + i) (v := v) (vs := rest) (by omega)]; rfl
    rw [e2]
    simp [setBlk]
theorem lay_get {cs new : List AV} {off : Nat} (h : off + new.length ≤ cs.length) (i : Nat) :
    (lay cs off new)[i]? = if i < off then cs[i]? else if i < off + new.length then new[i - off]? else cs[i]? := by
  unfold lay
  split
  · rename_i h1
    rw [List.append_assoc, List.getElem?_append_left (by simp; omega), List.getElem?_take, if_pos h1]
  · rename_i h1
    rw [List.append_assoc, List.getElem?_append_right (by simp; omega)]
    have e1 : i - (cs.take off).length = i - off := by simp; omega
    rw [e1]
    split
    · rename_i h2
      rw [List.getElem?_append_left (by omega)]
    · rename_i h2
      rw [List.getElem?_append_right (by omega), List.getElem?_drop]
      congr 1
      omega
theorem lay_length {cs new : List AV} {off : Nat} (h : off + new.length ≤ cs.length) : (lay cs off new).length = cs.length := by
  simp [lay]; omega
theorem lay_lfs {cs new : List AV} {off : Nat} (h : AV.lf.lfs cs = true) (h' : AV.lf.lfs new = true) : AV.lf.lfs (lay cs off new) = true := by
  unfold lay
  rw [lfs_append, lfs_append, lfs_take h, lfs_drop h, h']; rfl
theorem layC_mem {c : Array Value} {vs : List Value} {off : Nat} {x : Value} (h : x ∈ layC c off vs) : x ∈ c ∨ x ∈ vs := by
  simp only [layC, List.mem_toArray, List.mem_append] at h
  rcases h with (h | h) | h
  · exact .inl (Array.mem_toList_iff.1 (List.mem_of_mem_take h))
  · exact .inr h
  · exact .inl (Array.mem_toList_iff.1 (List.mem_of_mem_drop h))
end Go.AM
namespace Go.AM
open Go.RowKit
variable {fid : String → Option FuncId} {P : Program}
theorem Rep.const {w W M} (x : Value) : (∀ cs, x = .agg cs → ∀ y ∈ cs, y.oneCell' = true) → Rep fid w W M x (constAV x) := by
  intro h
  cases x with
  | agg cs =>
    have : Rep fid w W M (.agg cs.toList.toArray) (.agg (cs.toList.map .v)) := by
      refine .agg (by simp) (fun y hy => h cs rfl y (Array.mem_toList_iff.1 hy)) (fun i x a hx ha => ?_)
      rw [List.getElem?_map, hx] at ha; cases ha; exact .v x
    simpa [constAV] using this
  | tuple cs =>
    have : Rep fid w W M (.tuple cs.toList.toArray) (.tup (cs.toList.map .v)) := by
      refine .tup (by simp) (fun i x a hx ha => ?_)
      rw [List.getElem?_map, hx] at ha; cases ha; exact .v x
    simpa [constAV] using this
  | _ => exact .v _
theorem opd_sound {w W M} {a : Act} {env : List AV} (E : Reps fid w W M a.tmps.toList env) {x : Operand} {x' : Opd} (h : opd fid x x' = true) :
    Rep fid w W M (a.eval x) (evalO env x') := by
  unfold opd at h
  split at h
  · simp only [beq_iff_eq] at h
    subst h
    rename_i n
    simp only [Act.eval, evalO, Array.getD_eq_getD_getElem?, List.getD_eq_getElem?_getD]
    cases hx : a.tmps[n]? with
    | none =>
      have : env[n]? = none := by
        rw [List.getElem?_eq_none_iff, ← E.1]
        simpa [Array.getElem?_eq_none_iff] using hx
      rw [this]; exact .dead _
    | some y =>
      cases ha : env[n]? with
      | none => exact .dead _
      | some b => exact E.2 n y b (by simpa using hx) ha
  · rename_i x y
    simp only [Act.eval, evalO]
    have : x = y ∧ (∀ cs, x = .agg cs → ∀ z ∈ cs, z.oneCell' = true) := by
      unfold valEq at h
      split at h
      · obtain ⟨h1, h2⟩ := atomsEq_sound h
        refine ⟨by rw [Array.toList_inj.1 h1], fun cs hc z hz => ?_⟩
        cases hc; exact h2 z (Array.mem_toList_iff.2 hz)
      · obtain ⟨h1, h2⟩ := atomsEq_sound h
        exact ⟨by rw [Array.toList_inj.1 h1], fun cs hc => by cases hc⟩
      · refine ⟨atomEq_sound h, fun cs hc => ?_⟩
        subst hc
        exact absurd (atomEq_one h) (by simp [Value.oneCell'])
    rw [← this.1]
    exact .const _ this.2
  · simp only [beq_iff_eq] at h
    exact .fn (fs := []) (cs := []) h rfl (fun i x a h => by simp at h) rfl (fun i x a h => by simp at h)
  · cases h
theorem opds_sound {w W M} {a : Act} {env : List AV} (E : Reps fid w W M a.tmps.toList env) : ∀ {xs : List Operand} {xs' : List Opd}, opds fid xs xs' = true →
    Reps fid w W M (xs.map a.eval) (xs'.map (evalO env))
  | [], [], _ => .nil
  | x :: xs, y :: ys, h => by
    simp only [opds, Bool.and_eq_true] at h
    exact Reps.cons (opd_sound E h.1) (opds_sound E h.2)
  | [], _ :: _, h => by simp [opds] at h
  | _ :: _, [], h => by simp [opds] at h
section
variable {w : World} {W : Nat → Prop} {M : Lab → Option LInfo}
theorem Rep.v_inv {x y} (h : Rep fid w W M x (.v y)) : x = y := by cases h; rfl
theorem tSize_run {t n} (h : tSize P t n = true) (w : World) : (sizeOf t).run P w = .ok n w := by
  unfold tSize at h
  split at h
  · rename_i i hi
    simp only [beq_iff_eq] at h
    simp [sizeOf, typeInfo, hi, h]
  · cases h
theorem tAgg_run {t b} (h : tAgg P t b = true) (w : World) : (isAgg t).run P w = .ok b w := by
  unfold tAgg at h
  split at h <;> rename_i h0 <;> first | cases h; done | skip
  · subst h; simp [isAgg, underlying, h0]
  · subst h; simp [isAgg, underlying, h0]
  · simp only [Bool.not_eq_true'] at h; subst h
    rename_i d hs ha
    cases d <;> first | exact (hs _ rfl).elim | exact (ha _ _ rfl).elim | simp [isAgg, underlying, h0]
theorem Sim.row {base w0 μ} {get : Lab → Option Blk} (S : Sim fid base w0 w μ get) {ℓ B} (hb : get ℓ = some B) (hv : B.virt = false) :
    ∃ (c : Array Value) (e lo hi : Nat), w.heap[(μ ℓ).1]? = some (.cells c e (lo, hi)) ∧ c.size = (μ ℓ).2 ∧ (lo = hi ∨ (c.size ≤ lo ∧ B.plain = false)) ∧ B.cells.length ≤ c.size ∧
    (B.opn = false → B.cells.length = c.size) ∧ (∀ x ∈ c, x.oneCell' = true) ∧
    ∀ (i : Nat) a, B.cells[i]? = some a → ∃ x, c[i]? = some x ∧ Rep fid w (Wr μ get) (info μ get) x a := by
  obtain ⟨c, e, lo, hi, h1, h2, h3, h4, h5, h6, h7, h8⟩ := (S.ok.blk ℓ B hb).row hv
  exact ⟨c, e, lo, hi, h1, h2, by rw [h2]; exact h3, by rw [h2]; exact h4, by rw [h2]; exact h5, h7, h8⟩
theorem Rep.ptr_inv {base w0 μ} {get : Lab → Option Blk} (S : Sim fid base w0 w μ get) {x ℓ n off B} (h : Rep fid w (Wr μ get) (info μ get) x (.ptr ℓ n off))
    (hb : get ℓ = some B) (hn : B.cells.length = n) : B.virt = false ∧ x = .pointer (some ⟨(μ ℓ).1, off, none⟩) := by
  cases h with
  | ptr hM hle hh =>
    simp only [info, hb, Option.map_some, Option.some.injEq] at hM
    subst hM
    obtain ⟨h1, h2⟩ := hh hn
    exact ⟨h1, by rw [h2]⟩
theorem Rep.own_inv {base w0 μ} {get : Lab → Option Blk} (S : Sim fid base w0 w μ get) {x ℓ n off len esz cap B}
    (h : Rep fid w (Wr μ get) (info μ get) x (.own ℓ n off len esz cap)) (hb : get ℓ = some B) (hn : B.cells.length = n) :
    OwnOK ⟨(μ ℓ).1, B.cells.length, B.virt, (μ ℓ).2⟩ off len esz cap x := by
  cases h with
  | own hM hle hh hlen =>
    simp only [info, hb, Option.map_some, Option.some.injEq] at hM
    subst hM
    exact hh hn
theorem cells_at {base w0 μ} {get : Lab → Option Blk} (S : Sim fid base w0 w μ get) {ℓ B} (hb : get ℓ = some B) (hv : B.virt = false) {off n : Nat}
    (hle : off + n ≤ B.cells.length) : ∃ us : List Value, us.length = n ∧ (∀ i u, us[i]? = some u → w.cell? ⟨(μ ℓ).1, off + i, none⟩ = some u) ∧ (∀ u ∈ us, u.oneCell' = true) ∧
    Reps fid w (Wr μ get) (info μ get) us ((B.cells.drop off).take n) := by
  obtain ⟨c, e, lo, hi, h1, h2, h3, h4, h5, h6, h7⟩ := S.row hb hv
  refine ⟨(c.toList.drop off).take n, by simp; omega, fun i u hu => ?_, fun u hu => ?_, by simp; omega, fun i x a hx ha => ?_⟩
  · rw [List.getElem?_take] at hu
    split at hu
    · rw [List.getElem?_drop] at hu
      simpa [World.cell?, h1] using hu
    · cases hu
  · exact h6 u (Array.mem_toList_iff.1 (List.mem_of_mem_drop (List.mem_of_mem_take hu)))
  · rw [List.getElem?_take] at hx ha
    split at hx
    · rename_i hi'
      rw [if_pos hi', List.getElem?_drop] at ha
      rw [List.getElem?_drop] at hx
      obtain ⟨y, hy, r⟩ := h7 _ _ ha
      have : x = y := by
        rw [← Array.getElem?_toList, hx] at hy; exact Option.some.inj hy
      rw [this]; exact r
    · cases hx
theorem run_cells {b off n : Nat} {us : List Value} (hl : us.length = n) (h : ∀ i u, us[i]? = some u → w.cell? ⟨b, off + i, none⟩ = some u) :
    (loadCells ⟨b, off, none⟩ n).run P w = .ok us.toArray w := by
  subst hl
  exact run_loadCells_list w _ us fun j v hj => by rw [add_off]; exact h j v hj
theorem whole_sound {agg : Bool} {us : List Value} {cs : List AV} {a : AV} (R : Reps fid w W M us cs) (h1 : ∀ u ∈ us, u.oneCell' = true) (hw : whole agg cs = some a) :
    (agg = true ∧ Rep fid w W M (.agg us.toArray) a) ∨ (agg = false ∧ ∃ u, us = [u] ∧ Rep fid w W M u a) := by
  unfold whole at hw
  split at hw
  · rename_i h; subst h; cases hw
    exact .inl ⟨rfl, .agg R.1 h1 R.2⟩
  · rename_i h
    simp only [Bool.not_eq_true] at h
    split at hw
    · cases hw
      obtain ⟨y, ys, rfl, r, rs⟩ := R.cons_inv
      have := rs.nil_inv
      subst this
      exact .inr ⟨h, y, rfl, r⟩
    · cases hw
theorem range_some {n i j : Nat} (h : (List.range n)[i]? = some j) : i < n ∧ j = i := by
  by_cases hi : i < n
  · rw [List.getElem?_range hi] at h; cases h; exact ⟨hi, rfl⟩
  · rw [List.getElem?_eq_none (by simpa using hi)] at h; cases h
theorem s_load {base w0 μ} {h h' : Hp} (S : Sim fid base w0 w μ h.get) {t sz agg x a r} (hs : tSize P t sz = true) (hag : tAgg P t agg = true)
    (R : Rep fid w (Wr μ h.get) (info μ h.get) x a) (hp : prim h (.load sz agg) [a] = some (r, h')) :
    h' = h ∧ ∃ y, (Instr.loadAt t x).run P w = .ok y w ∧ Rep fid w (Wr μ h.get) (info μ h.get) y r := by
  have fin : ∀ (b off : Nat) (us : List Value) (cs : List AV), x = .pointer (some ⟨b, off, none⟩) → us.length = sz → (∀ i u, us[i]? = some u → w.cell? ⟨b, off + i, none⟩ = some u) →
      (∀ u ∈ us, u.oneCell' = true) → Reps fid w (Wr μ h.get) (info μ h.get) us cs → whole agg cs = some r →
      ∃ y, (Instr.loadAt t x).run P w = .ok y w ∧ Rep fid w (Wr μ h.get) (info μ h.get) y r := by
    intro b off us cs hx hl hc h1 RR hw
    subst hx
    rcases whole_sound RR h1 hw with ⟨e, r1⟩ | ⟨e, u, rfl, r1⟩
    · subst e
      exact ⟨_, by simp [Instr.loadAt, Instr.sureAddr, loadVar, tAgg_run hag, tSize_run hs, run_cells hl hc], r1⟩
    · subst e
      refine ⟨u, ?_, r1⟩
      have := hc 0 u rfl
      simp only [Nat.add_zero] at this
      simp [Instr.loadAt, Instr.sureAddr, loadVar, tAgg_run hag, this]
  cases a <;> simp only [prim, reduceCtorEq] at hp
  · rename_i ℓ n off
    cases hb : h.get ℓ with
    | none => simp [hb] at hp
    | some B =>
      simp only [hb] at hp
      split at hp
      · rename_i hc
        obtain ⟨a, hw, he⟩ := Option.map_eq_some_iff.1 hp
        cases he
        obtain ⟨hv, hx⟩ := R.ptr_inv S hb hc.1
        obtain ⟨us, hl, hcell, h1, RR⟩ := cells_at S hb hv (off := off) (n := sz) (by omega)
        exact ⟨rfl, fin _ _ us _ hx hl hcell h1 RR hw⟩
      · cases hp
  · rename_i cells
    split at hp
    · rename_i hc
      obtain ⟨a, hw, he⟩ := Option.map_eq_some_iff.1 hp
      cases he
      refine ⟨rfl, ?_⟩
      cases R with
      | @rop ad _ us hlf hrow hcs =>
        rcases hrow with h0 | ⟨hsp, _, hrow⟩
        · -- no cells: size 0
          have hsz : sz = 0 := by omega
          subst hsz
          simp only [whole, List.take_zero] at hw
          cases agg with
          | false => simp at hw
          | true =>
            simp only [if_true, Option.some.injEq] at hw
            subst hw
            refine ⟨.agg #[], by simp [Instr.loadAt, Instr.sureAddr, loadVar, tAgg_run hag, tSize_run hs, loadCells, loadCellsFrom], ?_⟩
            exact .agg (xs := []) rfl (by simp) (fun i x a h => by simp at h)
        · obtain ⟨ab, ao, asp⟩ := ad
          simp only at hsp hrow
          subst hsp
          refine fin ab ao ((List.range sz).map us) (cells.take sz) rfl (by simp) (fun i u hu => ?_) (fun u hu => ?_) ⟨by simp; omega, fun i x a hx ha => ?_⟩ hw
          · rw [List.getElem?_map] at hu
            obtain ⟨j, hj, rfl⟩ := Option.map_eq_some_iff.1 hu
            obtain ⟨hlt, rfl⟩ := range_some hj
            exact (hrow j (by omega)).1
          · obtain ⟨j, hj, rfl⟩ := List.mem_map.1 hu
            exact (hrow j (by have := List.mem_range.1 hj; omega)).2
          · rw [List.getElem?_map] at hx
            obtain ⟨j, hj, rfl⟩ := Option.map_eq_some_iff.1 hx
            obtain ⟨hlt, rfl⟩ := range_some hj
            rw [List.getElem?_take, if_pos hlt] at ha
            exact hcs j a ha
    · cases hp
end
end Go.AM
namespace Go.AM
open Go.RowKit
variable {fid : String → Option FuncId} {P : Program}
section
variable {w : World} {W : Nat → Prop} {M : Lab → Option LInfo}
theorem s_bits {op k a b z} (h : vBits op k a b = some z) : (Op.intBits op k a b).run P w = .ok z w := by
  unfold vBits at h
  cases op <;> simp_all [Op.intBits]
theorem s_bin {op t ox oy x y z} (h : vBin op x y = some z) :
    (do eqGuard op t ox oy x y; binOp op t x y : Sem Value).run P w = .ok z w := by
  unfold vBin at h
  split at h
  · rename_i k a k' b
    cases op <;> simp only [] at h
    all_goals first
      | (split at h
         · cases h
         · split at h
           · cases h
           · rename_i h1 h2
             cases h
             simp only [ne_eq, Decidable.not_not] at h1
             subst h1
             simp [eqGuard, binOp, Op.intDiv, h2])
      | (split at h
         · cases h
         · rename_i h1
           cases h
           simp [eqGuard, binOp, Op.shift, h1])
      | (split at h
         · cases h
         · rename_i h1
           simp only [ne_eq, Decidable.not_not] at h1
           subst h1
           first
             | (cases h; simp [eqGuard, binOp, Op.intArith, Op.intCmp]; done)
             | (simp only [eqGuard, binOp, ne_eq, not_true_eq_false, if_false, Sem.run_bind]
                have := s_bits (P := P) (w := w) h
                simpa using this))
  · rename_i a b
    cases op <;> simp only [reduceCtorEq] at h
    all_goals first
      | (cases h; simp [eqGuard, binOp, Op.stringOp]; done)
      | (split at h
         · rename_i h1
           cases h
           have : ¬ (((a.size + b.size : Nat) : Int) > IntKind.i64.max) := by simp [IntKind.max, IntKind.signed, IntKind.bits]; omega
           simp [eqGuard, binOp, Op.stringOp]
           simp at this
           omega
         · cases h)
  · cases h
theorem s_un {op x z} (h : vUn op x = some z) : (Op.unary op x).run P w = .ok z w := by
  unfold vUn at h
  split at h
  · cases op <;> simp only [reduceCtorEq] at h
    · cases h; simp [Op.unary, Op.intArith]
    · have := s_bits (P := P) (w := w) h
      simpa [Op.unary] using this
  · cases op <;> simp only [reduceCtorEq] at h
    cases h; simp [Op.unary]
  · cases h
theorem isSome_under {t} (h : (P.underlying t).isSome = true) : ∃ d, P.underlying t = some d := Option.isSome_iff_exists.1 h
theorem s_convInt {s d k k' n} (hs : (P.underlying s).isSome = true) (hd : tInt P d k = true) :
    (convert s d (.int k' n)).run P w = .ok (.int k (k.wrap n)) w := by
  obtain ⟨e, he⟩ := isSome_under hs
  unfold tInt at hd
  split at hd
  · rename_i k2 hk
    simp only [beq_iff_eq] at hd
    subst hd
    simp [convert, underlying, he, hk, Conv.intToInt]
  · cases hd
theorem s_strStr {s d b} (hs : (P.underlying s).isSome = true) (hd : tString P d = true) : (convert s d (.string b)).run P w = .ok (.string b) w := by
  obtain ⟨e, he⟩ := isSome_under hs
  unfold tString at hd
  split at hd
  · rename_i hk; simp [convert, underlying, he, hk]
  · cases hd
theorem s_part {t sz agg} {xs : List Value} {cs : List AV} {off : Nat} {r : AV} (hs : tSize P t sz = true) (hag : tAgg P t agg = true) (R : Reps fid w W M xs cs)
    (h1 : ∀ x ∈ xs, x.oneCell' = true) (hle : off + sz ≤ cs.length) (hw : whole agg ((cs.drop off).take sz) = some r) :
    ∃ y, (part t xs.toArray off).run P w = .ok y w ∧ Rep fid w W M y r := by
  have RR := (R.drop off).take sz
  rcases whole_sound RR (fun u hu => h1 u (List.mem_of_mem_drop (List.mem_of_mem_take hu))) hw with ⟨e, r1⟩ | ⟨e, u, hu, r1⟩
  · subst e
    refine ⟨_, ?_, r1⟩
    simp [part, tAgg_run hag, tSize_run hs, List.extract_eq_take_drop]
  · subst e
    refine ⟨u, ?_, r1⟩
    have : xs[off]? = some u := by
      have h0 : ((xs.drop off).take sz)[0]? = some u := by rw [hu]; rfl
      rw [List.getElem?_take] at h0
      split at h0
      · simpa using h0
      · cases h0
    simp [part, tAgg_run hag, this]
theorem s_field {t f off sz agg x a r} (ht : tField P t f off sz agg = true) (R : Rep fid w W M x a) {h h' : Hp} (hp : prim h (.field off sz agg) [a] = some (r, h')) :
    h' = h ∧ ∃ y, (Instr.field t x f).run P w = .ok y w ∧ Rep fid w W M y r := by
  unfold tField at ht
  split at ht <;> first | cases ht; done | skip
  rename_i fs hu
  split at ht <;> first | cases ht; done | skip
  rename_i g hg
  simp only [Bool.and_eq_true, beq_iff_eq] at ht
  obtain ⟨⟨ho, hs⟩, hag⟩ := ht
  cases a <;> simp only [prim, reduceCtorEq] at hp
  rename_i cs
  split at hp
  · rename_i hle
    obtain ⟨b, hw, he⟩ := Option.map_eq_some_iff.1 hp
    cases he
    cases R with
    | agg h1 h2 hc =>
      obtain ⟨y, hy, r1⟩ := s_part (P := P) hs hag ⟨h1, hc⟩ h2 hle hw
      exact ⟨rfl, y, by simp [Instr.field, underlying, hu, hg, asAgg, ho, hy], r1⟩
  · cases hp
theorem natOf_inv {a n} (h : natOf a = some n) : ∃ k, a = .v (.int k (n : Int)) := by
  unfold natOf at h
  split at h
  · rename_i k i
    split at h
    · rename_i hi
      cases h
      exact ⟨k, by rw [Int.toNat_of_nonneg hi]⟩
    · cases h
  · cases h
theorem s_indexAgg {t n esz agg x ix a b r} (ht : ∃ e, P.underlying t = some (.array n e) ∧ tSize P e esz = true ∧ tAgg P e agg = true) (R : Rep fid w W M x a)
    (Ri : Rep fid w W M ix b) {h h' : Hp} (hp : prim h (.indexAgg n esz agg) [a, b] = some (r, h')) : h' = h ∧ ∃ y, (Instr.index t x ix).run P w = .ok y w ∧ Rep fid w W M y r := by
  obtain ⟨e, hu, hs, hag⟩ := ht
  cases a <;> simp only [prim, reduceCtorEq] at hp
  rename_i cs
  obtain ⟨i, hi, hp2⟩ := Option.bind_eq_some_iff.1 hp
  obtain ⟨k, rfl⟩ := natOf_inv hi
  have := Ri.v_inv; subst this
  split at hp2
  · rename_i hle
    obtain ⟨b, hw, he⟩ := Option.map_eq_some_iff.1 hp2
    cases he
    cases R with
    | agg h1 h2 hc =>
      have e1 : i * esz + esz ≤ cs.length := by rw [Nat.add_mul] at hle; omega
      obtain ⟨y, hy, r1⟩ := s_part (P := P) hs hag ⟨h1, hc⟩ h2 e1 hw
      refine ⟨rfl, y, ?_, r1⟩
      simp [Instr.index, asIntOf, underlying, hu, tSize_run hs, hy, hle.1]
  · cases hp2
theorem s_indexStr {t x ix a b r} (ht : tString P t = true) (R : Rep fid w W M x a)
    (Ri : Rep fid w W M ix b) {h h' : Hp} (hp : prim h .indexStr [a, b] = some (r, h')) : h' = h ∧ ∃ y, (Instr.index t x ix).run P w = .ok y w ∧ Rep fid w W M y r := by
  unfold tString at ht
  split at ht <;> first | cases ht; done | skip
  rename_i hu
  cases a <;> simp only [prim, reduceCtorEq] at hp
  rename_i x0
  cases x0 <;> simp only [reduceCtorEq] at hp
  rename_i s
  obtain ⟨i, hi, hp2⟩ := Option.bind_eq_some_iff.1 hp
  obtain ⟨k, rfl⟩ := natOf_inv hi
  have := Ri.v_inv; subst this
  have := R.v_inv; subst this
  obtain ⟨c, hc, he⟩ := Option.map_eq_some_iff.1 hp2
  cases he
  refine ⟨rfl, .int .u8 c.toNat, ?_, .v _⟩
  have : s[i]? = some c := by
    rw [Array.getElem?_toList] at hc
    obtain ⟨hlt, he⟩ := Array.getElem?_eq_some_iff.1 hc
    exact getElem?_eq_some_iff.2 ⟨hlt, he⟩
  simp [Instr.index, asIntOf, underlying, hu, this]
end
end Go.AM
namespace Go.AM
open Go.RowKit
variable {fid : String → Option FuncId} {P : Program}
section
variable {w : World} {W : Nat → Prop} {M : Lab → Option LInfo}
theorem s_fieldAddr {s f off' x a r} (ht : tFieldAt P s f off' = true) (R : Rep fid w W M x a) {h h' : Hp} (hp : prim h (.fieldAddr off') [a] = some (r, h')) :
    h' = h ∧ ∃ y, (Instr.fieldAt s x f).run P w = .ok y w ∧ Rep fid w W M y r := by
  unfold tFieldAt at ht
  split at ht <;> first | cases ht; done | skip
  rename_i fs hu
  split at ht <;> first | cases ht; done | skip
  rename_i g hg
  simp only [Bool.and_eq_true, beq_iff_eq, Bool.not_eq_true'] at ht
  obtain ⟨⟨ho, hz⟩, hi⟩ := ht
  obtain ⟨i, hi⟩ := Option.isSome_iff_exists.1 hi
  have hz' : i.size ≠ 0 := by simp only [tSize, hi, beq_eq_false_iff_ne] at hz; exact hz
  have run : ∀ ad : Addr, (Instr.fieldAt s (.pointer (some ad)) f).run P w = .ok (.pointer (some (ad.add off'))) w := by
    intro ad
    simp [Instr.fieldAt, underlying, hu, hg, Instr.sureAddr, fieldPlace, sizeOf, typeInfo, hi, hz', ho]
  cases a <;> simp only [prim, reduceCtorEq] at hp
  · cases hp
    cases R with
    | @ptr ad ℓ n off I hM hn hh =>
      refine ⟨rfl, _, run ad, .ptr hM hn fun e => ?_⟩
      obtain ⟨h1, rfl⟩ := hh e
      exact ⟨h1, by rw [add_off]⟩
  · cases hp
    cases R with
    | @rop ad cells us hlf hrow hc =>
      refine ⟨rfl, _, run ad, .rop (fun i => us (off' + i)) (lfs_drop hlf _) ?_ (fun i a ha => ?_)⟩
      · rcases hrow with h0 | ⟨h1, h2, h3⟩
        · left; simp; omega
        · obtain ⟨b, o, sp⟩ := ad
          simp only at h1 h2 h3
          subst h1
          rw [add_off]
          refine .inr ⟨rfl, h2, fun i hi' => ?_⟩
          simp only [List.length_drop] at hi'
          have := h3 (off' + i) (by omega)
          rw [show o + off' + i = o + (off' + i) by omega]
          exact this
      · rw [List.getElem?_drop] at ha
        exact hc _ a ha
theorem s_indexAddr {t esz x ix a b r} (ht : tSlice P t esz = true) (R : Rep fid w W M x a) (Ri : Rep fid w W M ix b) {h h' : Hp}
    (hp : prim h (.indexAddr esz) [a, b] = some (r, h')) : h' = h ∧ ∃ y, (Instr.indexAt t x ix).run P w = .ok y w ∧ Rep fid w W M y r := by
  unfold tSlice at ht
  split at ht <;> first | cases ht; done | skip
  rename_i e hu
  have run : ∀ (ad : Addr) (k : IntKind) (i len C : Nat), i < len → (Instr.indexAt t (.slice (some ad) len C) (.int k (i : Int))).run P w = .ok (.pointer (some (ad.add (i * esz)))) w := by
    intro ad k i len C hi
    simp [Instr.indexAt, asIntOf, underlying, hu, tSize_run ht, hi]
  cases a <;> simp only [prim, reduceCtorEq] at hp
  · rename_i ℓ n off len esz' cap
    obtain ⟨i, hi, hp2⟩ := Option.bind_eq_some_iff.1 hp
    obtain ⟨k, rfl⟩ := natOf_inv hi
    have := Ri.v_inv; subst this
    split at hp2
    · rename_i hc
      obtain ⟨hc1, rfl⟩ := hc
      cases hp2
      cases R with
      | own hM hn hh hlen =>
        obtain ⟨ad, C, rfl, hle, hnone, _⟩ := hlen
        cases ad with
        | none => have := (hnone rfl).1; omega
        | some ad =>
          refine ⟨rfl, _, run ad k i len C hc1, .ptr hM hn fun e => ?_⟩
          have := hh e
          unfold OwnOK at this
          split at this
          · obtain ⟨h1, _⟩ := this; cases h1
          · rename_i hv
            obtain ⟨a2, C2, h1, h2, h3, _⟩ := this
            cases h1
            refine ⟨by simpa using hv, ?_⟩
            rcases h3 with h3 | rfl
            · omega
            · rw [add_off]
    · cases hp2
  · rename_i isNil esz' len cells
    obtain ⟨i, hi, hp2⟩ := Option.bind_eq_some_iff.1 hp
    obtain ⟨k, rfl⟩ := natOf_inv hi
    have := Ri.v_inv; subst this
    split at hp2
    · rename_i hc
      obtain ⟨hc1, he⟩ := hc
      subst he
      cases hp2
      cases R with
      | ro us hlen hlf hro hcs =>
        have hn : isNil = false := by
          cases isNil with
          | false => rfl
          | true => have := (hro.1 rfl).2; omega
        obtain ⟨ad, C, rfl, hle, hrow⟩ := hro.2 hn
        refine ⟨rfl, _, run ad k i len C hc1, .rop (fun j => us (i * esz' + j)) (lfs_drop hlf _) ?_ (fun j a ha => ?_)⟩
        · rcases hrow with h0 | ⟨h1, h2, h3⟩
          · left; simp; omega
          · obtain ⟨b, o, sp⟩ := ad
            simp only at h1 h2 h3
            subst h1
            rw [add_off]
            refine .inr ⟨rfl, h2, fun j hj => ?_⟩
            simp only [List.length_drop] at hj
            have := h3 (i * esz' + j) (by omega)
            rw [show o + i * esz' + j = o + (i * esz' + j) by omega]
            exact this
        · rw [List.getElem?_drop] at ha
          exact hcs _ a ha
    · cases hp2
theorem s_indexArr {t n esz x ix a b r} (ht : tArr P t n esz = true) (R : Rep fid w W M x a) (Ri : Rep fid w W M ix b) {h h' : Hp}
    (hp : prim h (.indexArr n esz) [a, b] = some (r, h')) : h' = h ∧ ∃ y, (Instr.indexAt t x ix).run P w = .ok y w ∧ Rep fid w W M y r := by
  unfold tArr at ht
  split at ht <;> first | cases ht; done | skip
  rename_i m e hu
  simp only [Bool.and_eq_true, beq_iff_eq] at ht
  obtain ⟨rfl, hs⟩ := ht
  cases a <;> simp only [prim, reduceCtorEq] at hp
  obtain ⟨i, hi, hp2⟩ := Option.bind_eq_some_iff.1 hp
  obtain ⟨k, rfl⟩ := natOf_inv hi
  have := Ri.v_inv; subst this
  split at hp2
  · rename_i hc
    cases hp2
    cases R with
    | @ptr ad ℓ n off I hM hn hh =>
      refine ⟨rfl, .pointer (some (ad.add (i * esz))), by simp [Instr.indexAt, asIntOf, underlying, hu, tSize_run hs, Instr.sureAddr, hc], .ptr hM hn fun e => ?_⟩
      obtain ⟨h1, rfl⟩ := hh e
      exact ⟨h1, by rw [add_off]⟩
  · cases hp2
theorem run_bound {k : IntKind} {n y : Nat} {code : BoundsCode} (h : n ≤ y) : (Instr.sliceBound (.int k (n : Int)) y code).run P w = .ok n w := by
  simp [Instr.sliceBound, asIntOf, h]
theorem s_bounds {len C : Nat} {cap : Option Nat} {lo hi mx : Bool} {xs : List AV} {i j : Nat} {c : Option Nat} {l h m : Option Value} {vs : List Value}
    (hb : bounds len cap lo hi mx xs = some (i, j, c)) (hl : l.isSome = lo) (hh : h.isSome = hi) (hm : m.isSome = mx) (hv : l.toList ++ h.toList ++ m.toList = vs)
    (R : Reps fid w W M vs xs) (hcap : ∀ c, cap = some c → C = c) (hlen : len ≤ C) (isS : Bool) :
    ∃ m', (Instr.sliceBounds isS len C l h m).run P w = .ok (i, j, m') w ∧ m' ≤ C ∧ j ≤ m' ∧ i ≤ j ∧ (mx = false → m' = C ∧ c = cap.map (· - i)) ∧ (mx = true → c = some (m' - i)) ∧
      (cap = none → (mx = false ∧ j ≤ len ∧ m' = C) ∨ (mx = true ∧ m' ≤ len)) := by
  unfold bounds at hb
  have leC : ∀ a, leCap len cap a = true → a ≤ C ∧ (cap = none → a ≤ len) := by
    intro a ha
    cases cap with
    | none => simp [leCap] at ha; exact ⟨by omega, fun _ => ha⟩
    | some c => simp [leCap] at ha; have := hcap c rfl; exact ⟨by omega, fun h => by cases h⟩
  split at hb
  · -- none
    have hvs := R.nil_inv
    subst hvs
    simp only [List.append_eq_nil_iff, Option.toList_eq_nil_iff] at hv
    obtain ⟨⟨rfl, rfl⟩, rfl⟩ := hv
    cases hb
    exact ⟨C, by simp [Instr.sliceBounds], Nat.le_refl _, hlen, Nat.zero_le _, fun _ => ⟨rfl, by cases cap <;> rfl⟩, fun h => (by cases h), fun _ => .inl ⟨rfl, Nat.le_refl _, rfl⟩⟩
  · rename_i a
    obtain ⟨n, hn, hb1⟩ := Option.bind_eq_some_iff.1 hb
    obtain ⟨k, rfl⟩ := natOf_inv hn
    split at hb1 <;> cases hb1
    rename_i hle
    obtain ⟨v1, _, rfl, r1, r2⟩ := R.cons_inv
    have := r2.nil_inv; subst this
    have := r1.v_inv; subst this
    obtain ⟨l, rfl⟩ := Option.isSome_iff_exists.1 hl
    have hh' : h = none := by simpa using hh
    have hm' : m = none := by simpa using hm
    subst hh'; subst hm'
    simp at hv; subst hv
    exact ⟨C, by simp [Instr.sliceBounds, run_bound hle], Nat.le_refl _, hlen, hle, fun _ => ⟨rfl, rfl⟩, fun h => (by cases h), fun _ => .inl ⟨rfl, Nat.le_refl _, rfl⟩⟩
  · rename_i a
    obtain ⟨n, hn, hb1⟩ := Option.bind_eq_some_iff.1 hb
    obtain ⟨k, rfl⟩ := natOf_inv hn
    split at hb1 <;> cases hb1
    rename_i hle
    obtain ⟨v1, _, rfl, r1, r2⟩ := R.cons_inv
    have := r2.nil_inv; subst this
    have := r1.v_inv; subst this
    obtain ⟨h, rfl⟩ := Option.isSome_iff_exists.1 hh
    have hl' : l = none := by simpa using hl
    have hm' : m = none := by simpa using hm
    subst hl'; subst hm'
    simp at hv; subst hv
    obtain ⟨g1, g2⟩ := leC _ hle
    exact ⟨C, by simp [Instr.sliceBounds, run_bound g1], Nat.le_refl _, g1, Nat.zero_le _, fun _ => ⟨rfl, by cases cap <;> rfl⟩, fun h => (by cases h), fun h => .inl ⟨rfl, g2 h, rfl⟩⟩
  · rename_i a b
    obtain ⟨n, hn, hb1⟩ := Option.bind_eq_some_iff.1 hb
    obtain ⟨n2, hn2, hb2⟩ := Option.bind_eq_some_iff.1 hb1
    obtain ⟨k, rfl⟩ := natOf_inv hn
    obtain ⟨k2, rfl⟩ := natOf_inv hn2
    split at hb2 <;> cases hb2
    rename_i hle
    obtain ⟨v1, _, rfl, r1, r2⟩ := R.cons_inv
    obtain ⟨v2, _, rfl, q2, r3⟩ := r2.cons_inv
    have := r3.nil_inv; subst this
    have := r1.v_inv; subst this
    have := q2.v_inv; subst this
    obtain ⟨l, rfl⟩ := Option.isSome_iff_exists.1 hl
    obtain ⟨h, rfl⟩ := Option.isSome_iff_exists.1 hh
    have hm' : m = none := by simpa using hm
    subst hm'
    simp at hv; obtain ⟨rfl, rfl⟩ := hv
    obtain ⟨g1, g2⟩ := leC _ hle.2
    exact ⟨C, by simp [Instr.sliceBounds, run_bound g1, run_bound hle.1], Nat.le_refl _, g1, hle.1, fun _ => ⟨rfl, rfl⟩, fun h => (by cases h), fun h => .inl ⟨rfl, g2 h, rfl⟩⟩
  · rename_i a b c
    obtain ⟨n, hn, hb1⟩ := Option.bind_eq_some_iff.1 hb
    obtain ⟨n2, hn2, hb2⟩ := Option.bind_eq_some_iff.1 hb1
    obtain ⟨n3, hn3, hb3⟩ := Option.bind_eq_some_iff.1 hb2
    obtain ⟨k, rfl⟩ := natOf_inv hn
    obtain ⟨k2, rfl⟩ := natOf_inv hn2
    obtain ⟨k3, rfl⟩ := natOf_inv hn3
    split at hb3 <;> cases hb3
    rename_i hle
    obtain ⟨v1, _, rfl, r1, r2⟩ := R.cons_inv
    obtain ⟨v2, _, rfl, q2, r3⟩ := r2.cons_inv
    obtain ⟨v3, _, rfl, q3, r4⟩ := r3.cons_inv
    have := r4.nil_inv; subst this
    have := r1.v_inv; subst this
    have := q2.v_inv; subst this
    have := q3.v_inv; subst this
    obtain ⟨l, rfl⟩ := Option.isSome_iff_exists.1 hl
    obtain ⟨h, rfl⟩ := Option.isSome_iff_exists.1 hh
    obtain ⟨m, rfl⟩ := Option.isSome_iff_exists.1 hm
    simp at hv; obtain ⟨rfl, rfl, rfl⟩ := hv
    obtain ⟨g1, g2⟩ := leC _ hle.2.2
    exact ⟨n3, by simp [Instr.sliceBounds, run_bound g1, run_bound hle.1, run_bound hle.2.1], g1, hle.2.1, hle.1, fun h => (by cases h), fun _ => rfl, fun h => .inr ⟨rfl, g2 h⟩⟩
  · rename_i b c
    obtain ⟨n2, hn2, hb1⟩ := Option.bind_eq_some_iff.1 hb
    obtain ⟨n3, hn3, hb2⟩ := Option.bind_eq_some_iff.1 hb1
    obtain ⟨k2, rfl⟩ := natOf_inv hn2
    obtain ⟨k3, rfl⟩ := natOf_inv hn3
    split at hb2 <;> cases hb2
    rename_i hle
    obtain ⟨v2, _, rfl, q2, r3⟩ := R.cons_inv
    obtain ⟨v3, _, rfl, q3, r4⟩ := r3.cons_inv
    have := r4.nil_inv; subst this
    have := q2.v_inv; subst this
    have := q3.v_inv; subst this
    obtain ⟨h, rfl⟩ := Option.isSome_iff_exists.1 hh
    obtain ⟨m, rfl⟩ := Option.isSome_iff_exists.1 hm
    have hl' : l = none := by simpa using hl
    subst hl'
    simp at hv; obtain ⟨rfl, rfl⟩ := hv
    obtain ⟨g1, g2⟩ := leC _ hle.2
    exact ⟨n3, by simp [Instr.sliceBounds, run_bound g1, run_bound hle.1], g1, hle.1, Nat.zero_le _, fun h => (by cases h), fun _ => by simp, fun h => .inr ⟨rfl, g2 h⟩⟩
  · cases hb
theorem optOpds_run {a : Act} (l h m : Option Operand) : (optOpds l h m).map a.eval = (l.map a.eval).toList ++ (h.map a.eval).toList ++ (m.map a.eval).toList := by
  cases l <;> cases h <;> cases m <;> rfl
theorem s_slice {t esz lo hi mx x a r} {l h m : Option Value} {xs : List AV} (ht : tSlice P t esz = true) (hl : l.isSome = lo) (hh : h.isSome = hi) (hm : m.isSome = mx)
    (R : Rep fid w W M x a) (Rs : Reps fid w W M (l.toList ++ h.toList ++ m.toList) xs) {hp0 hp' : Hp} (hp : prim hp0 (.slice esz lo hi mx) (a :: xs) = some (r, hp')) :
    hp' = hp0 ∧ ∃ y, (Instr.sliceAt t x l h m).run P w = .ok y w ∧ Rep fid w W M y r := by
  unfold tSlice at ht
  split at ht <;> first | cases ht; done | skip
  rename_i e hu
  have run : ∀ (ad : Option Addr) (len C i j m' : Nat), (Instr.sliceBounds true len C l h m).run P w = .ok (i, j, m') w →
      (Instr.sliceAt t (.slice ad len C) l h m).run P w = .ok (.slice (if m' = i then ad else ad.map (·.add (i * esz))) (j - i) (m' - i)) w := by
    intro ad len C i j m' hb
    simp [Instr.sliceAt, Instr.slice, underlying, hu, hb, tSize_run ht]
  have nilcase : ∀ (i j : Nat) (c : Option Nat), x = .slice none 0 0 → bounds 0 (some 0) lo hi mx xs = some (i, j, c) → (Instr.sliceAt t x l h m).run P w = .ok (.slice none 0 0) w := by
    intro i j c hx hb
    subst hx
    obtain ⟨m', hr, h1, h2, h3, _⟩ := s_bounds (P := P) hb hl hh hm rfl Rs (C := 0) (fun c hc => by cases hc; rfl) (Nat.le_refl _) true
    have e1 : m' = 0 := by omega
    have e2 : i = 0 := by omega
    have e3 : j = 0 := by omega
    subst e1; subst e2; subst e3
    exact run none 0 0 0 0 0 hr
  cases a <;> first | (simp only [prim, reduceCtorEq] at hp; done) | skip
  · -- nil
    rename_i v0
    have := R.v_inv; subst this
    cases x <;> first | (simp only [prim, reduceCtorEq] at hp; done) | skip
    rename_i ad n c
    cases ad <;> first | (simp only [prim, reduceCtorEq] at hp; done) | skip
    cases n <;> first | (simp only [prim, reduceCtorEq] at hp; done) | skip
    cases c <;> first | (simp only [prim, reduceCtorEq] at hp; done) | skip
    simp only [prim] at hp
    obtain ⟨⟨i, j, c⟩, hb, hp2⟩ := Option.bind_eq_some_iff.1 hp
    simp only at hp2
    split at hp2 <;> cases hp2
    exact ⟨rfl, _, nilcase i j c rfl hb, .v _⟩
  · rename_i ℓ n off len esz' cap
    simp only [prim] at hp
    split at hp <;> first | (cases hp; done) | skip
    rename_i he
    subst he
    obtain ⟨⟨i, j, c⟩, hb, hp2⟩ := Option.bind_eq_some_iff.1 hp
    simp only at hp2
    split at hp2 <;> cases hp2
    rename_i hij
    cases R with
    | @own _ _ _ _ _ _ _ I hM hn hok hlen =>
      obtain ⟨ad, C, rfl, hle, hnone, hcap⟩ := hlen
      obtain ⟨m', hr, h1, h2, h3, h4, h5, h6⟩ := s_bounds (P := P) hb hl hh hm rfl Rs hcap hle true
      have hcm : ∀ c', c = some c' → m' - i = c' := by
        intro c' hc'
        cases mx with
        | true => rw [h5 rfl] at hc'; exact Option.some.inj hc'
        | false =>
          obtain ⟨g1, g2⟩ := h4 rfl
          rw [g2] at hc'
          obtain ⟨c0, hc0, rfl⟩ := Option.map_eq_some_iff.1 hc'
          rw [g1, hcap c0 hc0]
      refine ⟨rfl, _, run ad len C i j m' hr, .own hM hn (fun en => ?_) ⟨_, _, rfl, by omega, fun hn' => ?_, hcm⟩⟩
      · have ok := hok en
        unfold OwnOK at ok ⊢
        split
        · rename_i hv
          rw [if_pos hv] at ok
          obtain ⟨g1, g2, g3⟩ := ok
          cases g1
          have e1 : m' = 0 := by omega
          have e2 : i = 0 := by omega
          have e3 : j = 0 := by omega
          subst e1; subst e2; subst e3
          exact ⟨by simp, by simp [g2], rfl⟩
        · rename_i hv
          rw [if_neg hv] at ok
          obtain ⟨a2, C2, g1, g2, g3, g4, g5, g6, g7⟩ := ok
          cases g1
          have ej : i * esz' + (j - i) * esz' = j * esz' := by rw [← Nat.add_mul]; congr 1; omega
          have em : i * esz' + (m' - i) * esz' = m' * esz' := by rw [← Nat.add_mul]; congr 1; omega
          have hmC : m' * esz' ≤ C * esz' := Nat.mul_le_mul_right _ h1
          have hjm : j * esz' ≤ m' * esz' := Nat.mul_le_mul_right _ h2
          refine ⟨if m' = i then a2 else a2.add (i * esz'), m' - i, ?_, by omega, ?_, by omega, fun c' hc' => ⟨hcm c' hc', ?_⟩, fun hc' => ?_, ?_⟩
          · split <;> rfl
          · by_cases hmi : m' = i
            · left; omega
            · right
              rcases g3 with g3 | rfl
              · omega
              · rw [if_neg hmi, add_off]
          · have := hcm c' hc'
            subst this
            cases cap with
            | some c0 => have := (g5 c0 rfl); have e0 : c0 * esz' = C * esz' := by rw [this.1]
                         omega
            | none =>
              rcases h6 rfl with ⟨g8, _, g9⟩ | ⟨g8, g9⟩
              · rw [(h4 g8).2] at hc'; cases hc'
              · have : m' * esz' ≤ len * esz' := Nat.mul_le_mul_right _ g9
                omega
          · cases mx with
            | true => rw [h5 rfl] at hc'; cases hc'
            | false =>
              obtain ⟨g8, g9⟩ := h4 rfl
              subst g8
              cases cap with
              | some c0 => rw [g9] at hc'; cases hc'
              | none => have := g6 rfl; omega
          · cases cap with
            | some c0 => have := g5 c0 rfl; have e0 : c0 * esz' = C * esz' := by rw [this.1]
                         omega
            | none =>
              rcases h6 rfl with ⟨_, g8, g9⟩ | ⟨g8, g9⟩
              · have : j * esz' ≤ len * esz' := Nat.mul_le_mul_right _ g8
                omega
              · have : m' * esz' ≤ len * esz' := Nat.mul_le_mul_right _ g9
                omega
      · have had : ad = none := by
          split at hn'
          · exact hn'
          · cases ad with
            | none => rfl
            | some a2 => cases hn'
        have := hnone had
        omega
  · rename_i nl esz' len cells
    simp only [prim] at hp
    split at hp <;> first | (cases hp; done) | skip
    rename_i he
    subst he
    obtain ⟨⟨i, j, c⟩, hb, hp2⟩ := Option.bind_eq_some_iff.1 hp
    simp only at hp2
    split at hp2 <;> cases hp2
    rename_i hij
    obtain ⟨hij, hmx⟩ := hij
    subst hmx
    cases R with
    | @ro _ _ _ _ _ us hlen hlf hro hcs =>
      cases nl with
      | true =>
        obtain ⟨rfl, rfl⟩ := hro.1 rfl
        obtain ⟨m', hr, h1, h2, h3, h4, h5, h6⟩ := s_bounds (P := P) hb hl hh hm rfl Rs (C := 0) (fun c hc => by cases hc) (Nat.le_refl _) true
        have e1 : m' = 0 := by omega
        have e2 : i = 0 := by omega
        have e3 : j = 0 := by omega
        subst e1; subst e2; subst e3
        refine ⟨rfl, _, run none 0 0 0 0 0 hr, .ro us (by simp) ?_ ⟨fun _ => ⟨rfl, rfl⟩, fun h => by cases h⟩ (fun i a ha => by simp at ha)⟩
        exact lfs_take (lfs_drop hlf _) _
      | false =>
        obtain ⟨ad, C, rfl, hle, hrow⟩ := hro.2 rfl
        obtain ⟨m', hr, h1, h2, h3, h4, h5, h6⟩ := s_bounds (P := P) hb hl hh hm rfl Rs (C := C) (fun c hc => by cases hc) hle true
        have hj : j ≤ len := by
          rcases h6 rfl with ⟨_, g8, g9⟩ | ⟨g8, g9⟩
          · exact g8
          · cases g8
        have ej : i * esz' + (j - i) * esz' = j * esz' := by rw [← Nat.add_mul]; congr 1; omega
        have hjl : j * esz' ≤ len * esz' := Nat.mul_le_mul_right _ hj
        refine ⟨rfl, _, run (some ad) len C i j m' hr, .ro (fun k => us (i * esz' + k)) (by simp; omega) (lfs_take (lfs_drop hlf _) _)
          ⟨fun h => (by cases h), fun _ => ⟨if m' = i then ad else ad.add (i * esz'), m' - i, by split <;> rfl, by omega, ?_⟩⟩ (fun k a ha => ?_)⟩
        · by_cases hmi : m' = i
          · left
            have : j = i := by omega
            subst this
            simp
          · rw [if_neg hmi]
            rcases hrow with h0 | ⟨g1, g2, g3⟩
            · left; simp; omega
            · obtain ⟨b, o, sp⟩ := ad
              simp only at g1 g2 g3
              subst g1
              rw [add_off]
              refine .inr ⟨rfl, g2, fun k hk => ?_⟩
              simp only [List.length_take, List.length_drop] at hk
              have := g3 (i * esz' + k) (by omega)
              rw [show o + i * esz' + k = o + (i * esz' + k) by omega]
              exact this
        · rw [List.getElem?_take] at ha
          split at ha
          · rw [List.getElem?_drop] at ha; exact hcs _ a ha
          · cases ha
end
end Go.AM
namespace Go.AM
open Go.RowKit
variable {fid : String → Option FuncId} {P : Program}
section
variable {w : World} {W : Nat → Prop} {M : Lab → Option LInfo}
theorem s_sliceStr {t lo hi x a r} {l h : Option Value} {xs : List AV} (ht : tString P t = true) (hl : l.isSome = lo) (hh : h.isSome = hi)
    (R : Rep fid w W M x a) (Rs : Reps fid w W M (l.toList ++ h.toList ++ (none : Option Value).toList) xs) {hp0 hp' : Hp} (hp : prim hp0 (.sliceStr lo hi) (a :: xs) = some (r, hp')) :
    hp' = hp0 ∧ ∃ y, (Instr.sliceAt t x l h none).run P w = .ok y w ∧ Rep fid w W M y r := by
  unfold tString at ht
  split at ht <;> first | cases ht; done | skip
  rename_i hu
  cases a <;> first | (simp only [prim, reduceCtorEq] at hp; done) | skip
  rename_i x0
  have := R.v_inv; subst this
  cases x <;> first | (simp only [prim, reduceCtorEq] at hp; done) | skip
  rename_i s
  simp only [prim] at hp
  obtain ⟨⟨i, j, c⟩, hb, hp2⟩ := Option.bind_eq_some_iff.1 hp
  simp only at hp2
  split at hp2 <;> cases hp2
  rename_i hij
  obtain ⟨m', hr, h1, h2, h3, h4, h5, h6⟩ := s_bounds (P := P) hb hl hh (m := none) rfl rfl Rs (C := s.size) (fun c hc => by cases hc) (Nat.le_refl _) false
  exact ⟨rfl, _, by simp [Instr.sliceAt, Instr.slice, underlying, hu, hr], .v _⟩
theorem s_sliceArr {t n esz lo hi mx x a r} {l h m : Option Value} {xs : List AV} (ht : tArrPtr P t n esz = true) (hl : l.isSome = lo) (hh : h.isSome = hi) (hm : m.isSome = mx)
    {base w0 μ} {hp0 hp' : Hp} (S : Sim fid base w0 w μ hp0.get)
    (R : Rep fid w (Wr μ hp0.get) (info μ hp0.get) x a) (Rs : Reps fid w (Wr μ hp0.get) (info μ hp0.get) (l.toList ++ h.toList ++ m.toList) xs) (hp : prim hp0 (.sliceArr n esz lo hi mx) (a :: xs) = some (r, hp')) :
    hp' = hp0 ∧ ∃ y, (Instr.sliceAt t x l h m).run P w = .ok y w ∧ Rep fid w (Wr μ hp0.get) (info μ hp0.get) y r := by
  have run : ∀ (ad : Addr) (i j m' : Nat), (Instr.sliceBounds false n n l h m).run P w = .ok (i, j, m') w →
      (Instr.sliceAt t (.pointer (some ad)) l h m).run P w = .ok (.slice (some (if m' = i then ad else ad.add (i * esz))) (j - i) (m' - i)) w := by
    intro ad i j m' hb
    unfold tArrPtr at ht
    split at ht
    · rename_i k e hu
      simp only [Bool.and_eq_true, beq_iff_eq] at ht
      obtain ⟨rfl, hs⟩ := ht
      simp [Instr.sliceAt, underlying, hu, Instr.sureAddr, hb, tSize_run hs]
    · rename_i p hu
      unfold tArr at ht
      split at ht
      · rename_i k e hu2
        simp only [Bool.and_eq_true, beq_iff_eq] at ht
        obtain ⟨rfl, hs⟩ := ht
        simp [Instr.sliceAt, Instr.slice, underlying, hu, hu2, asAddr, hb, tSize_run hs]
      · cases ht
    · cases ht
  cases a <;> first | (simp only [prim, reduceCtorEq] at hp; done) | skip
  rename_i ℓ k off
  simp only [prim] at hp
  obtain ⟨⟨i, j, c⟩, hb, hp2⟩ := Option.bind_eq_some_iff.1 hp
  simp only at hp2
  split at hp2 <;> cases hp2
  rename_i hij
  obtain ⟨hij, hle⟩ := hij
  obtain ⟨m', hr, h1, h2, h3, h4, h5, h6⟩ := s_bounds (P := P) hb hl hh hm rfl Rs (C := n) (fun c hc => by cases hc; rfl) (Nat.le_refl _) false
  have hc : c = some (m' - i) := by
    cases mx with
    | true => exact h5 rfl
    | false => obtain ⟨g1, g2⟩ := h4 rfl; rw [g2, g1]; rfl
  subst hc
  cases R with
  | @ptr ad _ _ _ I hM hn hh =>
    refine ⟨rfl, _, run ad i j m' hr, .own hM hn (fun en => ?_) ⟨_, _, rfl, by omega, fun h => (by cases h), fun c' hc' => (by cases hc'; rfl)⟩⟩
    obtain ⟨hv, rfl⟩ := hh en
    have ej : i * esz + (j - i) * esz = j * esz := by rw [← Nat.add_mul]; congr 1; omega
    have em : i * esz + (m' - i) * esz = m' * esz := by rw [← Nat.add_mul]; congr 1; omega
    have hmC : m' * esz ≤ n * esz := Nat.mul_le_mul_right _ h1
    have hjm : j * esz ≤ m' * esz := Nat.mul_le_mul_right _ h2
    have hIsz : I.n ≤ I.sz := by
      simp only [info] at hM
      obtain ⟨B, hB, rfl⟩ := Option.map_eq_some_iff.1 hM
      obtain ⟨c0, e0, lo0, hi0, g1, g2, g3, g4, _⟩ := (S.ok.blk ℓ B hB).row hv
      exact g4
    unfold OwnOK
    rw [if_neg (by simp [hv])]
    refine ⟨_, _, rfl, by omega, ?_, by omega, fun c' hc' => (by cases hc'; exact ⟨rfl, by omega⟩), fun hc' => (by cases hc'), by omega⟩
    by_cases hmi : m' = i
    · left; omega
    · right; rw [if_neg hmi, add_off]
theorem s_lenOf {t x a n} (ht : (match P.underlying t with | some (.slice _) => true | _ => false) = true) (R : Rep fid w W M x a) (hl : lenOf a = some n) :
    ∃ ad C, x = .slice ad n C := by
  cases a with
  | v y =>
    have := R.v_inv; subst this
    cases x with
    | slice ad l c =>
      cases ad with
      | none =>
        cases l <;> cases c <;> simp only [lenOf, reduceCtorEq, Option.some.injEq] at hl
        subst hl; exact ⟨_, _, rfl⟩
      | some ad => simp [lenOf] at hl
    | _ => simp [lenOf] at hl
  | ro nl esz len cells =>
    simp only [lenOf, Option.some.injEq] at hl; subst hl
    cases R with
    | ro us hlen hlf hro hcs =>
      cases nl with
      | true => obtain ⟨rfl, h0⟩ := hro.1 rfl; subst h0; exact ⟨_, _, rfl⟩
      | false => obtain ⟨ad, C, rfl, _⟩ := hro.2 rfl; exact ⟨_, _, rfl⟩
  | own =>
    simp only [lenOf, Option.some.injEq] at hl; subst hl
    cases R with
    | own hM hn hh hlen => obtain ⟨ad, C, rfl, _⟩ := hlen; exact ⟨_, _, rfl⟩
  | _ => simp [lenOf] at hl
theorem s_lenSlice {t ty x a r} (ht : (match P.underlying t with | some (.slice _) => true | _ => false) = true) (R : Rep fid w W M x a) {hp0 hp' : Hp} (hp : prim hp0 .lenSlice [a] = some (r, hp')) :
    hp' = hp0 ∧ ∃ y, (Builtin.len_ #[t] ty #[x]).run P w = .ok y w ∧ Rep fid w W M y r := by
  simp only [prim] at hp
  obtain ⟨n, hn, he⟩ := Option.map_eq_some_iff.1 hp
  cases he
  obtain ⟨ad, C, rfl⟩ := s_lenOf ht R hn
  split at ht <;> first | (cases ht; done) | skip
  rename_i e hu
  exact ⟨rfl, _, by simp [Builtin.len_, underlying, hu], .v _⟩
theorem s_lenStr {t ty x a r} (ht : tString P t = true) (R : Rep fid w W M x a) {hp0 hp' : Hp} (hp : prim hp0 .lenStr [a] = some (r, hp')) :
    hp' = hp0 ∧ ∃ y, (Builtin.len_ #[t] ty #[x]).run P w = .ok y w ∧ Rep fid w W M y r := by
  unfold tString at ht
  split at ht <;> first | cases ht; done | skip
  rename_i hu
  cases a <;> first | (simp only [prim, reduceCtorEq] at hp; done) | skip
  have := R.v_inv; subst this
  cases x <;> first | (simp only [prim, reduceCtorEq] at hp; done) | skip
  simp only [prim] at hp
  cases hp
  exact ⟨rfl, _, by simp [Builtin.len_, underlying, hu], .v _⟩
theorem s_lenArr {t ty n x a r} (ht : (match P.underlying t with
      | some (.array m _) => m == n
      | some (.pointer a) => (match P.underlying a with | some (.array m _) => m == n | _ => false)
      | _ => false) = true) (R : Rep fid w W M x a) {hp0 hp' : Hp} (hp : prim hp0 (.lenArr n) [a] = some (r, hp')) :
    hp' = hp0 ∧ ∃ y, (Builtin.len_ #[t] ty #[x]).run P w = .ok y w ∧ Rep fid w W M y r := by
  simp only [prim] at hp
  cases hp
  refine ⟨rfl, .int .i64 n, ?_, .v _⟩
  split at ht
  · rename_i m e hu
    simp only [beq_iff_eq] at ht; subst ht
    simp [Builtin.len_, underlying, hu, goInt]
  · rename_i p hu
    split at ht
    · rename_i m e hu2
      simp only [beq_iff_eq] at ht; subst ht
      simp [Builtin.len_, underlying, hu, hu2, goInt]
    · cases ht
  · cases ht
theorem s_cap {t ty x a r} (ht : (match P.underlying t with | some (.slice _) => true | _ => false) = true) (R : Rep fid w W M x a) {hp0 hp' : Hp} (hp : prim hp0 .cap [a] = some (r, hp')) :
    hp' = hp0 ∧ ∃ y, (Builtin.cap_ #[t] ty #[x]).run P w = .ok y w ∧ Rep fid w W M y r := by
  split at ht <;> first | (cases ht; done) | skip
  rename_i e hu
  cases a <;> first | (simp only [prim, reduceCtorEq] at hp; done) | skip
  · have := R.v_inv; subst this
    cases x <;> first | (simp only [prim, reduceCtorEq] at hp; done) | skip
    rename_i ad n c
    cases ad <;> first | (simp only [prim, reduceCtorEq] at hp; done) | skip
    cases n <;> first | (simp only [prim, reduceCtorEq] at hp; done) | skip
    cases c <;> first | (simp only [prim, reduceCtorEq] at hp; done) | skip
    simp only [prim] at hp
    cases hp
    exact ⟨rfl, _, by simp [Builtin.cap_, underlying, hu], .v _⟩
  · rename_i ℓ n off len esz cap
    cases cap <;> first | (simp only [prim, reduceCtorEq] at hp; done) | skip
    simp only [prim] at hp
    cases hp
    cases R with
    | own hM hn hh hlen =>
      obtain ⟨ad, C, rfl, _, _, hc⟩ := hlen
      have := hc _ rfl
      subst this
      exact ⟨rfl, _, by simp [Builtin.cap_, underlying, hu], .v _⟩
theorem mins_sound {k} : ∀ {as : List AV} {vs : List Value} {a n : Int}, Reps fid w W M vs as → mins k a as = some n → (vs.foldlM Builtin.min2 (.int k a)).run P w = .ok (.int k n) w
  | [], vs, a, n, R, h => by have := R.nil_inv; subst this; simp [mins] at h; subst h; simp
  | b :: as, vs, a, n, R, h => by
    obtain ⟨v, vs, rfl, r, rs⟩ := R.cons_inv
    cases b <;> first | (simp only [mins, reduceCtorEq] at h; done) | skip
    have := r.v_inv; subst this
    cases v <;> first | (simp only [mins, reduceCtorEq] at h; done) | skip
    simp only [mins] at h
    simp only [List.foldlM_cons, Builtin.min2, Sem.run_bind, Sem.run_pure, Result.andThen_ok]
    exact mins_sound rs h
theorem maxs_sound {k} : ∀ {as : List AV} {vs : List Value} {a n : Int}, Reps fid w W M vs as → maxs k a as = some n → (vs.foldlM Builtin.max2 (.int k a)).run P w = .ok (.int k n) w
  | [], vs, a, n, R, h => by have := R.nil_inv; subst this; simp [maxs] at h; subst h; simp
  | b :: as, vs, a, n, R, h => by
    obtain ⟨v, vs, rfl, r, rs⟩ := R.cons_inv
    cases b <;> first | (simp only [maxs, reduceCtorEq] at h; done) | skip
    have := r.v_inv; subst this
    cases v <;> first | (simp only [maxs, reduceCtorEq] at h; done) | skip
    simp only [maxs] at h
    simp only [List.foldlM_cons, Builtin.max2, Sem.run_bind, Sem.run_pure, Result.andThen_ok]
    exact maxs_sound rs h
theorem s_min {ts ty} {xs : List Value} {as r} (R : Reps fid w W M xs as) {hp0 hp' : Hp} (hp : prim hp0 .min as = some (r, hp')) :
    hp' = hp0 ∧ ∃ y, (Builtin.min_ ts ty xs.toArray).run P w = .ok y w ∧ Rep fid w W M y r := by
  cases as <;> first | (simp only [prim, reduceCtorEq] at hp; done) | skip
  obtain ⟨v, vs, rfl, r1, rs⟩ := R.cons_inv
  rename_i a as
  cases a <;> first | (simp only [prim, reduceCtorEq] at hp; done) | skip
  have := r1.v_inv; subst this
  cases v <;> first | (simp only [prim, reduceCtorEq] at hp; done) | skip
  simp only [prim] at hp
  obtain ⟨n, hn, he⟩ := Option.map_eq_some_iff.1 hp
  cases he
  exact ⟨rfl, _, by simp [Builtin.min_, mins_sound rs hn], .v _⟩
theorem s_max {ts ty} {xs : List Value} {as r} (R : Reps fid w W M xs as) {hp0 hp' : Hp} (hp : prim hp0 .max as = some (r, hp')) :
    hp' = hp0 ∧ ∃ y, (Builtin.max_ ts ty xs.toArray).run P w = .ok y w ∧ Rep fid w W M y r := by
  cases as <;> first | (simp only [prim, reduceCtorEq] at hp; done) | skip
  obtain ⟨v, vs, rfl, r1, rs⟩ := R.cons_inv
  rename_i a as
  cases a <;> first | (simp only [prim, reduceCtorEq] at hp; done) | skip
  have := r1.v_inv; subst this
  cases v <;> first | (simp only [prim, reduceCtorEq] at hp; done) | skip
  simp only [prim] at hp
  obtain ⟨n, hn, he⟩ := Option.map_eq_some_iff.1 hp
  cases he
  exact ⟨rfl, _, by simp [Builtin.max_, maxs_sound rs hn], .v _⟩
theorem s_extract {i x a r} (R : Rep fid w W M x a) {hp0 hp' : Hp} (hp : prim hp0 (.extract i) [a] = some (r, hp')) :
    hp' = hp0 ∧ ∃ y, (Instr.extract x i).run P w = .ok y w ∧ Rep fid w W M y r := by
  cases a <;> first | (simp only [prim, reduceCtorEq] at hp; done) | skip
  rename_i as
  simp only [prim] at hp
  obtain ⟨b, hb, he⟩ := Option.map_eq_some_iff.1 hp
  cases he
  cases R with
  | @tup xs _ h1 hc =>
    have : i < xs.length := by
      rw [h1]
      by_cases h : i < as.length
      · exact h
      · rw [List.getElem?_eq_none (by omega)] at hb; cases hb
    refine ⟨rfl, xs[i], by simp [Instr.extract, this], hc i _ _ (List.getElem?_eq_getElem this) hb⟩
theorem s_pick {x y z a b c r} (R1 : Rep fid w W M x a) (R2 : Rep fid w W M y b) (R3 : Rep fid w W M z c) {hp0 hp' : Hp} (hp : prim hp0 .pick [a, b, c] = some (r, hp')) :
    hp' = hp0 ∧ ∃ v, (do pure (Next.value (if ← asBool x then y else z)) : Sem Next).run P w = .ok (.value v) w ∧ Rep fid w W M v r := by
  cases a <;> first | (simp only [prim, reduceCtorEq] at hp; done) | skip
  have := R1.v_inv; subst this
  cases x <;> first | (simp only [prim, reduceCtorEq] at hp; done) | skip
  simp only [prim] at hp
  cases hp
  rename_i t
  refine ⟨rfl, if t then y else z, by simp [asBool], ?_⟩
  cases t
  · exact R3
  · exact R2
theorem sees_sound {base w0 μ} {h : Hp} (S : Sim fid base w0 w μ h.get) {x a n cs} (R : Rep fid w (Wr μ h.get) (info μ h.get) x a) (hl : lenOf a = some n) (hs : h.sees a = some cs) :
    ∃ ad C us, x = .slice ad n C ∧ us.length = cs.length ∧ Reps fid w (Wr μ h.get) (info μ h.get) us cs ∧ (∀ u ∈ us, u.oneCell' = true) ∧
      (∀ b, ad = some b → b.spot = none ∨ us = []) ∧ (∀ b, ad = some b → ∀ i u, us[i]? = some u → w.cell? (b.add i) = some u) ∧ (ad = none → us = []) := by
  cases a with
  | v y =>
    have := R.v_inv; subst this
    cases x with
    | slice ad l c =>
      cases ad with
      | none =>
        cases l <;> cases c <;> simp only [Hp.sees, lenOf, reduceCtorEq, Option.some.injEq] at hs hl
        subst hs; subst hl
        exact ⟨none, 0, [], rfl, rfl, .nil, by simp, by simp, by simp, by simp⟩
      | some ad => simp [lenOf] at hl
    | _ => simp [lenOf] at hl
  | ro nl esz len cells =>
    simp only [lenOf, Option.some.injEq] at hl; subst hl
    simp only [Hp.sees, Option.some.injEq] at hs; subst hs
    cases R with
    | ro us hlen hlf hro hcs =>
      cases nl with
      | true =>
        obtain ⟨rfl, h0⟩ := hro.1 rfl; subst h0
        have hc : cells = [] := by cases cells with | nil => rfl | cons => simp at hlen
        subst hc
        exact ⟨none, 0, [], rfl, rfl, .nil, by simp, by simp, by simp, by simp⟩
      | false =>
        obtain ⟨ad, C, rfl, hle, hrow⟩ := hro.2 rfl
        rcases hrow with h0 | ⟨h1, h2, h3⟩
        · have hc : cells = [] := List.eq_nil_of_length_eq_zero h0
          subst hc
          exact ⟨some ad, C, [], rfl, rfl, .nil, by simp, fun _ _ => .inr rfl, by simp, by simp⟩
        · obtain ⟨b, o, sp⟩ := ad
          simp only at h1 h2 h3
          subst h1
          refine ⟨some ⟨b, o, none⟩, C, (List.range cells.length).map us, rfl, by simp, ⟨by simp, fun i x a hx ha => ?_⟩, fun u hu => ?_, fun b' hb' => (by cases hb'; exact .inl rfl),
            fun b' hb' i u hu => ?_, fun h => by cases h⟩
          · rw [List.getElem?_map] at hx
            obtain ⟨j, hj, rfl⟩ := Option.map_eq_some_iff.1 hx
            obtain ⟨hlt, rfl⟩ := range_some hj
            exact hcs j a ha
          · obtain ⟨j, hj, rfl⟩ := List.mem_map.1 hu
            exact (h3 j (List.mem_range.1 hj)).2
          · cases hb'
            rw [List.getElem?_map] at hu
            obtain ⟨j, hj, rfl⟩ := Option.map_eq_some_iff.1 hu
            obtain ⟨hlt, rfl⟩ := range_some hj
            rw [add_off]
            exact (h3 j hlt).1
  | own ℓ k off len esz cap =>
    simp only [lenOf, Option.some.injEq] at hl; subst hl
    simp only [Hp.sees] at hs
    cases hb : h.get ℓ with
    | none => simp [hb] at hs
    | some B =>
      simp only [hb] at hs
      split at hs <;> cases hs
      rename_i hk
      have ok := R.own_inv S hb hk
      unfold OwnOK at ok
      split at ok
      · rename_i hv
        obtain ⟨rfl, rfl, rfl⟩ := ok
        refine ⟨none, 0, [], rfl, by simp, ?_, by simp, by simp, by simp, by simp⟩
        simp only [Nat.zero_mul, List.take_zero]
        exact .nil
      · rename_i hv
        obtain ⟨a2, C2, rfl, g2, g3, g4, g5, g6, g7⟩ := ok
        simp only at hv g3 g4 g5 g6 g7
        obtain ⟨us, hl, hcell, h1, RR⟩ := cells_at S hb (by simpa using hv) g7
        refine ⟨some a2, C2, us, rfl, by rw [RR.1], RR, h1, fun b hb' => ?_, fun b hb' i u hu => ?_, fun h => by cases h⟩
        · cases hb'
          rcases g3 with g3 | rfl
          · right
            have : len = 0 := by omega
            subst this
            exact List.eq_nil_of_length_eq_zero (by rw [hl]; simp)
          · exact .inl rfl
        · cases hb'
          rcases g3 with g3 | rfl
          · have : len = 0 := by omega
            subst this
            have : us = [] := List.eq_nil_of_length_eq_zero (by rw [hl]; simp)
            subst this
            simp at hu
          · rw [add_off]; exact hcell i u hu
  | _ => simp [lenOf] at hl
end
end Go.AM
namespace Go.AM
theorem bind_map {α β γ : Type} (o : Option α) (f : α → Option β) (f2 : α → Option γ) (g : β → γ) (h : ∀ a, f2 a = (f a).map g) : o.bind f2 = (o.bind f).map g := by
  cases o with
  | none => rfl
  | some a => exact h a
theorem free_prim {h h' : Hp} {p : Prim} {xs : List AV} {r : AV} (hf : p.free = true) (hp : prim h p xs = some (r, h')) : h' = h ∧ ∀ h'', prim h'' p xs = some (r, h'') := by
  have key : ∀ h'', prim h'' p xs = (prim h p xs).map fun q => (q.1, h'') := by
    intro h''
    cases p <;> simp only [Prim.free, Bool.false_eq_true] at hf <;> simp only [prim]
    all_goals try (split <;> first | rfl | skip)
    all_goals try (simp only [Option.map_map]; rfl)
    all_goals try (split <;> first | rfl | (simp only [Option.map_map]; rfl) | skip)
    all_goals
      refine bind_map _ _ _ _ fun q => ?_
      first
        | (simp only [Option.map_map]; rfl)
        | (split <;> first | rfl | (simp only [Option.map_map]; rfl))
  have h1 := key h
  rw [hp] at h1
  simp only [Option.map_some, Option.some.injEq, Prod.mk.injEq, true_and] at h1
  exact ⟨h1, fun h'' => by rw [key, hp]; rfl⟩
theorem loadAt_load {h : Hp} {site sz agg xs} {q} (hp : prim h (.loadAt site sz agg) xs = some q) : prim h (.load sz agg) xs = some q := by
  simp only [prim] at hp ⊢
  split at hp <;> first | (cases hp; done) | skip
  split at hp <;> first | (cases hp; done) | skip
  exact hp
theorem home_prim {h h' : Hp} {p : Prim} {xs : List AV} {r : AV} {k : Nat} (hf : p.home = some k) (hp : prim h p xs = some (r, h')) :
    h' = h ∧ ∀ h'' : Hp, h''.L[k]? = h.L[k]? → prim h'' p xs = some (r, h'') := by
  cases p <;> simp only [Prim.home, reduceCtorEq, Option.some.injEq] at hf
  subst hf
  simp only [prim] at hp ⊢
  split at hp <;> first | (cases hp; done) | skip
  rename_i j n off
  split at hp <;> first | (cases hp; done) | skip
  rename_i hj
  subst hj
  cases hg : h.get (.l j) with
  | none => rw [hg] at hp; cases hp
  | some B =>
    rw [hg] at hp
    simp only at hp
    split at hp <;> first | (cases hp; done) | skip
    rename_i hc
    obtain ⟨a, ha, e⟩ := Option.map_eq_some_iff.1 hp
    cases e
    refine ⟨rfl, fun h'' e => ?_⟩
    have : h''.get (.l j) = some B := by rw [← hg]; simp only [Hp.get, e]
    simp only [if_true, this, if_pos hc, ha, Option.map_some]
theorem home_free {p : Prim} {k : Nat} (hf : p.home = some k) : p.free = false := by
  cases p <;> simp only [Prim.home, reduceCtorEq] at hf
  rfl
end Go.AM
