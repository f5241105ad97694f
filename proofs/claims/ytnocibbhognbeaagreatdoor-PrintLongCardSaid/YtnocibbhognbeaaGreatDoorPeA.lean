/- A run on values, and its soundness. No statement is proved here. -/
import Derived.Test.YtnocibbhognbeaaGreatDoorEvD
set_option linter.unusedSimpArgs false
set_option linter.unusedVariables false
namespace Go.PE
open Go Go.EvL
/-- the package variables that lie as the text of the program lays them, where a call wants them -/
noncomputable def opsL : List Value := [.string ⟨#[]⟩, .string ⟨#[60]⟩, .string ⟨#[62]⟩, .string ⟨#[62, 62]⟩, .string ⟨#[60, 38]⟩, .string ⟨#[62, 38]⟩, .string ⟨#[60, 62]⟩, .string ⟨#[62, 124]⟩, .string ⟨#[60, 60]⟩]
noncomputable def laidsP : List Laid := [⟨0, opsL, 76⟩]
end Go.PE
namespace Go.PE
open Go Go.EvL
inductive PV where
  | sc (v : Value)
  | agg (cs : List PV)
  | tup (vs : List PV)
  | lit (e n : Nat) (cs : List PV)
  | litp (cs : List PV)
  | litx (e n : Nat) (cs : List PV)
  | own (k off n fin : Nat)
  | ptr (k off fin : Nat)
  | fn (g : Nat) (first cap : List PV)
  | ownx (k off n fin : Nat)
instance : Inhabited PV := ⟨.sc undef⟩
/-- a value of one cell without memory -/
noncomputable def sok (v : Value) : Bool := match v with
  | .agg _ => false
  | v => plain 50 v
structure Blk where
  cells : List PV
  low : Nat
  e : Nat
/-- blocks; what was written since the call began has numbers from w on -/
structure PS where
  h : Nat → Blk
  n : Nat
  w : Nat
def PS.put (s : PS) (k : Nat) (b : Blk) : PS := ⟨fun j => if j = k then b else s.h j, s.n, min s.w k⟩
def PS.new (s : PS) (b : Blk) : PS := ⟨fun j => if j = s.n then b else s.h j, s.n + 1, s.w⟩
/-- what an operation looks at: blocks read and written, slices that came in, a call -/
structure Eff where
  rd : List Nat
  wr : List Nat
  li : Bool
  ca : Bool
abbrev PFr := Nat → PV
def PFr.set (f : PFr) (d : Nat) (v : PV) : PFr := fun j => if j = d then v else f j
def setD (f : PFr) (d : Option Nat) (v : PV) : PFr := match d with
  | some d => PFr.set f d v
  | none => f
inductive POp where
  | mv (x : Operand)
  | pick (c a b : Operand)
  | alloc (e : Nat) (z : Value)
  | box (e : Nat) (x : Operand)
  | build (z : List Value) (ps : List (Nat × Nat × Operand))
  | bslice (e len : Nat) (z : List Value) (ps : List (Nat × Nat × Operand))
  | load (t : Nat) (ag : Bool) (sz : Nat) (x : Operand)
  | store (t sz : Nat) (x y : Operand)
  | faddr (off : Nat) (x : Operand)
  | fld (ag : Bool) (off sz : Nat) (x : Operand)
  | iaddr (es : Nat) (x i : Operand)
  | sidx (x i : Operand)
  | bin (op : BinOp) (t : Nat) (x y : Operand)
  | un (op : UnOp) (x : Operand)
  | len (str : Bool) (x : Operand)
  | app (e es bytes : Nat) (x y : Operand)
  | slc (e es : Nat) (x : Operand) (lo hi : Option Operand)
  | slc3 (e es : Nat) (x hi mx : Operand)
  | sslc (x : Operand) (lo hi : Option Operand)
  | mkfn (g : Nat) (first cap : List Operand)
  | ext (x : Operand) (i : Nat)
  | conv (k : IntKind) (x : Operand)
  | call (f : Operand) (args : List Operand)
  | mnx (mx : Bool) (x y : Operand)
  | nck (x : Operand)
  | mks (e es bytes : Nat) (z : List Value) (l c : Operand)
  | cpy (es : Nat) (x y : Operand)
  | peq (ne : Bool) (t : Nat) (x y : Operand)
  | inq (ne : Bool) (t : Nat) (x : Operand)
  | bts (x : Operand)
  | apps (e : Nat) (x y : Operand)
  | toU (x : Operand)
  | frU (u n : Nat) (x : Operand)
  | sdata (x : Operand)
  | ustr (e : Nat) (x y : Operand)
  | pcl (g : Nat) (args : List Operand)
  | mkif (t : Nat) (x : Operand)
  | asr (t : Nat) (z : Value) (x : Operand)
  | pan (x : Operand)
  | bad
structure PI where
  dst : Option Nat
  op : POp
  gd : Option (Nat × Bool)
inductive PCode where
  | skip
  | reg (l : List PI)
  | draw (l : List (PI × List Nat × List Nat))
  | seq (a b : PCode)
  | cond (c : Operand) (a b : PCode)
  | block (id : Nat) (b : PCode)
  | loop (b : PCode)
  | exit (id : Nat)
  | ret
  | bad
def pvOf (v : Value) : PV := match v with
  | .agg cs => .agg (cs.toList.map .sc)
  | .func (.func g) _ _ => .fn g [] []
  | v => .sc v
def pval (f : PFr) (x : Operand) : PV := match x with
  | .tmp t => f t
  | .const v => pvOf v
  | .func g => .fn g [] []
  | .global _ => .sc undef
def cellsP (p : PV) : List PV := match p with
  | .agg cs => cs
  | p => [p]
noncomputable def oneP (p : PV) : Bool := match p with
  | .sc v => oneC v
  | .agg _ | .tup _ => false
  | _ => true
/-- nothing in it leads to memory that the run makes -/
def clean1 (p : PV) : Bool := match p with
  | .sc _ | .lit .. | .litp .. | .litx .. => true
  | .fn _ a b => a.isEmpty && b.isEmpty
  | _ => false
def natP (p : PV) : Option Nat := match p with
  | .sc (.int _ z) => if 0 ≤ z then some z.toNat else none
  | _ => none
def ldP (s : PS) (p : PV) (sz : Nat) : Option (List PV) := match p with
  | .ptr k off fin => if off + sz ≤ fin ∧ (s.h k).low ≤ fin ∧ fin ≤ (s.h k).cells.length then some (((s.h k).cells.drop off).take sz) else none
  | .litp cs => if sz ≤ cs.length then some (cs.take sz) else none
  | _ => none
def ofCells (ag : Bool) (cs : List PV) : Option PV := if ag then some (.agg cs) else match cs with
  | [p] => some p
  | _ => none
noncomputable def stP (s : PS) (p : PV) (ys : List PV) : Option PS := match p with
  | .ptr k off fin => if off + ys.length ≤ fin ∧ fin = (s.h k).cells.length ∧ ys.all oneP = true then
      some (s.put k ⟨(s.h k).cells.take off ++ (ys ++ (s.h k).cells.drop (off + ys.length)), fin, (s.h k).e⟩) else none
  | _ => none
def scalar (v : Value) : Bool := match v with
  | .int _ _ | .string _ | .bool _ => true
  | _ => false
/-- cells that are numbers, strings and truth values -/
def scs : List PV → Option (List Value)
  | [] => some []
  | .sc v :: l => if scalar v then (scs l).map (v :: ·) else none
  | _ => none
noncomputable def binV (P : Program) (op : BinOp) (t : Nat) (x y : Operand) (a b : Value) : Option Value :=
  pureRun P (do eqGuard op t x y a b; binOp op t a b : Sem Value)
noncomputable def binP (P : Program) (op : BinOp) (t : Nat) (x y : Operand) (a b : PV) : Option PV := match a, b with
  | .sc v, .sc w => if scalar v && scalar w then (match binV P op t x y v w with
    | some u => if scalar u then some (.sc u) else none
    | none => none) else none
  | .agg cs, .agg ds => match scs cs, scs ds with
    | some v, some w => match binV P op t x y (.agg v.toArray) (.agg w.toArray) with
      | some u => if scalar u then some (.sc u) else none
      | none => none
    | _, _ => none
  | _, _ => none
noncomputable def unP (P : Program) (op : UnOp) (a : PV) : Option PV := match a with
  | .sc v => if scalar v then (match pureRun P (Op.unary op v) with
    | some u => if scalar u then some (.sc u) else none
    | none => none) else none
  | _ => none
def lenP (str : Bool) (p : PV) : Option PV := match str, p with
  | false, .sc (.slice none 0 0) => some (.sc (.int .i64 0))
  | true, .sc (.string s) => some (.sc (.int .i64 (s.data.toList.length : Int)))
  | false, .lit _ n _ => some (.sc (.int .i64 (n : Int)))
  | false, .litx _ n _ => some (.sc (.int .i64 (n : Int)))
  | false, .own _ _ n _ => some (.sc (.int .i64 (n : Int)))
  | false, .ownx _ _ n _ => some (.sc (.int .i64 (n : Int)))
  | _, _ => none
/-- the cells of a slice, and how many elements -/
def elemsP (s : PS) (es : Nat) (p : PV) : Option (List PV × Nat) := match p with
  | .sc (.slice none 0 0) => some ([], 0)
  | .lit _ n cs => if cs.length = n * es then some (cs, n) else none
  | .own k off n fin => if off + n * es = fin ∧ (s.h k).low ≤ fin ∧ fin ≤ (s.h k).cells.length then some (((s.h k).cells.drop off).take (n * es), n) else none
  | _ => none
def roomP (es bytes len n : Nat) (xs : List PV) : Prop := es ≠ 0 ∧ xs.length = n * es ∧ (len + n) * bytes ≤ 140737488355328 ∧ len + n ≤ 1073741824 ∧ xs.all oneP = true
noncomputable instance (es bytes len n : Nat) (xs : List PV) : Decidable (roomP es bytes len n xs) := by unfold roomP; infer_instance
def isSl (x : PV) : Bool := match x with
  | .sc (.slice none 0 0) | .lit .. | .own .. | .litx .. | .ownx .. => true
  | _ => false
noncomputable def appP (s : PS) (e es bytes : Nat) (x : PV) (ys : List PV) (n : Nat) : Option (PV × PS) :=
  if n = 0 then (if isSl x then some (x, s) else none) else
  match x with
  | .sc (.slice none 0 0) => if roomP es bytes 0 n ys then some (.own s.n 0 n ys.length, s.new ⟨ys, 0, e⟩) else none
  | .own k off m fin => if roomP es bytes m n ys ∧ off + m * es = fin ∧ fin = (s.h k).cells.length ∧ (s.h k).low ≤ fin ∧ off = 0 ∧ (s.h k).e = e then
      some (.own k off (m + n) (fin + ys.length), s.put k ⟨(s.h k).cells ++ ys, (s.h k).low, e⟩) else none
  | .litx _ m cs => if roomP es bytes m n ys ∧ cs.length = m * es then some (.own s.n 0 (m + n) (cs ++ ys).length, s.new ⟨cs ++ ys, 0, e⟩) else none
  | _ => none
def optP (f : PFr) (x : Option Operand) (d : Nat) : Option Nat := match x with
  | none => some d
  | some x => natP (pval f x)
def slcP (s : PS) (e es : Nat) (p : PV) (l h : Nat) : Option PV := match p with
  | .lit e' n cs => if l ≤ h ∧ h ≤ n ∧ cs.length = n * es ∧ e' = e then some (.lit e (h - l) ((cs.drop (l * es)).take ((h - l) * es))) else none
  | .own k off n fin => if l ≤ h ∧ h ≤ n ∧ off + n * es = fin ∧ (s.h k).low ≤ fin ∧ (s.h k).e = e then some (.own k (off + l * es) (h - l) (off + h * es)) else none
  | _ => none
def sslcP (p : PV) (l h : Nat) : Option PV := match p with
  | .sc (.string s) => if l ≤ h ∧ h ≤ s.data.toList.length then some (.sc (.string ⟨⟨(s.data.toList.drop l).take (h - l)⟩⟩)) else none
  | _ => none
def hiOf (p : PV) : Nat := match p with
  | .lit _ n _ => n
  | .own _ _ n _ => n
  | .sc (.string s) => s.data.toList.length
  | _ => 0
def fillP (f : PFr) (z : List PV) : List (Nat × Nat × Operand) → Option (List PV)
  | [] => some z
  | (off, sz, x) :: l => if (cellsP (pval f x)).length = sz ∧ off + sz ≤ z.length then fillP f (z.take off ++ (cellsP (pval f x) ++ z.drop (off + sz))) l else none
def convP (k : IntKind) (p : PV) : Option PV := match p with
  | .sc (.int _ z) => some (.sc (.int k (k.wrap z)))
  | _ => none
def asBool (p : PV) : Option Bool := match p with
  | .sc (.bool b) => some b
  | _ => none
def mnxI (mx : Bool) (a b : Int) : Int := if mx then (if b > a then b else a) else (if b < a then b else a)
/-- the cells of n new elements -/
def madeP (z : List Value) (es n : Nat) : List PV := (List.range (n * es)).map fun k => .sc (z.getD (k % es) undef)
def bytesP : List PV → Option (List UInt8)
  | [] => some []
  | .sc (.int .u8 n) :: l => (bytesP l).map (UInt8.ofNat n.toNat :: ·)
  | _ => none
def bytePV (l : List UInt8) : List PV := l.map fun c => .sc (.int .u8 (c.toNat : Int))
/-- a call of a function without a body -/
noncomputable def pclP (P : Program) (g : Nat) (vs : List PV) : Option PV := match scs vs with
  | some l => match pureRun P (callFunc g l.toArray) with
    | some (.value u) => if scalar u then some (.sc u) else none
    | _ => none
  | none => none
def ifP (t : Nat) (p : PV) : Option Value := match p with
  | .sc v => if scalar v then some (.iface t v) else none
  | .agg cs => (scs cs).map fun vs => .iface t (.agg vs.toArray)
  | _ => none
/-- what lies in an interface -/
def inP (v : Value) : Bool := match v with
  | .agg cs => cs.toList.all scalar
  | v => scalar v
def asrP (t : Nat) (z : Value) (p : PV) : Option PV := match p with
  | .sc (.iface t' v) => if inP v then some (.tup [if t' = t then pvOf v else pvOf z, .sc (.bool (t' == t))]) else none
  | _ => none
def peqP (s : PS) (x y : PV) : Option Bool := match x, y with
  | .ptr _ _ _, .sc (.pointer none) => some false
  | .ptr k o fin, .ptr k' o' fin' => if k = k' ∧ fin = (s.h k).cells.length ∧ fin' = fin then some (o == o') else none
  | .sc (.pointer none), .sc (.pointer none) => some true
  | _, _ => none
def inqP (x : PV) : Option Bool := match x with
  | .sc (.iface _ _) => some false
  | .sc .nilIface => some true
  | _ => none
noncomputable def ustrP (s : PS) (e : Nat) (x y : PV) : Option (PV × PS) := match x, y with
  | .ptr k o fin, .sc (.int .i64 z) => if (s.h k).low ≤ fin ∧ fin ≤ (s.h k).cells.length ∧ 0 < z ∧ o + z.toNat ≤ fin ∧ z.toNat ≤ 1073741824 ∧ (s.h k).e = e then
      (bytesP (((s.h k).cells.drop o).take z.toNat)).map fun l => (.sc (.string ⟨⟨l⟩⟩), s.put k ⟨(s.h k).cells ++ [.sc undef], (s.h k).cells.length + 2, e⟩) else none
  | .sc (.pointer none), .sc (.int .i64 0) => some (.sc (.string ⟨#[]⟩), s)
  | _, _ => none
def toUP (s : PS) (p : PV) : Option PV := match p with
  | .ptr k o fin => if (s.h k).low ≤ fin ∧ o < fin ∧ fin ≤ (s.h k).cells.length then some (.ptr k o fin) else none
  | _ => none
noncomputable def frUP (P : Program) (s : PS) (u n : Nat) (p : PV) : Option PV := match p with
  | .ptr k o fin => if (s.h k).low ≤ fin ∧ o < fin ∧ fin = (s.h k).cells.length ∧ fromOk P (s.h k).e u o n fin = true then some (.ptr k o fin) else none
  | _ => none
def sdataP (p : PV) : Option PV := match p with
  | .own k off (_ + 1) fin => some (.ptr k off fin)
  | .sc (.slice none 0 0) => some (.sc (.pointer none))
  | _ => none
noncomputable def opP (P : Program) (f : PFr) (s : PS) (o : POp) : Option (PV × PS) := match o with
  | .mv x => some (pval f x, s)
  | .pick c a b => match asBool (pval f c) with
    | some true => some (pval f a, s)
    | some false => some (pval f b, s)
    | none => none
  | .alloc e z => some (.ptr s.n 0 (cellsP (pvOf z)).length, s.new ⟨cellsP (pvOf z), 0, e⟩)
  | .box e x => some (.ptr s.n 0 (cellsP (pval f x)).length, s.new ⟨cellsP (pval f x), 0, e⟩)
  | .build z ps => (fillP f (z.map .sc) ps).map fun cs => (.agg cs, s)
  | .bslice e n z ps => (fillP f (z.map .sc) ps).map fun cs => (.own s.n 0 n cs.length, s.new ⟨cs, 0, e⟩)
  | .load _ ag sz x => (ldP s (pval f x) sz).bind fun cs => (ofCells ag cs).map fun v => (v, s)
  | .store _ sz x y => if (cellsP (pval f y)).length = sz then (stP s (pval f x) (cellsP (pval f y))).map fun s => (.sc undef, s) else none
  | .faddr off x => match pval f x with
    | .ptr k o fin => some (.ptr k (o + off) fin, s)
    | .litp cs => if off ≤ cs.length then some (.litp (cs.drop off), s) else none
    | _ => none
  | .fld ag off sz x => match pval f x with
    | .agg cs => if off + sz ≤ cs.length then (ofCells ag ((cs.drop off).take sz)).map fun v => (v, s) else none
    | _ => none
  | .iaddr es x i => match pval f x, natP (pval f i) with
    | .own k off n fin, some j => if j < n ∧ off + n * es = fin then some (.ptr k (off + j * es) fin, s) else none
    | .lit _ n cs, some j => if j < n ∧ cs.length = n * es then some (.litp (cs.drop (j * es)), s) else none
    | .litx _ n cs, some j => if j < n ∧ cs.length = n * es then some (.litp (cs.drop (j * es)), s) else none
    | .ownx k off n fin, some j => if j < n ∧ off + n * es = fin then some (.ptr k (off + j * es) fin, s) else none
    | _, _ => none
  | .sidx x i => match pval f x, natP (pval f i) with
    | .sc (.string b), some j => if j < b.data.toList.length then some (.sc (.int .u8 ((b.data.toList.getD j 0).toNat : Int)), s) else none
    | _, _ => none
  | .bin op t x y => (binP P op t x y (pval f x) (pval f y)).map fun v => (v, s)
  | .un op x => (unP P op (pval f x)).map fun v => (v, s)
  | .len str x => (lenP str (pval f x)).map fun v => (v, s)
  | .app e es bytes x y => (elemsP s es (pval f y)).bind fun q => appP s e es bytes (pval f x) q.1 q.2
  | .slc e es x lo hi => match optP f lo 0, optP f hi (hiOf (pval f x)) with
    | some l, some h => (slcP s e es (pval f x) l h).map fun v => (v, s)
    | _, _ => none
  | .slc3 e es x hi mx => match pval f x, natP (pval f hi), natP (pval f mx) with
    | .lit e' n cs, some h, some m => if h = m ∧ h ≤ n ∧ cs.length = n * es ∧ e' = e then some (.litx e h (cs.take (h * es)), s) else none
    | .sc (.slice none 0 0), some 0, some 0 => some (.sc (.slice none 0 0), s)
    | .own k off n fin, some h, some m => if h = m ∧ h ≤ n ∧ off + n * es = fin ∧ (s.h k).low ≤ fin ∧ (s.h k).e = e then some (.ownx k off h (off + h * es), s) else none
    | _, _, _ => none
  | .sslc x lo hi => match optP f lo 0, optP f hi (hiOf (pval f x)) with
    | some l, some h => (sslcP (pval f x) l h).map fun v => (v, s)
    | _, _ => none
  | .mkfn g a b => some (.fn g (a.map (pval f)) (b.map (pval f)), s)
  | .ext x i => match pval f x with
    | .tup vs => (vs[i]?).map fun v => (v, s)
    | _ => none
  | .conv k x => (convP k (pval f x)).map fun v => (v, s)
  | .call _ _ => none
  | .mnx mx x y => match pval f x, pval f y with
    | .sc (.int k a), .sc (.int _ b) => some (.sc (.int k (mnxI mx a b)), s)
    | _, _ => none
  | .nck x => match pval f x with
    | .ptr k o fin => some (.ptr k o fin, s)
    | .litp cs => some (.litp cs, s)
    | _ => none
  | .mks e es by' z l c => match natP (pval f l), natP (pval f c) with
    | some l, some c => if l = c ∧ by' * l ≤ 281474976710656 ∧ l ≤ 1073741824 then some (.own s.n 0 l (madeP z es l).length, s.new ⟨madeP z es l, 0, e⟩) else none
    | _, _ => none
  | .cpy es x y => (elemsP s es (pval f y)).bind fun q => match pval f x with
    | .own k off m fin => if q.2 = 0 then some (.sc (.int .i64 0), s) else if q.2 ≤ m ∧ q.1.length = q.2 * es then (stP s (.ptr k off fin) q.1).map fun s => (.sc (.int .i64 (q.2 : Int)), s) else none
    | .sc (.slice none 0 0) => if q.2 = 0 then some (.sc (.int .i64 0), s) else none
    | _ => none
  | .peq ne _ x y => (peqP s (pval f x) (pval f y)).map fun b => (.sc (.bool (b != ne)), s)
  | .inq ne _ x => (inqP (pval f x)).map fun b => (.sc (.bool (b != ne)), s)
  | .bts x => (elemsP s 1 (pval f x)).bind fun q => (bytesP q.1).map fun l => (.sc (.string ⟨⟨l⟩⟩), s)
  | .apps e x y => match pval f y with
    | .sc (.string b) => appP s e 1 1 (pval f x) (bytePV b.data.toList) b.data.toList.length
    | _ => none
  | .toU x => (toUP s (pval f x)).map fun v => (v, s)
  | .frU u n x => (frUP P s u n (pval f x)).map fun v => (v, s)
  | .sdata x => (sdataP (pval f x)).map fun v => (v, s)
  | .ustr e x y => ustrP s e (pval f x) (pval f y)
  | .pcl g args => (pclP P g (args.map (pval f))).map fun v => (v, s)
  | .mkif t x => (ifP t (pval f x)).map fun v => (.sc v, s)
  | .asr t z x => (asrP t z (pval f x)).map fun v => (v, s)
  | .pan _ => none
  | .bad => none
def effA (p : PV) : Eff := match p with
  | .ptr k _ _ => ⟨[k], [], false, false⟩
  | .own k _ _ _ => ⟨[k], [], false, false⟩
  | .litp _ => ⟨[], [], true, false⟩
  | .lit .. => ⟨[], [], true, false⟩
  | .litx .. => ⟨[], [], true, false⟩
  | _ => ⟨[], [], false, false⟩
def effO (f : PFr) (o : POp) : Eff := match o with
  | .load _ _ _ x => effA (pval f x)
  | .store _ _ x _ => match pval f x with
    | .ptr k _ _ => ⟨[k], [k], false, false⟩
    | _ => ⟨[], [], false, false⟩
  | .slc _ _ x _ _ => effA (pval f x)
  | .slc3 _ _ x _ _ => effA (pval f x)
  | .app _ _ _ x y => match pval f x with
    | .own k _ _ _ => ⟨k :: (effA (pval f y)).rd, [k], (effA (pval f y)).li, false⟩
    | .litx .. => ⟨(effA (pval f y)).rd, [], true, false⟩
    | _ => effA (pval f y)
  | .call _ _ => ⟨[], [], false, true⟩
  | .cpy _ x y => match pval f x with
    | .own k _ _ _ => ⟨k :: (effA (pval f y)).rd, [k], (effA (pval f y)).li, false⟩
    | _ => effA (pval f y)
  | .bts x => effA (pval f x)
  | .apps _ x _ => match pval f x with
    | .own k _ _ _ => ⟨[k], [k], false, false⟩
    | .litx .. => ⟨[], [], true, false⟩
    | _ => ⟨[], [], false, false⟩
  | .toU x => effA (pval f x)
  | .frU _ _ x => effA (pval f x)
  | .ustr _ x _ => match pval f x with
    | .ptr k _ _ => ⟨[k], [k], false, false⟩
    | _ => ⟨[], [], false, false⟩
  | _ => ⟨[], [], false, false⟩
end Go.PE
namespace Go.PE
open Go Go.EvL
noncomputable def okX (x : Operand) : Bool := match x with
  | .tmp _ => true
  | .const (.agg cs) => plain 50 (.agg cs) && cs.toList.all sok
  | .const (.func (.func _) a b) => a.toList.isEmpty && b.toList.isEmpty
  | .const v => plain 50 v
  | .func _ => true
  | .global _ => false
noncomputable def okZ (z : Value) : Bool := match z with
  | .agg cs => cs.toList.all sok
  | .func _ _ _ => false
  | v => sok v
noncomputable def partsP (g : Nat → Option (Nat × Nat)) : List (Nat × Operand) → Option (List (Nat × Nat × Operand))
  | [] => some []
  | (i, x) :: l => match g i, okX x, partsP g l with
    | some (off, sz), true, some r => some ((off, sz, x) :: r)
    | _, _, _ => none
noncomputable def optX (x : Option Operand) : Bool := match x with
  | none => true
  | some x => okX x
noncomputable def gd (b : Bool) (o : POp) : Option POp := if b then some o else none
noncomputable def appsOk (i : TypeInfo) (z : Value) : Bool := Nat.beq z.cells.size i.size && (Nat.beq i.size 1 && Nat.beq i.bytes 1)
/-- a function without a body: which kind -/
noncomputable def noBody (P : Program) (x : Operand) : Option Bool := match x with
  | .func g => match P.funcs[g]? with
    | some fn => match fn.body with
      | some _ => none
      | none => some (fn.name == "internal/abi.NoEscape")
    | none => none
  | _ => none
noncomputable def compBodyless (x : Operand) (ne : Bool) (args : List Operand) : Option POp := match ne, x, args with
  | true, _, [a] => gd (okX a) (.mv a)
  | false, .func g, args => gd (args.all okX) (.pcl g args)
  | _, _, _ => none
def eqOp (o : BinOp) : Option Bool := match o with
  | .eql => some false
  | .neq => some true
  | _ => none
noncomputable def compBuiltin (P : Program) (b : Builtin) (args : List Operand) (tys : List TypeId) : Option POp := match b, args, tys with
  | .len, [x], [t] => match P.underlying t with
    | some (.slice _) => gd (okX x) (.len false x)
    | some .string => gd (okX x) (.len true x)
    | _ => none
  | .append, [x, y], [t, u] => match P.underlying t, P.underlying u with
    | some (.slice e), some (.slice _) => match P.info? e with
      | some i => match i.zero with
        | some z => gd (okX x && okX y && Nat.beq z.cells.size i.size) (.app e i.size i.bytes x y)
        | none => none
      | none => none
    | some (.slice e), some .string => match P.info? e with
      | some i => match i.zero with
        | some z => gd (okX x && okX y && appsOk i z) (.apps e x y)
        | none => none
      | none => none
    | _, _ => none
  | .unsafeSliceData, [x], _ => gd (okX x) (.sdata x)
  | .unsafeString, [x, y], [t, _] => match P.underlying t with
    | some (.pointer e) => match szOf P e with
      | some 1 => gd (okX x && okX y) (.ustr e x y)
      | _ => none
    | _ => none
  | .max, [x, y], _ => gd (okX x && okX y) (.mnx true x y)
  | .min, [x, y], _ => gd (okX x && okX y) (.mnx false x y)
  | .copy, [x, y], [t, u] => match P.underlying t, P.underlying u with
    | some (.slice e), some (.slice _) => match szOf P e with
      | some n => gd (okX x && okX y) (.cpy n x y)
      | none => none
    | _, _ => none
  | _, _, _ => none
noncomputable def compOp (P : Program) (o : Op) : Option POp := match o with
  | .move x => gd (okX x) (.mv x)
  | .assign x => gd (okX x) (.mv x)
  | .pick c a b => gd (okX c && okX a && okX b) (.pick c a b)
  | .alloc e => match zeroOf P e with
    | some z => gd (okZ z) (.alloc e z)
    | none => none
  | .box e x => gd (okX x) (.box e x)
  | .build t ps => match zeroOf P t, P.underlying t with
    | some z, some (.struct fs) => match partsP (fun i => (fs[i]?).bind fun fl => (szOf P fl.type).map fun n => (fl.offset, n)) ps.toList with
      | some l => gd (Nat.ble (Nat.succ t) P.types.size && okZ z) (.build z.cells.toList l)
      | none => none
    | _, _ => none
  | .buildSlice t len ps => match P.underlying t with
    | some (.slice e) => match zeroOf P e, szOf P e with
      | some z, some n => match partsP (fun i => some (i * n, n)) ps.toList with
        | some l => gd (Nat.ble (Nat.mul len n) 1048576 && Nat.beq z.cells.toList.length n && okZ z) (.bslice e len (List.replicate len z.cells.toList).flatten l)
        | none => none
      | _, _ => none
    | _ => none
  | .load t a => match P.underlying t with
    | some d => if isAggD (some d) then (match szOf P t with
      | some n => gd (okX a) (.load t true n a)
      | none => none) else gd (okX a) (.load t false 1 a)
    | none => none
  | .store t a x => match szOf P t with
    | some n => gd (okX a && okX x) (.store t n a x)
    | none => none
  | .fieldAddr t x i => match fieldsOf P t with
    | some fs => match fs[i]? with
      | some fl => match szOf P fl.type with
        | some (_ + 1) => gd (okX x) (.faddr fl.offset x)
        | _ => none
      | none => none
    | none => none
  | .field t x i => match fieldsOf P t with
    | some fs => match fs[i]? with
      | some fl => match P.underlying fl.type with
        | some d => if isAggD (some d) then (match szOf P fl.type with
          | some n => gd (okX x) (.fld true fl.offset n x)
          | none => none) else gd (okX x) (.fld false fl.offset 1 x)
        | none => none
      | none => none
    | none => none
  | .indexAddr t x i => match P.underlying t with
    | some (.slice e) => match szOf P e with
      | some n => gd (okX x && okX i) (.iaddr n x i)
      | none => none
    | _ => none
  | .index t x i => match P.underlying t with
    | some .string => gd (okX x && okX i) (.sidx x i)
    | _ => none
  | .binOp op t x y _ => match P.underlying t with
    | some (.pointer e) => match eqOp op, szOf P e with
      | some ne, some (_ + 1) => gd (okX x && okX y) (.peq ne t x y)
      | _, _ => none
    | some (.interface _) => match eqOp op, y with
      | some ne, .const .nilIface => gd (okX x) (.inq ne t x)
      | _, _ => none
    | _ => gd (okX x && okX y) (.bin op t x y)
  | .unOp op _ x => gd (okX x) (.un op x)
  | .convert a b x => match P.underlying a, P.underlying b with
    | some (.int _), some (.int k) => gd (okX x) (.conv k x)
    | some (.slice e), some .string => match P.underlying e, szOf P e with
      | some (.int .u8), some 1 => gd (okX x) (.bts x)
      | _, _ => none
    | some (.pointer t), some .unsafePointer => match szOf P t with
      | some (_ + 1) => gd (okX x) (.toU x)
      | _ => none
    | some .unsafePointer, some (.pointer u) => match szOf P u with
      | some (n + 1) => gd (okX x) (.frU u n x)
      | _ => none
    | _, _ => none
  | .slice t x lo hi none => match P.underlying t with
    | some (.slice e) => match szOf P e with
      | some n => gd (okX x && optX lo && optX hi) (.slc e n x lo hi)
      | none => none
    | some .string => gd (okX x && optX lo && optX hi) (.sslc x lo hi)
    | _ => none
  | .slice t x none (some hi) (some mx) => match P.underlying t with
    | some (.slice e) => match szOf P e with
      | some n => gd (okX x && (okX hi && okX mx)) (.slc3 e n x hi mx)
      | none => none
    | _ => none
  | .nilCheck x => gd (okX x) (.nck x)
  | .makeSlice t l c => match P.underlying t with
    | some (.slice e) => match P.info? e with
      | some i => match i.zero with
        | some z => gd (okX l && (okX c && (okZ z && (plain 50 z && Nat.beq z.cells.toList.length i.size)))) (.mks e i.size i.bytes z.cells.toList l c)
        | none => none
      | none => none
    | _ => none
  | .makeFunc (.func g) a b => gd (a.toList.all okX && b.toList.all okX) (.mkfn g a.toList b.toList)
  | .extract t i => gd (okX t) (.ext t i)
  | .call c => match c.callee with
    | .value x => match noBody P x with
      | none => gd (okX x && c.args.toList.all okX) (.call x c.args.toList)
      | some ne => compBodyless x ne c.args.toList
    | .builtin b => compBuiltin P b c.args.toList c.argTypes.toList
    | .invoke .. => none
  | .makeInterface t x => match P.underlying t with
    | some (.interface _) => none
    | some _ => gd (okX x) (.mkif t x)
    | none => none
  | .typeAssert x _ a true => match P.underlying a, zeroOf P a with
    | some (.interface _), _ => none
    | some _, some z => gd (okX x && okZ z) (.asr a z x)
    | _, _ => none
  | .panic x => gd (okX x) (.pan x)
  | _ => none
noncomputable def compGd (ops : List Oper) (g : Option (Nat × Bool)) : Option (Option (Nat × Bool)) := match g with
  | none => some none
  | some (j, want) => match (ops[j]?).bind (·.dst) with
    | some d => some (some (d, want))
    | none => none
noncomputable def dstOk (nt : Nat) (d : Option Nat) : Bool := match d with
  | none => true
  | some d => Nat.ble (Nat.succ d) nt
noncomputable def compI (P : Program) (nt : Nat) (ops : List Oper) (o : Oper) : Option PI := match compGd ops o.guard with
  | some g => if dstOk nt o.dst then some ⟨o.dst, (compOp P o.op).getD .bad, g⟩ else none
  | none => none
noncomputable def compL (P : Program) (nt : Nat) (ops : List Oper) : List Oper → Option (List PI)
  | [] => some []
  | o :: l => match compI P nt ops o, compL P nt ops l with
    | some i, some r => some (i :: r)
    | _, _ => none
noncomputable def slotsApart (ls : List Nat) (d : Option Nat) (p : Nat × List Nat × Option Nat) : Bool :=
  p.2.2.toList.all (fun t => !(ls.contains t) && !(d.toList.contains t)) && d.toList.all (fun t => !(p.2.1.contains t))
noncomputable def drawSt (nt : Nat) (ops : Array Oper) : List Oper → Nat → Tr Nat → List (Nat × List Nat × Option Nat) → Option (List (List Nat × List Nat))
  | [], _, _, _ => some []
  | o :: l, j, bs, acc =>
    if edgesLow j o.after.toList && (Nat.ble (Nat.succ j) 100000 && (lowSlots (o.looksAt ops) && ((o.looksAt ops).all (fun t => Nat.ble (Nat.succ t) nt) && (acc.filter fun p => !((befOf bs o.after.toList).testBit p.1)).all (slotsApart (o.looksAt ops) o.dst)))) then
      match drawSt nt ops l (j + 1) (Tr.set (befOf bs o.after.toList) 40 bs j) ((j, o.looksAt ops, o.dst) :: acc) with
      | some r => some ((o.looksAt ops, (acc.filter fun p => !((befOf bs o.after.toList).testBit p.1)).map (·.1)) :: r)
      | none => none
    else none
def zipD : List PI → List (List Nat × List Nat) → List (PI × List Nat × List Nat)
  | i :: l, x :: r => (i, x.1, x.2) :: zipD l r
  | _, _ => []
noncomputable def comp (P : Program) (nt : Nat) : Code → Option PCode
  | .skip => some .skip
  | .region _ ops false => (compL P nt ops.toList ops.toList).map .reg
  | .region _ ops true => match compL P nt ops.toList ops.toList, drawSt nt ops ops.toList 0 .nil [] with
    | some l, some r => some (.draw (zipD l r))
    | _, _ => none
  | .seq a b => match comp P nt a, comp P nt b with
    | some a, some b => some (.seq a b)
    | _, _ => none
  | .cond c a b => match okX c, comp P nt a, comp P nt b with
    | true, some a, some b => some (.cond c a b)
    | _, _, _ => none
  | .block id b => (comp P nt b).map (.block id)
  | .loop b => (comp P nt b).map .loop
  | .exit id => some (.exit id)
  | .ret => some .ret
  | _ => some .bad
inductive PRes where
  | tmp (t : Nat)
  | cell (a : Nat) (ag : Bool) (sz : Nat)
noncomputable def compRes (P : Program) (r : ResultVar) : Option PRes := match r with
  | .tmp t => some (.tmp t)
  | .cell a t => match P.underlying t with
    | some d => if isAggD (some d) then (match szOf P t with
      | some n => some (.cell a true n)
      | none => none) else some (.cell a false 1)
    | none => none
structure PFn where
  nt : Nat
  body : PCode
  res : List PRes
  keep : Bool
noncomputable def compF (P : Program) (fn : Func) (keep : Bool) : Option PFn := match fn.body with
  | some c => match comp P fn.ntmps c, fn.results.toList.mapM (compRes P) with
    | some b, some r => if Nat.ble fn.ntmps 1000000 then some ⟨fn.ntmps, b, r, keep⟩ else none
    | _, _ => none
  | none => none
inductive PXt where
  | normal | exit (id : Nat) | ret
abbrev PCallF := Nat → List PV → PS → Option (PV × PS)
def guardP (f : PFr) (g : Option (Nat × Bool)) : Option Bool := match g with
  | none => some true
  | some (d, want) => match f d with
    | .sc (.bool b) => some (b == want)
    | .sc (.tuple _) => some false
    | _ => none
def callP (call : PCallF) (f : PFr) (s : PS) (x : Operand) (args : List Operand) : Option (PV × PS) := match pval f x with
  | .fn g first cap => call g (first ++ (args.map (pval f) ++ cap)) s
  | _ => none
noncomputable def actP (P : Program) (call : PCallF) (f : PFr) (s : PS) (o : POp) : Option (PV × PS) := match o with
  | .call x args => callP call f s x args
  | o => opP P f s o
noncomputable def stepP (P : Program) (call : PCallF) (i : PI) (f : PFr) (s : PS) : Option (PFr × PS) := match guardP f i.gd with
  | some true => (actP P call f s i.op).map fun q => (setD f i.dst q.1, q.2)
  | some false => some (setD f i.dst (.sc undef), s)
  | none => none
noncomputable def opsP (P : Program) (call : PCallF) : List PI → PFr → PS → Option (PFr × PS)
  | [], f, s => some (f, s)
  | i :: l, f, s => (stepP P call i f s).bind fun q => opsP P call l q.1 q.2
def onlyP (ls : List Nat) (f : PFr) : PFr := fun t => if t ∈ ls then f t else .sc undef
def setG (f : PFr) (d : Option Nat) (g : PFr) : PFr := match d with
  | some d => PFr.set f d (g d)
  | none => f
def effI (f : PFr) (i : PI) : Eff := match guardP f i.gd with
  | some true => effO f i.op
  | _ => ⟨[], [], false, false⟩
def pureI (pu : Nat → Bool) (f : PFr) (i : PI) : Bool := match i.op with
  | .call x _ => match pval f x with
    | .fn g _ _ => pu g
    | _ => true
  | _ => true
/-- two operations that no edge orders are apart; the earlier one made the blocks from a to b -/
def OkPair (E : Eff) (a b : Nat) (F : Eff) : Prop :=
  (∀ k ∈ E.wr, k ∉ F.rd ∧ k ∉ F.wr) ∧ (∀ k ∈ F.rd, k < a ∨ b ≤ k) ∧ (∀ k ∈ F.wr, k < a ∨ b ≤ k) ∧ ¬ (E.ca = true ∧ F.li = true) ∧ (∀ k ∈ F.wr, k ∉ E.rd) ∧ (F.ca = true → E.wr = [] ∧ a = b ∧ E.ca = false) ∧ (E.ca = true → ∀ k ∈ F.wr, b ≤ k)
instance (E : Eff) (a b : Nat) (F : Eff) : Decidable (OkPair E a b F) := by unfold OkPair; infer_instance
def OkAll (un : List Nat) (F : Eff) (acc : List (Nat × Eff × Nat × Nat)) : Prop := ∀ e ∈ acc, e.1 ∈ un → OkPair e.2.1 e.2.2.1 e.2.2.2 F
instance (un : List Nat) (F : Eff) (acc : List (Nat × Eff × Nat × Nat)) : Decidable (OkAll un F acc) := by unfold OkAll; infer_instance
/-- an operation after all that stand before it in the text, and before all that stand after it -/
def barP (un : List Nat) (j : Nat) (l : List (PI × List Nat × List Nat)) : Bool := un.isEmpty && l.all fun x => !(x.2.2.contains j)
noncomputable def drawP (P : Program) (pu : Nat → Bool) (call : PCallF) : List (PI × List Nat × List Nat) → Nat → List (Nat × Eff × Nat × Nat) → PFr → PS → Option (PFr × PS)
  | [], _, _, f, s => some (f, s)
  | (i, ls, un) :: l, j, acc, f, s => (stepP P call i (onlyP ls f) s).bind fun q =>
      if (pureI pu (onlyP ls f) i = true ∨ barP un j l = true) ∧ OkAll un (effI (onlyP ls f) i) acc then drawP P pu call l (j + 1) ((j, effI (onlyP ls f) i, s.n, q.2.n) :: acc) (setG f i.dst q.1) q.2 else none
abbrev PEx := Option (PXt × PFr × PS)
def seqP (r : PEx) (k : PFr → PS → PEx) : PEx := r.bind fun q => match q.1 with
  | .normal => k q.2.1 q.2.2
  | x => some (x, q.2.1, q.2.2)
def blockP (id : Nat) (r : PEx) : PEx := r.map fun q => match q.1 with
  | .exit i => if i = id then (.normal, q.2.1, q.2.2) else (.exit i, q.2.1, q.2.2)
  | x => (x, q.2.1, q.2.2)
def condP (b : Option Bool) (x y : PEx) : PEx := match b with
  | some true => x
  | some false => y
  | none => none
def loopP (body : PFr → PS → PEx) : Nat → PFr → PS → PEx
  | 0, _, _ => none
  | n + 1, f, s => seqP (body f s) (loopP body n)
noncomputable def codeP (P : Program) (pu : Nat → Bool) (call : PCallF) (L : Nat) : PCode → PFr → PS → PEx
  | .skip, f, s => some (.normal, f, s)
  | .reg l, f, s => (opsP P call l f s).map fun q => (.normal, q.1, q.2)
  | .draw l, f, s => (drawP P pu call l 0 [] f s).map fun q => (.normal, q.1, q.2)
  | .seq a b, f, s => seqP (codeP P pu call L a f s) (codeP P pu call L b)
  | .cond c a b, f, s => condP (asBool (pval f c)) (codeP P pu call L a f s) (codeP P pu call L b f s)
  | .block id b, f, s => blockP id (codeP P pu call L b f s)
  | .loop b, f, s => loopP (codeP P pu call L b) L f s
  | .exit id, f, s => some (.exit id, f, s)
  | .ret, f, s => some (.ret, f, s)
  | .bad, _, _ => none
def resP (f : PFr) (s : PS) : List PRes → Option (List PV)
  | [] => some []
  | .tmp t :: l => (resP f s l).map fun vs => f t :: vs
  | .cell a ag sz :: l => (ldP s (f a) sz).bind fun cs => (ofCells ag cs).bind fun v => (resP f s l).map fun vs => v :: vs
def oneRes (vs : List PV) : PV := match vs with
  | [v] => v
  | vs => .tup vs
def frz1 (n : Nat) (s : PS) (p : PV) : Option PV := match p with
  | .own k off m fin => if k < n then some (.own k off m fin) else
      if (s.h k).low ≤ fin ∧ fin ≤ (s.h k).cells.length ∧ off ≤ fin ∧ (((s.h k).cells.drop off).take (fin - off)).all clean1 = true then some (.lit (s.h k).e m (((s.h k).cells.drop off).take (fin - off))) else none
  | .ptr k off fin => if k < n then some (.ptr k off fin) else none
  | .ownx k off m fin => if k < n then some (.ownx k off m fin) else none
  | .fn g [] [] => some (.fn g [] [])
  | .sc v => some (.sc v)
  | .lit e m cs => some (.lit e m cs)
  | .litx e m cs => some (.litx e m cs)
  | .litp cs => some (.litp cs)
  | _ => none
def frzL (n : Nat) (s : PS) : List PV → Option (List PV)
  | [] => some []
  | p :: l => (frz1 n s p).bind fun p => (frzL n s l).map fun l => p :: l
def frz2 (n : Nat) (s : PS) (p : PV) : Option PV := match p with
  | .agg cs => (frzL n s cs).map .agg
  | p => frz1 n s p
def frzT (n : Nat) (s : PS) : List PV → Option (List PV)
  | [] => some []
  | p :: l => (frz2 n s p).bind fun p => (frzT n s l).map fun l => p :: l
def frz (n : Nat) (s : PS) (p : PV) : Option PV := match p with
  | .tup vs => (frzT n s vs).map .tup
  | p => frz2 n s p
noncomputable def leaveP (fn : PFn) (s : PS) (f : PFr) (s' : PS) : Option (PV × PS) :=
  (resP f s' fn.res).bind fun vs => if fn.keep then some (oneRes vs, ⟨s'.h, s'.n, min s.w s'.w⟩) else if s.n ≤ s'.w then (frz s.n s' (oneRes vs)).map fun v => (v, s) else none
def endP (q : PXt × PFr × PS) (k : PFr → PS → Option (PV × PS)) : Option (PV × PS) := match q.1 with
  | .normal => k q.2.1 q.2.2
  | .ret => k q.2.1 q.2.2
  | _ => none
def initP : List PV → Nat → PFr
  | [], _ => fun _ => .sc undef
  | v :: l, i => PFr.set (initP l (i + 1)) i v
noncomputable def enterP (P : Program) (pu : Nat → Bool) (call : PCallF) (L : Nat) (fn : PFn) (args : List PV) (s : PS) : Option (PV × PS) :=
  if args.length ≤ fn.nt then (codeP P pu call L fn.body (initP args 0) ⟨s.h, s.n, s.n⟩).bind fun q => endP q (leaveP fn s) else none
def puOf (Γ : Nat → Option PFn) (g : Nat) : Bool := match Γ g with
  | some fn => !fn.keep
  | none => true
noncomputable def callN (P : Program) (Γ : Nat → Option PFn) (ext : PCallF) : Nat → PCallF
  | 0 => fun _ _ _ => none
  | n + 1 => fun g args s => match Γ g with
    | some fn => enterP P (puOf Γ) (callN P Γ ext n) n fn args s
    | none => ext g args s
end Go.PE
namespace Go.PE
open Go Go.EvL
def Prot (A : AS) (β : Nat → Nat) (n c : Nat) : Prop := c < A.next ∧ ∀ k, k < n → β k ≠ c
inductive RC (A : AS) (β : Nat → Nat) (n : Nat) : Value × PV ⊕ List Value × List PV → Prop
  | sc (v : Value) (h : sok v = true) : RC A β n (.inl (v, .sc v))
  | fn (g : Nat) : RC A β n (.inl (.func (.func g) #[] #[], .fn g [] []))
  | lit (b off m cap e : Nat) (cs : List PV) (cells : List Value) (c st : Nat) (hg : A.heap.get b = some (.row cells e c st true)) (hp : Prot A β n c) (hl : off + cs.length ≤ cells.length) (hm : m ≤ cap)
      (h : RC A β n (.inr ((cells.drop off).take cs.length, cs))) : RC A β n (.inl (.slice (some ⟨b, off, none⟩) m cap, .lit e m cs))
  | litp (b off e : Nat) (cs : List PV) (cells : List Value) (c st : Nat) (hg : A.heap.get b = some (.row cells e c st true)) (hp : Prot A β n c) (hl : off + cs.length ≤ cells.length)
      (h : RC A β n (.inr ((cells.drop off).take cs.length, cs))) : RC A β n (.inl (.pointer (some ⟨b, off, none⟩), .litp cs))
  | litx (b off m e : Nat) (cs : List PV) (cells : List Value) (c st : Nat) (hg : A.heap.get b = some (.row cells e c st true)) (hp : Prot A β n c) (hl : off + cs.length ≤ cells.length)
      (h : RC A β n (.inr ((cells.drop off).take cs.length, cs))) : RC A β n (.inl (.slice (some ⟨b, off, some 0⟩) m m, .litx e m cs))
  | agg (xs : Array Value) (cs : List PV) (h : RC A β n (.inr (xs.toList, cs))) : RC A β n (.inl (.agg xs, .agg cs))
  | nil : RC A β n (.inr ([], []))
  | cons (v : Value) (p : PV) (l : List Value) (r : List PV) (h : RC A β n (.inl (v, p))) (hs : RC A β n (.inr (l, r))) : RC A β n (.inr (v :: l, p :: r))
inductive RV (A : AS) (β : Nat → Nat) (n : Nat) : Value × PV ⊕ List Value × List PV → Prop
  | cl (v : Value) (p : PV) (h : RC A β n (.inl (v, p))) : RV A β n (.inl (v, p))
  | fn (g : Nat) (xs ys : Array Value) (as bs : List PV) (h : RV A β n (.inr (xs.toList, as))) (h' : RV A β n (.inr (ys.toList, bs))) : RV A β n (.inl (.func (.func g) xs ys, .fn g as bs))
  | agg (xs : Array Value) (cs : List PV) (h : RV A β n (.inr (xs.toList, cs))) : RV A β n (.inl (.agg xs, .agg cs))
  | tup (xs : Array Value) (cs : List PV) (h : RV A β n (.inr (xs.toList, cs))) : RV A β n (.inl (.tuple xs, .tup cs))
  | own (b o k off m fin cap e : Nat) (cells : List Value) (st : Nat) (ok : Bool) (hk : k < n) (hg : A.heap.get b = some (.row cells e (β k) st ok)) (ho : st + o = off) (hf : fin ≤ st + cells.length) (hm : m ≤ cap) :
      RV A β n (.inl (.slice (some ⟨b, o, none⟩) m cap, .own k off m fin))
  | ptr (b o k off fin e : Nat) (cells : List Value) (st : Nat) (ok : Bool) (hk : k < n) (hg : A.heap.get b = some (.row cells e (β k) st ok)) (ho : st + o = off) (hf : fin ≤ st + cells.length) :
      RV A β n (.inl (.pointer (some ⟨b, o, none⟩), .ptr k off fin))
  | ownx (b o k off m fin e : Nat) (cells : List Value) (st : Nat) (ok : Bool) (hk : k < n) (hg : A.heap.get b = some (.row cells e (β k) st ok)) (ho : st + o = off) (hf : fin ≤ st + cells.length) :
      RV A β n (.inl (.slice (some ⟨b, o, some 0⟩) m m, .ownx k off m fin))
  | nil : RV A β n (.inr ([], []))
  | cons (v : Value) (p : PV) (l : List Value) (r : List PV) (h : RV A β n (.inl (v, p))) (hs : RV A β n (.inr (l, r))) : RV A β n (.inr (v :: l, p :: r))
abbrev R1 (A : AS) (β : Nat → Nat) (n : Nat) (v : Value) (p : PV) : Prop := RV A β n (.inl (v, p))
abbrev Rs (A : AS) (β : Nat → Nat) (n : Nat) (l : List Value) (r : List PV) : Prop := RV A β n (.inr (l, r))
abbrev C1 (A : AS) (β : Nat → Nat) (n : Nat) (v : Value) (p : PV) : Prop := RC A β n (.inl (v, p))
abbrev Cs (A : AS) (β : Nat → Nat) (n : Nat) (l : List Value) (r : List PV) : Prop := RC A β n (.inr (l, r))
/-- what a step does to the evaluator's state -/
structure Fw (A A' : AS) (β β' : Nat → Nat) (n n' lo : Nat) : Prop where
  le : n ≤ n'
  next : A.next ≤ A'.next
  eq : ∀ k, k < n → β' k = β k
  new : ∀ k, n ≤ k → k < n' → A.next ≤ β' k
  prot : ∀ b cells e c st, A.heap.get b = some (.row cells e c st true) → Prot A β n c → A'.heap.get b = some (.row cells e c st true)
  keep : ∀ b cells e st ok k, k < n → A.heap.get b = some (.row cells e (β k) st ok) → ∃ cells' ok', A'.heap.get b = some (.row cells' e (β k) st ok') ∧ cells'.length = cells.length
  w : ∀ c, c < A.next → A'.w.testBit c = true → A.w.testBit c = true ∨ ∃ k, lo ≤ k ∧ k < n ∧ β k = c
theorem Fw.refl (A : AS) (β : Nat → Nat) (n lo : Nat) : Fw A A β β n n lo :=
  ⟨Nat.le_refl _, Nat.le_refl _, fun _ _ => rfl, fun _ h h' => by omega, fun _ _ _ _ _ h _ => h, fun _ cells _ _ ok _ _ h => ⟨cells, ok, h, rfl⟩, fun _ _ h => .inl h⟩
theorem Fw.heap {A A' : AS} (β : Nat → Nat) (n : Nat) {lo : Nat} (h : A'.heap = A.heap) (hn : A'.next = A.next) (hw : A'.w = A.w) : Fw A A' β β n n lo :=
  ⟨Nat.le_refl _, by omega, fun _ _ => rfl, fun _ h h' => by omega, fun _ _ _ _ _ hh _ => by rw [h]; exact hh, fun _ cells _ _ ok _ _ hh => ⟨cells, ok, by rw [h]; exact hh, rfl⟩, fun _ _ hh => .inl (by rw [← hw]; exact hh)⟩
theorem Fw.protN {A A' : AS} {β β' : Nat → Nat} {n n' lo c : Nat} (h : Fw A A' β β' n n' lo) (hp : Prot A β n c) : Prot A' β' n' c :=
  ⟨Nat.lt_of_lt_of_le hp.1 h.next, fun k hk => by
    by_cases hkn : k < n
    · rw [h.eq k hkn]; exact hp.2 k hkn
    · have := h.new k (by omega) hk
      have := hp.1
      omega⟩
theorem Fw.trans {A B C : AS} {β γ δ : Nat → Nat} {n m l lo lo' : Nat} (h : Fw A B β γ n m lo) (k : Fw B C γ δ m l lo') (hlo : lo' ≤ lo) : Fw A C β δ n l lo' where
  le := Nat.le_trans h.le k.le
  next := Nat.le_trans h.next k.next
  eq := fun x hx => (k.eq x (Nat.lt_of_lt_of_le hx h.le)).trans (h.eq x hx)
  new := fun x hx hl => by
    by_cases hm : x < m
    · rw [k.eq x hm]; exact h.new x hx hm
    · exact Nat.le_trans h.next (k.new x (by omega) hl)
  prot := fun b cells e c st hb hp => k.prot _ _ _ _ _ (h.prot _ _ _ _ _ hb hp) (h.protN hp)
  keep := fun b cells e st ok x hx hb => by
    obtain ⟨c1, o1, h1, l1⟩ := h.keep b cells e st ok x hx hb
    rw [← h.eq x hx] at h1
    obtain ⟨c2, o2, h2, l2⟩ := k.keep b c1 e st o1 x (Nat.lt_of_lt_of_le hx h.le) h1
    rw [h.eq x hx] at h2
    exact ⟨c2, o2, h2, l2.trans l1⟩
  w := fun c hc hw => by
    rcases k.w c (Nat.lt_of_lt_of_le hc h.next) hw with h1 | ⟨x, hxl, hx, he⟩
    · rcases h.w c hc h1 with h2 | ⟨y, y1, y2, y3⟩
      · exact .inl h2
      · exact .inr ⟨y, by omega, y2, y3⟩
    · by_cases hxn : x < n
      · exact .inr ⟨x, hxl, hxn, by rw [← h.eq x hxn]; exact he⟩
      · have := h.new x (by omega) hx; omega
theorem RC.mono {A A' : AS} {β β' : Nat → Nat} {n n' lo : Nat} (f : Fw A A' β β' n n' lo) {x : Value × PV ⊕ List Value × List PV} (h : RC A β n x) : RC A' β' n' x := by
  induction h with
  | sc v h => exact .sc v h
  | fn g => exact .fn g
  | lit b off m cap e cs cells c st hg hp hl hm _ ih => exact .lit b off m cap e cs cells c st (f.prot _ _ _ _ _ hg hp) (f.protN hp) hl hm ih
  | litp b off e cs cells c st hg hp hl _ ih => exact .litp b off e cs cells c st (f.prot _ _ _ _ _ hg hp) (f.protN hp) hl ih
  | litx b off m e cs cells c st hg hp hl _ ih => exact .litx b off m e cs cells c st (f.prot _ _ _ _ _ hg hp) (f.protN hp) hl ih
  | agg xs cs _ ih => exact .agg xs cs ih
  | nil => exact .nil
  | cons v p l r _ _ ih ihs => exact .cons v p l r ih ihs
theorem RV.mono {A A' : AS} {β β' : Nat → Nat} {n n' lo : Nat} (f : Fw A A' β β' n n' lo) {x : Value × PV ⊕ List Value × List PV} (h : RV A β n x) : RV A' β' n' x := by
  induction h with
  | cl v p h => exact .cl v p (h.mono f)
  | fn g xs ys as bs _ _ h h' => exact .fn g xs ys as bs h h'
  | agg xs cs _ ih => exact .agg xs cs ih
  | tup xs cs _ ih => exact .tup xs cs ih
  | own b o k off m fin cap e cells st ok hk hg ho hf hm =>
    obtain ⟨c', o', h1, h2⟩ := f.keep b cells e st ok k hk hg
    rw [← f.eq k hk] at h1
    exact .own b o k off m fin cap e c' st o' (Nat.lt_of_lt_of_le hk f.le) h1 ho (by omega) hm
  | ptr b o k off fin e cells st ok hk hg ho hf =>
    obtain ⟨c', o', h1, h2⟩ := f.keep b cells e st ok k hk hg
    rw [← f.eq k hk] at h1
    exact .ptr b o k off fin e c' st o' (Nat.lt_of_lt_of_le hk f.le) h1 ho (by omega)
  | ownx b o k off m fin e cells st ok hk hg ho hf =>
    obtain ⟨c', o', h1, h2⟩ := f.keep b cells e st ok k hk hg
    rw [← f.eq k hk] at h1
    exact .ownx b o k off m fin e c' st o' (Nat.lt_of_lt_of_le hk f.le) h1 ho (by omega)
  | nil => exact .nil
  | cons v p l r _ _ ih ihs => exact .cons v p l r ih ihs
section
variable {A : AS} {β : Nat → Nat} {n : Nat}
theorem Cs.len {l : List Value} {r : List PV} (h : Cs A β n l r) : l.length = r.length := by
  induction r generalizing l with
  | nil => cases h; rfl
  | cons p r ih => cases h with | cons v p l r h hs => simp [ih hs]
theorem Rs.len {l : List Value} {r : List PV} (h : Rs A β n l r) : l.length = r.length := by
  induction r generalizing l with
  | nil => cases h; rfl
  | cons p r ih => cases h with | cons v p l r h hs => simp [ih hs]
theorem Cs.drop {l : List Value} {r : List PV} (h : Cs A β n l r) (k : Nat) : Cs A β n (l.drop k) (r.drop k) := by
  induction k generalizing l r with
  | zero => exact h
  | succ k ih =>
    cases r with
    | nil => cases h; exact .nil
    | cons p r => cases h with | cons v p l r h hs => exact ih hs
theorem Cs.take {l : List Value} {r : List PV} (h : Cs A β n l r) (k : Nat) : Cs A β n (l.take k) (r.take k) := by
  induction k generalizing l r with
  | zero => exact .nil
  | succ k ih =>
    cases r with
    | nil => cases h; exact .nil
    | cons p r => cases h with | cons v p l r h hs => exact .cons _ _ _ _ h (ih hs)
theorem Rs.drop {l : List Value} {r : List PV} (h : Rs A β n l r) (k : Nat) : Rs A β n (l.drop k) (r.drop k) := by
  induction k generalizing l r with
  | zero => exact h
  | succ k ih =>
    cases r with
    | nil => cases h; exact .nil
    | cons p r => cases h with | cons v p l r h hs => exact ih hs
theorem Rs.take {l : List Value} {r : List PV} (h : Rs A β n l r) (k : Nat) : Rs A β n (l.take k) (r.take k) := by
  induction k generalizing l r with
  | zero => exact .nil
  | succ k ih =>
    cases r with
    | nil => cases h; exact .nil
    | cons p r => cases h with | cons v p l r h hs => exact .cons _ _ _ _ h (ih hs)
theorem Rs.app {l l' : List Value} {r r' : List PV} (h : Rs A β n l r) (h' : Rs A β n l' r') : Rs A β n (l ++ l') (r ++ r') := by
  induction r generalizing l with
  | nil => cases h; exact h'
  | cons p r ih => cases h with | cons v p l r h hs => exact .cons _ _ _ _ h (ih hs)
theorem Cs.up {l : List Value} {r : List PV} (h : Cs A β n l r) : Rs A β n l r := by
  induction r generalizing l with
  | nil => cases h; exact .nil
  | cons p r ih => cases h with | cons v p l r h hs => exact .cons _ _ _ _ (.cl _ _ h) (ih hs)
theorem plain_cells : ∀ (l : List Value), l.all sok = true → Cs A β n l (l.map .sc) := by
  intro l
  induction l with
  | nil => intro _; exact .nil
  | cons v l ih =>
    intro h
    rw [List.all_cons, Bool.and_eq_true] at h
    exact .cons _ _ _ _ (.sc v h.1) (ih h.2)
theorem R1.cells {v : Value} {p : PV} (h : R1 A β n v p) : Rs A β n v.cells.toList (cellsP p) := by
  have one : ∀ {v : Value} {p : PV}, R1 A β n v p → Rs A β n [v] [p] := fun h => .cons _ _ _ _ h .nil
  cases h with
  | cl v p h =>
    cases h with
    | sc v h =>
      cases v with
      | agg xs => cases h
      | _ => exact one (.cl _ _ (.sc _ h))
    | fn g => exact one (.cl _ _ (.fn g))
    | lit b off m cap e cs cells c st hg hp hl hm h => exact one (.cl _ _ (.lit b off m cap e cs cells c st hg hp hl hm h))
    | litp b off e cs cells c st hg hp hl h => exact one (.cl _ _ (.litp b off e cs cells c st hg hp hl h))
    | litx b off m e cs cells c st hg hp hl h => exact one (.cl _ _ (.litx b off m e cs cells c st hg hp hl h))
    | agg xs cs h => exact Cs.up h
  | fn g xs ys as bs h h' => exact one (.fn g xs ys as bs h h')
  | agg xs cs h => exact h
  | tup xs cs h => exact one (.tup xs cs h)
  | own b o k off m fin cap e cells st ok hk hg ho hf hm => exact one (.own b o k off m fin cap e cells st ok hk hg ho hf hm)
  | ptr b o k off fin e cells st ok hk hg ho hf => exact one (.ptr b o k off fin e cells st ok hk hg ho hf)
  | ownx b o k off m fin e cells st ok hk hg ho hf => exact one (.ownx b o k off m fin e cells st ok hk hg ho hf)
end
end Go.PE
namespace Go.PE
open Go Go.EvL
structure RB (A : AS) (β : Nat → Nat) (n c : Nat) (b : Blk) : Prop where
  cur : b.low ≤ b.cells.length → ∃ x cells st, A.heap.get x = some (.row cells b.e c st true) ∧ st + cells.length = b.cells.length
  all : ∀ x cells e st ok, A.heap.get x = some (.row cells e c st ok) → e = b.e ∧ st + cells.length ≤ b.cells.length ∧ (b.low ≤ st + cells.length → ok = true ∧ Rs A β n cells ((b.cells.drop st).take cells.length))
  uni : ∀ x y cells e st ok cells' e' st' ok', A.heap.get x = some (.row cells e c st ok) → A.heap.get y = some (.row cells' e' c st' ok') → st + cells.length = b.cells.length → st' + cells'.length = b.cells.length → x = y
  low : b.cells.length < b.low → ∀ x cells e st ok, A.heap.get x = some (.row cells e c st ok) → st + cells.length < b.cells.length
  fz : b.low ≤ b.cells.length → A.fz.get c = none
  lt : c < A.next
  z : ∀ x cells e st ok, A.heap.get x = some (.row cells e c st ok) → st = 0
/-- the package variables that lie as they were laid -/
def LayOK (A : AS) (β : Nat → Nat) (n : Nat) : Prop := ∀ x ∈ laidsP, A.heap.get x.g = some (.row x.cells x.e x.g 0 true) ∧ Prot A β n x.g ∧ A.fz.get x.g = some x.cells.length
theorem LayOK.mono {A A' : AS} {β β' : Nat → Nat} {n n' lo : Nat} (h : LayOK A β n) (w : Fw A A' β β' n n' lo) (hz : ∀ c, Prot A β n c → A'.fz.get c = A.fz.get c) : LayOK A' β' n' := fun x hx => by
  obtain ⟨h1, h2, h3⟩ := h x hx
  exact ⟨w.prot _ _ _ _ _ h1 h2, w.protN h2, (hz _ h2).trans h3⟩
structure RS (A : AS) (β : Nat → Nat) (s : PS) : Prop where
  blk : ∀ k, k < s.n → RB A β s.n (β k) (s.h k)
  inj : ∀ j k, j < s.n → k < s.n → β j = β k → j = k
  lay : LayOK A β s.n
structure RF (ds : List Deferred) (A : AS) (β : Nat → Nat) (n nt : Nat) (f : Fr) (p : PFr) : Prop where
  num : f.n = nt
  few : nt ≤ 1000000
  df : f.defers = ds
  tmp : ∀ j, R1 A β n ((f.tmps.get j).getD undef) (p j)
theorem RF.mono {ds : List Deferred} {A A' : AS} {β β' : Nat → Nat} {n n' nt lo : Nat} {f : Fr} {p : PFr} (h : RF ds A β n nt f p) (w : Fw A A' β β' n n' lo) : RF ds A' β' n' nt f p :=
  ⟨h.num, h.few, h.df, fun j => (h.tmp j).mono w⟩
/-- a block that is not touched -/
theorem RB.mono {A A' : AS} {β β' : Nat → Nat} {n n' c lo : Nat} {b : Blk} (h : RB A β n c b) (w : Fw A A' β β' n n' lo) (hin : ∀ x cells e st ok, A'.heap.get x = some (.row cells e c st ok) ↔ A.heap.get x = some (.row cells e c st ok)) (hz : A'.fz.get c = A.fz.get c) : RB A' β' n' c b where
  cur := fun hl => by
    obtain ⟨x, cells, st, h1, h2⟩ := h.cur hl
    exact ⟨x, cells, st, (hin _ _ _ _ _).2 h1, h2⟩
  all := fun x cells e st ok hg => by
    obtain ⟨h1, h2, h3⟩ := h.all x cells e st ok ((hin _ _ _ _ _).1 hg)
    exact ⟨h1, h2, fun hl => ⟨(h3 hl).1, (h3 hl).2.mono w⟩⟩
  uni := fun x y cells e st ok cells' e' st' ok' h1 h2 => h.uni x y cells e st ok cells' e' st' ok' ((hin _ _ _ _ _).1 h1) ((hin _ _ _ _ _).1 h2)
  low := fun hl x cells e st ok hg => h.low hl x cells e st ok ((hin _ _ _ _ _).1 hg)
  fz := fun hl => hz.trans (h.fz hl)
  lt := Nat.lt_of_lt_of_le h.lt w.next
  z := fun x cells e st ok hg => h.z x cells e st ok ((hin _ _ _ _ _).1 hg)
theorem RS.same {A A' : AS} {β : Nat → Nat} {s : PS} (h : RS A β s) (h1 : A'.heap = A.heap) (h2 : A'.next = A.next) (h3 : A'.w = A.w) (h4 : A'.fz = A.fz) : RS A' β s :=
  ⟨fun k hk => (h.blk k hk).mono (.heap (lo := 0) β s.n h1 h2 h3) (fun x cells e st ok => by rw [h1]) (by rw [h4]), h.inj, h.lay.mono (.heap (lo := 0) β s.n h1 h2 h3) fun c _ => by rw [h4]⟩
section
variable {ds : List Deferred} {P : Program} {A A' : AS} {β : Nat → Nat} {n nt : Nat} {f : Fr} {p : PFr} {s : PS}
/-- what a constant stands for -/
theorem okX_eval (h : RF ds A β n nt f p) {x : Operand} (hx : okX x = true) : ∃ v, f.eval x = some v ∧ R1 A β n v (pval p x) := by
  cases x with
  | tmp t =>
    refine ⟨(f.tmps.get t).getD undef, ?_, h.tmp t⟩
    show someV (f.tmps.get t) = _
    cases f.tmps.get t <;> rfl
  | const v =>
    have hc : ∀ v, plain 50 v = true → f.eval (.const v) = some v := fun v hv => by
      show constV v = some v
      unfold constV
      rw [hv]
    cases v with
    | agg cs =>
      have hx' : (plain 50 (.agg cs) && cs.toList.all sok) = true := hx
      rw [Bool.and_eq_true] at hx'
      exact ⟨_, hc _ hx'.1, .cl _ _ (.agg _ _ (plain_cells _ hx'.2))⟩
    | func fn a b =>
      cases fn with
      | func g =>
        have hx' : (a.toList.isEmpty && b.toList.isEmpty) = true := hx
        have hp : plain 50 (.func (.func g) a b) = true := hx
        rw [Bool.and_eq_true] at hx'
        have ha : a = #[] := by have := hx'.1; cases a; simp at this; subst this; rfl
        have hb : b = #[] := by have := hx'.2; cases b; simp at this; subst this; rfl
        subst ha; subst hb
        exact ⟨_, hc _ hp, .cl _ _ (.fn g)⟩
      | _ => exact absurd hx (by intro hh; cases hh)
    | _ => exact ⟨_, hc _ hx, .cl _ _ (.sc _ hx)⟩
  | func g => exact ⟨_, rfl, .cl _ _ (.fn g)⟩
  | global g => cases hx
theorem okX_evalG (h : RF ds A β n nt f p) {x : Operand} (hx : okX x = true) : ∃ v, evalG P f x = some v ∧ R1 A β n v (pval p x) := by
  obtain ⟨v, h1, h2⟩ := okX_eval h hx
  refine ⟨v, ?_, h2⟩
  cases x with
  | global g => cases hx
  | _ => exact h1
theorem RF.set (h : RF ds A β n nt f p) {d : Option Nat} (hd : dstOk nt d = true) {v : Value} {q : PV} (hv : R1 A β n v q) : ∃ f', f.put d v = some f' ∧ RF ds A β n nt f' (setD p d q) := by
  cases d with
  | none => exact ⟨f, rfl, h⟩
  | some d =>
    obtain ⟨tm, m, ds'⟩ := f
    have hn : m = nt := h.num
    have hd' : Nat.ble (Nat.succ d) nt = true := hd
    refine ⟨⟨Tr.set v 40 tm d, m, ds'⟩, ?_, h.num, h.few, h.df, fun j => ?_⟩
    · show (Bool.rec none (forceT (Tr.set v 40 tm d) fun t => some (⟨t, m, ds'⟩ : Fr)) (Nat.ble (Nat.succ d) m) : Option Fr) = _
      rw [hn, hd', forceT_eq]
    · show R1 A β n (((Tr.set v 40 tm d).get j).getD undef) (if j = d then q else p j)
      rw [Tr.get_set _ _ _ _ trivial]
      by_cases hj : j = d
      · rw [if_pos hj, if_pos hj]; exact hv
      · rw [if_neg hj, if_neg hj]; exact h.tmp j
/-- a value without memory -/
theorem R1.sc {v : Value} {u : Value} (h : R1 A β n v (.sc u)) : v = u ∧ sok u = true := by
  cases h with
  | cl _ _ h => cases h with | sc _ h => exact ⟨rfl, h⟩
theorem R1.lit {v : Value} {e m : Nat} {cs : List PV} (h : R1 A β n v (.lit e m cs)) : C1 A β n v (.lit e m cs) := by
  cases h with
  | cl _ _ h => exact h
theorem R1.litp {v : Value} {cs : List PV} (h : R1 A β n v (.litp cs)) : C1 A β n v (.litp cs) := by
  cases h with
  | cl _ _ h => exact h
theorem R1.litx {v : Value} {e m : Nat} {cs : List PV} (h : R1 A β n v (.litx e m cs)) : C1 A β n v (.litx e m cs) := by
  cases h with
  | cl _ _ h => exact h
theorem ld_row {b off m : Nat} {cells : List Value} {e c st : Nat} (hg : A.heap.get b = some (.row cells e c st true)) (hl : off + m ≤ cells.length) : ld A b off m = some ((cells.drop off).take m, logR A c) := by
  unfold ld
  rw [hg]
  show ldIn A cells off m c = _
  unfold ldIn
  rw [forceL_eq]
  have : ((cells.drop off).take m).length = m := by rw [List.length_take, List.length_drop]; omega
  rw [this, Nat.beq_refl]
/-- cells behind an address -/
theorem ldP_ok (hs : RS A β s) {v : Value} {q : PV} (hv : R1 A β s.n v q) {sz : Nat} {cs : List PV} (h : ldP s q sz = some cs) :
    ∃ b o xs c, v = .pointer (some ⟨b, o, none⟩) ∧ ld A b o sz = some (xs, logR A c) ∧ Rs A β s.n xs cs ∧ cs.length = sz ∧ ((∃ k ∈ (effA q).rd, k < s.n ∧ β k = c) ∨ ((effA q).li = true ∧ Prot A β s.n c)) := by
  cases q with
  | ptr k off fin =>
    simp only [ldP] at h
    split at h
    · rename_i hc
      injection h with h; subst h
      cases hv with
      | cl _ _ h => cases h
      | ptr b o _ _ _ e cells st ok hk hg ho hf =>
        obtain ⟨h1, h2, h3⟩ := (hs.blk k hk).all _ _ _ _ _ hg
        obtain ⟨rfl, h4⟩ := h3 (by omega)
        refine ⟨b, o, _, β k, rfl, ld_row hg (by omega), ?_, by rw [List.length_take, List.length_drop]; omega, .inl ⟨k, by simp [effA], hk, rfl⟩⟩
        have := (h4.drop o).take sz
        rw [List.drop_take, List.take_take, List.drop_drop, ho] at this
        rwa [Nat.min_eq_left (by omega)] at this
    · cases h
  | litp cs' =>
    simp only [ldP] at h
    split at h
    · rename_i hc
      injection h with h; subst h
      have hv := hv.litp
      cases hv with
      | litp b off e _ cells c st hg hp hl hh =>
        refine ⟨b, off, _, c, rfl, ld_row hg (by omega), ?_, by rw [List.length_take]; omega, .inr ⟨rfl, hp⟩⟩
        have := (Cs.up hh).take sz
        rwa [List.take_take, Nat.min_eq_left (by omega)] at this
    · cases h
  | _ => simp [ldP] at h
theorem loadIn_ok {t : Nat} {d : TypeDesc} {ag : Bool} {sz b o c : Nat} {xs : List Value} {cs : List PV} {q : PV} (hd : isAggD (some d) = ag) (hsz : if ag then szOf P t = some sz else sz = 1) (hl : ld A b o sz = some (xs, logR A c)) (hx : Rs A β n xs cs) (hq : ofCells ag cs = some q) :
    ∃ v, loadIn P t d b o A = some (.val v, logR A c) ∧ R1 A β n v q := by
  unfold loadIn
  cases ag with
  | true =>
    rw [if_pos rfl] at hsz
    rw [hd, hsz]
    simp only [ofCells, if_true] at hq
    injection hq with hq; subst hq
    refine ⟨.agg xs.toArray, ?_, .agg _ _ (by simpa using hx)⟩
    show aggOf (ld A b o sz) = _
    rw [hl]; rfl
  | false =>
    have : sz = 1 := by simpa using hsz
    subst this
    rw [hd]
    show ∃ v, oneOf (ld A b o 1) = _ ∧ _
    simp only [ofCells] at hq
    rw [if_neg (by simp)] at hq
    split at hq
    · injection hq with hq; subst hq
      cases hx with
      | cons v _ l _ h hn =>
        cases hn
        rw [hl]
        exact ⟨v, rfl, h⟩
    · cases hq
end
end Go.PE
namespace Go.PE
open Go Go.EvL
/-- what a step has looked at -/
structure Msk (A A' : AS) (β β' : Nat → Nat) (n n' : Nat) (E : Eff) : Prop where
  r : ∀ c, A'.r.testBit c = true → A.r.testBit c = true ∨ (∃ k ∈ E.rd, k < n ∧ β k = c) ∨ (E.li = true ∧ Prot A β n c) ∨ (A.next ≤ c ∧ c < A'.next) ∨ (E.ca = true ∧ c < A'.next)
  w : ∀ c, A'.w.testBit c = true → A.w.testBit c = true ∨ (∃ k ∈ E.wr, k < n ∧ β k = c) ∨ (A.next ≤ c ∧ c < A'.next)
  new : E.ca = false → ∀ c, A.next ≤ c → c < A'.next → (A'.r.testBit c = true → A.r.testBit c = true ∨ ∃ k, n ≤ k ∧ k < n' ∧ β' k = c) ∧ (A'.w.testBit c = true → A.w.testBit c = true ∨ ∃ k, n ≤ k ∧ k < n' ∧ β' k = c)
theorem Msk.same (A : AS) (β : Nat → Nat) (n : Nat) (E : Eff) : Msk A A β β n n E := ⟨fun _ h => .inl h, fun _ h => .inl h, fun _ _ h1 h2 => by omega⟩
theorem Msk.read {A : AS} {β : Nat → Nat} {n c : Nat} {E : Eff} (hi : c < A.next) (h : (∃ k ∈ E.rd, k < n ∧ β k = c) ∨ (E.li = true ∧ Prot A β n c)) : Msk A (logR A c) β β n n E := by
  rw [logR_eq]
  refine ⟨fun x hx => ?_, fun _ h => .inl h, fun _ x h1 h2 => by simp only at h2; omega⟩
  rcases bit_in hx with hx | rfl
  · exact .inl hx
  · exact .inr (h.imp id .inl)
def Res1 (P : Program) (A : AS) (β : Nat → Nat) (s : PS) (f : Fr) (o : Oper) (q : PV) (s' : PS) (E : Eff) : Prop :=
  ∃ u A' β', Sound P f A o (.val u) A' ∧ Fw A A' β β' s.n s'.n s'.w ∧ RS A' β' s' ∧ R1 A' β' s'.n u q ∧ Msk A A' β β' s.n s'.n E
theorem gd_some {b : Bool} {o q : POp} (h : gd b o = some q) : b = true ∧ o = q := by
  cases b
  · cases h
  · exact ⟨rfl, by injection h⟩
section
variable {ds : List Deferred} {P : Program} {A : AS} {β : Nat → Nat} {nt : Nat} {f : Fr} {p : PFr} {s s' : PS} {o : Oper} {q : PV} {E : Eff}
theorem res_same (hO : OpsOK P) (hi : Inv A) (hs : RS A β s) {u : Value} (h : evalOp P f o A = some (.val u, A)) (hq : R1 A β s.n u q) : Res1 P A β s f o q s E :=
  ⟨u, A, β, hO f o A _ _ hi (Nat.le_refl _) h, .refl A β s.n _, hs, hq, .same A β s.n E⟩
theorem res_read (hO : OpsOK P) (hi : Inv A) (hs : RS A β s) {u : Value} {c : Nat} (h : evalOp P f o A = some (.val u, logR A c)) (hq : R1 A β s.n u q) (hc : c < A.next) (he : (∃ k ∈ E.rd, k < s.n ∧ β k = c) ∨ (E.li = true ∧ Prot A β s.n c)) : Res1 P A β s f o q s E := by
  have hw : Fw A (logR A c) β β s.n s.n s.w := by rw [logR_eq]; exact .heap β s.n rfl rfl rfl
  refine ⟨u, logR A c, β, hO f o A _ _ hi (Nat.le_refl _) h, hw, ?_, hq.mono hw, .read hc he⟩
  rw [logR_eq]; exact hs.same rfl rfl rfl rfl
theorem new_get (A : AS) (cells : List Value) (e x : Nat) : (EvL.newRow A cells e).heap.get x = if x = A.next then some (.row cells e A.next 0 true) else A.heap.get x := by
  rw [newRow_eq, new_eq]
  exact Tr.get_set _ _ _ _ trivial
theorem new_fw (hi : Inv A) (β : Nat → Nat) (n : Nat) (cells : List Value) (e lo : Nat) : Fw A (EvL.newRow A cells e) β (fun k => if k = n then A.next else β k) n (n + 1) lo where
  le := by omega
  next := by rw [newRow_next]; omega
  eq := fun k hk => if_neg (by omega)
  new := fun k h1 h2 => by rw [if_pos (by omega)]; exact Nat.le_refl _
  prot := fun b cells' e' c st hb _ => by
    rw [new_get, if_neg (by rintro rfl; have := (hi.lt _ _ hb).1; omega)]; exact hb
  keep := fun b cells' e' st ok k _ hb => ⟨cells', ok, by rw [new_get, if_neg (by rintro rfl; have := (hi.lt _ _ hb).1; omega)]; exact hb, rfl⟩
  w := fun c hc hw => by
    rw [newRow_eq, new_eq] at hw
    rcases bit_in hw with h | h
    · exact .inl h
    · omega
theorem new_msk (β : Nat → Nat) (n : Nat) (cells : List Value) (e : Nat) (E : Eff) : Msk A (EvL.newRow A cells e) β (fun k => if k = n then A.next else β k) n (n + 1) E := by
  rw [newRow_eq, new_eq]
  refine ⟨fun _ h => .inl h, fun c hc => ?_, fun _ c h1 h2 => ⟨fun h => .inl h, fun hc => ?_⟩⟩
  · rcases bit_in hc with h | h
    · exact .inl h
    · exact .inr (.inr ⟨by omega, by simp only; omega⟩)
  · rcases bit_in hc with h | h
    · exact .inl h
    · exact .inr ⟨n, by omega, by omega, by rw [if_pos rfl]; exact h⟩
theorem new_rs (hi : Inv A) (hs : RS A β s) {cells : List Value} {cs : List PV} (e : Nat) (h : Rs A β s.n cells cs) : RS (EvL.newRow A cells e) (fun k => if k = s.n then A.next else β k) (s.new ⟨cs, 0, e⟩) := by
  have hw := new_fw hi β s.n cells e s.w
  have hold : ∀ b o', A.heap.get b = some o' → b ≠ A.next := fun b o' hb => by have := (hi.lt _ _ hb).1; omega
  constructor
  · intro k hk
    have hk' : k < s.n + 1 := hk
    by_cases he : k = s.n
    · subst he
      show RB _ _ (s.n + 1) (if s.n = s.n then A.next else β s.n) (if s.n = s.n then _ else _)
      rw [if_pos rfl, if_pos rfl]
      have hrow : ∀ x cells' e' st ok, (EvL.newRow A cells e).heap.get x = some (.row cells' e' A.next st ok) → x = A.next ∧ cells' = cells ∧ e' = e ∧ st = 0 ∧ ok = true := fun x cells' e' st ok hg => by
        rw [new_get] at hg
        split at hg
        · rename_i hx; injection hg with hg; injection hg with h1 h2 h3 h4 h5; exact ⟨hx, h1.symm, h2.symm, h4.symm, h5.symm⟩
        · have := (hi.lt _ _ hg).2; simp only [clsOf] at this; omega
      refine ⟨fun _ => ⟨A.next, cells, 0, by rw [new_get, if_pos rfl], by simp [h.len]⟩, fun x cells' e' st ok hg => ?_, fun x y cells' e' st ok cells2 e2 st2 ok2 h1 h2 _ _ => ?_, fun hl => absurd hl (Nat.not_lt_zero _), fun _ => ?_, by rw [newRow_next]; omega, fun x cells' e' st ok hg => (hrow _ _ _ _ _ hg).2.2.2.1⟩
      · obtain ⟨_, rfl, rfl, rfl, rfl⟩ := hrow _ _ _ _ _ hg
        refine ⟨rfl, by simp [h.len], fun _ => ⟨rfl, ?_⟩⟩
        rw [List.drop_zero, h.len, List.take_length]
        exact h.mono hw
      · rw [(hrow _ _ _ _ _ h1).1, (hrow _ _ _ _ _ h2).1]
      · rw [newRow_eq, new_eq]
        show A.fz.get A.next = none
        cases hz : A.fz.get A.next with
        | none => rfl
        | some k => have := hi.fz _ _ hz; omega
    · have hkn : k < s.n := by omega
      show RB _ _ (s.n + 1) (if k = s.n then A.next else β k) (if k = s.n then _ else s.h k)
      rw [if_neg he, if_neg he]
      have hb := hs.blk k hkn
      refine hb.mono hw (fun x cells' e' st ok => ?_) (by rw [newRow_eq, new_eq])
      rw [new_get]
      split
      · rename_i hx
        constructor
        · intro hh; injection hh with hh; injection hh with _ _ h3; have := hb.lt; omega
        · intro hh; exact absurd hx (hold _ _ hh)
      · exact Iff.rfl
  · intro j k hj hk he
    have hj' : j < s.n + 1 := hj
    have hk' : k < s.n + 1 := hk
    have he' : (if j = s.n then A.next else β j) = if k = s.n then A.next else β k := he
    split at he' <;> split at he'
    · omega
    · have := (hs.blk k (by omega)).lt; omega
    · have := (hs.blk j (by omega)).lt; omega
    · exact hs.inj j k (by omega) (by omega) he'
  · exact hs.lay.mono hw fun c _ => by rw [newRow_eq, new_eq]
theorem res_ptr (hO : OpsOK P) (hi : Inv A) (hs : RS A β s) {cells : List Value} {cs : List PV} {e : Nat} (h : evalOp P f o A = some (.val (.pointer (some ⟨A.next, 0, none⟩)), EvL.newRow A cells e)) (hc : Rs A β s.n cells cs) :
    Res1 P A β s f o (.ptr s.n 0 cs.length) (s.new ⟨cs, 0, e⟩) E := by
  refine ⟨_, _, _, hO f o A _ _ hi (Nat.le_refl _) h, new_fw hi β s.n cells e _, new_rs hi hs e hc, ?_, new_msk β s.n cells e E⟩
  refine .ptr A.next 0 s.n 0 cs.length e cells 0 true (by show s.n < s.n + 1; omega) ?_ rfl (by simp [hc.len])
  rw [new_get, if_pos rfl, if_pos rfl]
theorem res_row (hO : OpsOK P) (hi : Inv A) (hs : RS A β s) {cells : List Value} {cs : List PV} {e m : Nat} (h : evalOp P f o A = some (.val (.slice (some ⟨A.next, 0, none⟩) m m), EvL.newRow A cells e)) (hc : Rs A β s.n cells cs) :
    Res1 P A β s f o (.own s.n 0 m cs.length) (s.new ⟨cs, 0, e⟩) E := by
  refine ⟨_, _, _, hO f o A _ _ hi (Nat.le_refl _) h, new_fw hi β s.n cells e _, new_rs hi hs e hc, ?_, new_msk β s.n cells e E⟩
  refine .own A.next 0 s.n 0 m cs.length m e cells 0 true (by show s.n < s.n + 1; omega) ?_ rfl (by simp [hc.len]) (Nat.le_refl _)
  rw [new_get, if_pos rfl, if_pos rfl]
end
section
variable {ds : List Deferred} {P : Program} {A : AS} {β : Nat → Nat} {nt : Nat} {f : Fr} {p : PFr} {s s' : PS} {q : PV} {E : Eff} {d : Option Tmp} {ty : TypeId} {pos : String} {af : Array Edge} {gu : Option (Nat × Bool)}
theorem mv_ok (hO : OpsOK P) (hi : Inv A) (hs : RS A β s) (hf : RF ds A β s.n nt f p) {x : Operand} (hx : okX x = true) : Res1 P A β s f ⟨d, .move x, ty, pos, af, gu⟩ (pval p x) s E := by
  obtain ⟨v, h1, h2⟩ := okX_eval hf hx
  exact res_same hO hi hs (by show valR A (f.eval x) = _; rw [h1]; rfl) h2
theorem as_ok (hO : OpsOK P) (hi : Inv A) (hs : RS A β s) (hf : RF ds A β s.n nt f p) {x : Operand} (hx : okX x = true) : Res1 P A β s f ⟨d, .assign x, ty, pos, af, gu⟩ (pval p x) s E := by
  obtain ⟨v, h1, h2⟩ := okX_eval hf hx
  exact res_same hO hi hs (by show valR A (f.eval x) = _; rw [h1]; rfl) h2
theorem asBool_ok {v : Value} {x : PV} {b : Bool} (h : R1 A β s.n v x) (hb : asBool x = some b) : v = .bool b := by
  cases x with
  | sc u =>
    obtain ⟨rfl, _⟩ := h.sc
    cases v with
    | bool c => simp only [asBool] at hb; injection hb with hb; rw [hb]
    | _ => simp [asBool] at hb
  | _ => simp [asBool] at hb
theorem pick_ok (hO : OpsOK P) (hi : Inv A) (hs : RS A β s) (hf : RF ds A β s.n nt f p) {c x y : Operand} (hc : okX c = true) (hx : okX x = true) (hy : okX y = true) (h : opP P p s (.pick c x y) = some (q, s')) : Res1 P A β s f ⟨d, .pick c x y, ty, pos, af, gu⟩ q s' E := by
  obtain ⟨vc, c1, c2⟩ := okX_eval hf hc
  obtain ⟨vx, x1, x2⟩ := okX_eval hf hx
  obtain ⟨vy, y1, y2⟩ := okX_eval hf hy
  simp only [opP] at h
  split at h
  · rename_i hb
    have := asBool_ok c2 hb
    subst this
    injection h with h; injection h with h1 h2; subst h1; subst h2
    exact res_same hO hi hs (by show pickA f (f.eval c) x y A = _; rw [c1]; show valR A (f.eval x) = _; rw [x1]; rfl) x2
  · rename_i hb
    have := asBool_ok c2 hb
    subst this
    injection h with h; injection h with h1 h2; subst h1; subst h2
    exact res_same hO hi hs (by show pickA f (f.eval c) x y A = _; rw [c1]; show valR A (f.eval y) = _; rw [y1]; rfl) y2
  · cases h
theorem box_ok (hO : OpsOK P) (hi : Inv A) (hs : RS A β s) (hf : RF ds A β s.n nt f p) {e : Nat} {x : Operand} (hx : okX x = true) :
    Res1 P A β s f ⟨d, .box e x, ty, pos, af, gu⟩ (.ptr s.n 0 (cellsP (pval p x)).length) (s.new ⟨cellsP (pval p x), 0, e⟩) E := by
  obtain ⟨v, h1, h2⟩ := okX_eval hf hx
  exact res_ptr hO hi hs (by show boxA A e (f.eval x) = _; rw [h1]; rfl) h2.cells
end
end Go.PE
namespace Go.PE
open Go Go.EvL
theorem puts_eq (off : Nat) : ∀ (vs : List Value) (k : Nat) (cs : Array Value), off + k + vs.length ≤ cs.size →
    ((vs.zipIdx k).foldl (fun cs (x : Value × Nat) => cs.setIfInBounds (off + x.2) x.1) cs).toList = cs.toList.take (off + k) ++ (vs ++ cs.toList.drop (off + k + vs.length)) := by
  intro vs
  induction vs with
  | nil => intro k cs _; simp
  | cons v vs ih =>
    intro k cs h
    simp only [List.length_cons] at h
    simp only [List.zipIdx_cons, List.foldl_cons]
    rw [ih (k + 1) _ (by rw [Array.size_setIfInBounds]; omega), Array.toList_setIfInBounds]
    have hlt : off + k < cs.toList.length := by rw [Array.length_toList]; omega
    rw [List.set_eq_take_append_cons_drop, if_pos hlt]
    have h1 : (cs.toList.take (off + k)).length = off + k := by rw [List.length_take]; omega
    rw [show off + (k + 1) = (off + k) + 1 by omega, List.take_append, h1, List.take_of_length_le (by rw [h1]; omega), show off + k + 1 - (off + k) = 1 by omega, List.take_succ_cons, List.take_zero]
    rw [List.drop_append, h1, List.drop_of_length_le (by rw [h1]; omega), show off + k + 1 + vs.length - (off + k) = vs.length + 1 by omega, List.drop_succ_cons, List.drop_drop]
    simp only [List.nil_append, List.length_cons, List.append_assoc, List.cons_append]
    rw [show off + k + 1 + vs.length = off + k + (vs.length + 1) by omega]
section
variable {ds : List Deferred} {P : Program} {A : AS} {β : Nat → Nat} {nt : Nat} {f : Fr} {p : PFr} {s s' : PS} {q : PV} {E : Eff} {d : Option Tmp} {ty : TypeId} {pos : String} {af : Array Edge} {gu : Option (Nat × Bool)}
theorem zcells {n : Nat} {z : Value} (h : okZ z = true) : Rs A β n z.cells.toList (cellsP (pvOf z)) := by
  cases z with
  | agg cs => exact Cs.up (plain_cells _ h)
  | func fn a b => cases h
  | _ => exact .cons _ _ _ _ (.cl _ _ (.sc _ h)) .nil
theorem zcells' {n : Nat} {z : Value} (h : okZ z = true) : Rs A β n z.cells.toList (z.cells.toList.map .sc) := by
  cases z with
  | agg cs => exact Cs.up (plain_cells _ h)
  | func fn a b => cases h
  | _ => exact .cons _ _ _ _ (.cl _ _ (.sc _ h)) .nil
theorem alloc_ok (hO : OpsOK P) (hi : Inv A) (hs : RS A β s) {e : Nat} {z : Value} (hz : zeroOf P e = some z) (ho : okZ z = true) :
    Res1 P A β s f ⟨d, .alloc e, ty, pos, af, gu⟩ (.ptr s.n 0 (cellsP (pvOf z)).length) (s.new ⟨cellsP (pvOf z), 0, e⟩) E :=
  res_ptr hO hi hs (by show boxA A e (zeroOf P e) = _; rw [hz]; rfl) (zcells ho)
theorem fill_ok {n : Nat} (hf : RF ds A β n nt f p) {g : Nat → Option (Nat × Nat)} : ∀ (ps : List (Nat × Operand)) (l : List (Nat × Nat × Operand)) (zc : Array Value) (zp cs : List PV), Rs A β n zc.toList zp → partsP g ps = some l → fillP p zp l = some cs →
    ∃ vs out, evalParts f ps = some vs ∧ Instr.fill g zc vs = some out ∧ Rs A β n out.toList cs := by
  intro ps
  induction ps with
  | nil =>
    intro l zc zp cs hz hp hc
    simp only [partsP] at hp
    injection hp with hp; subst hp
    simp only [fillP] at hc
    injection hc with hc; subst hc
    exact ⟨[], zc, rfl, rfl, hz⟩
  | cons y ps ih =>
    intro l zc zp cs hz hp hc
    obtain ⟨i, x⟩ := y
    simp only [partsP] at hp
    split at hp
    · rename_i off sz r hg hx hr
      injection hp with hp; subst hp
      simp only [fillP] at hc
      split at hc
      · rename_i hl
        obtain ⟨v, h1, h2⟩ := okX_eval hf hx
        have hcl := h2.cells
        have hlen := hcl.len
        have hzl := hz.len
        rw [Array.length_toList] at hlen hzl
        have hput : Rs A β n (v.cells.zipIdx.foldl (fun cs (x : Value × Nat) => cs.setIfInBounds (off + x.2) x.1) zc).toList (zp.take off ++ (cellsP (pval p x) ++ zp.drop (off + sz))) := by
          rw [← Array.foldl_toList, Array.toList_zipIdx]
          have := puts_eq off v.cells.toList 0 zc (by rw [Array.length_toList]; omega)
          rw [this, Nat.add_zero, Array.length_toList, hlen, hl.1]
          exact (hz.take off).app (hcl.app (hz.drop _))
        obtain ⟨vs, out, e1, e2, e3⟩ := ih r _ _ cs hput hr hc
        refine ⟨(i, v) :: vs, out, ?_, ?_, e3⟩
        · show (match f.eval x with | some v => (match evalParts f ps with | some vs => some ((i, v) :: vs) | none => none) | none => none) = _
          rw [h1, e1]
        · simp only [Instr.fill]
          rw [hg]
          simp only
          rw [if_neg (by simp; omega)]
          exact e2
      · cases hc
    · cases hp
theorem build_ok (hO : OpsOK P) (hi : Inv A) (hs : RS A β s) (hf : RF ds A β s.n nt f p) {t : Nat} {ps : Array (Nat × Operand)} {z : Value} {fs : Array Field} {l : List (Nat × Nat × Operand)} {cs : List PV} (hz : zeroOf P t = some z) (hu : P.underlying t = some (.struct fs))
    (hp : partsP (fun i => (fs[i]?).bind fun fl => (szOf P fl.type).map fun n => (fl.offset, n)) ps.toList = some l) (hb : Nat.ble (Nat.succ t) P.types.size = true) (ho : okZ z = true) (hc : fillP p (z.cells.toList.map .sc) l = some cs) :
    Res1 P A β s f ⟨d, .build t ps, ty, pos, af, gu⟩ (.agg cs) s E := by
  obtain ⟨vs, out, e1, e2, e3⟩ := fill_ok hf ps.toList l z.cells _ cs (zcells' ho) hp hc
  refine res_same hO hi hs (u := .agg out) ?_ (.agg _ _ e3)
  show buildA P f t ps A = _
  unfold buildA
  rw [hz, hu, e1]
  simp only
  rw [hb, e2]
  rfl
theorem rep_rs {n : Nat} {l : List Value} {r : List PV} (h : Rs A β n l r) : ∀ k, Rs A β n (List.replicate k l).flatten (List.replicate k r).flatten := by
  intro k
  induction k with
  | zero => exact .nil
  | succ k ih => simp only [List.replicate_succ, List.flatten_cons]; exact h.app ih
theorem bslice_ok (hO : OpsOK P) (hi : Inv A) (hs : RS A β s) (hf : RF ds A β s.n nt f p) {t e len n : Nat} {ps : Array (Nat × Operand)} {z : Value} {l : List (Nat × Nat × Operand)} {cs : List PV} (hu : P.underlying t = some (.slice e)) (hz : zeroOf P e = some z) (hn : szOf P e = some n)
    (hp : partsP (fun i => some (i * n, n)) ps.toList = some l) (hb : Nat.ble (Nat.mul len n) 1048576 = true) (hzl : Nat.beq z.cells.toList.length n = true) (ho : okZ z = true) (hc : fillP p ((List.replicate len z.cells.toList).flatten.map .sc) l = some cs) :
    Res1 P A β s f ⟨d, .buildSlice t len ps, ty, pos, af, gu⟩ (.own s.n 0 len cs.length) (s.new ⟨cs, 0, e⟩) E := by
  have hzz : Rs A β s.n (List.replicate len z.cells.toList).flatten ((List.replicate len z.cells.toList).flatten.map .sc) := by
    have := rep_rs (A := A) (β := β) (n := s.n) (zcells' (z := z) ho) len
    rw [List.map_flatten, List.map_replicate]
    exact this
  obtain ⟨vs, out, e1, e2, e3⟩ := fill_ok hf ps.toList l (List.replicate len z.cells.toList).flatten.toArray _ cs (by simpa using hzz) hp hc
  refine res_row hO hi hs (cells := out.toList) ?_ e3
  show buildSliceA P f t len ps A = _
  unfold buildSliceA
  rw [hu]
  simp only
  rw [hz, hn, e1]
  simp only
  rw [if_pos (by rw [hb, hzl]; rfl), e2]
  rfl
theorem load_ok (hO : OpsOK P) (hi : Inv A) (hs : RS A β s) (hf : RF ds A β s.n nt f p) {t sz : Nat} {ag : Bool} {x : Operand} {dd : TypeDesc} (hx : okX x = true) (hd : P.underlying t = some dd) (hag : isAggD (some dd) = ag) (hsz : if ag then szOf P t = some sz else sz = 1)
    (h : opP P p s (.load t ag sz x) = some (q, s')) : Res1 P A β s f ⟨d, .load t x, ty, pos, af, gu⟩ q s' (effA (pval p x)) := by
  obtain ⟨v, h1, h2⟩ := okX_evalG (P := P) hf hx
  simp only [opP, Option.bind_eq_some_iff, Option.map_eq_some_iff] at h
  obtain ⟨cs, hcs, v', hv', he⟩ := h
  injection he with he1 he2; subst he1; subst he2
  obtain ⟨b, o, xs, c, rfl, hl, hr, _, hef⟩ := ldP_ok hs h2 hcs
  obtain ⟨u, k1, k2⟩ := loadIn_ok hag hsz hl hr hv'
  refine res_read hO hi hs (u := u) (c := c) ?_ k2 (by
    rcases hef with ⟨k, _, hk, rfl⟩ | ⟨_, hp⟩
    · exact (hs.blk k hk).lt
    · exact hp.1) hef
  show loadA P t (evalG P f x) A = _
  rw [h1]
  show (match P.underlying t with | some d => loadIn P t d b o A | none => none) = _
  rw [hd]
  exact k1
theorem faddr_ok (hO : OpsOK P) (hi : Inv A) (hs : RS A β s) (hf : RF ds A β s.n nt f p) {t i m : Nat} {x : Operand} {fs : Array Field} {fl : Field} (hx : okX x = true) (hfs : fieldsOf P t = some fs) (hfl : fs[i]? = some fl) (hsz : szOf P fl.type = some (m + 1))
    (h : opP P p s (.faddr fl.offset x) = some (q, s')) : Res1 P A β s f ⟨d, .fieldAddr t x i, ty, pos, af, gu⟩ q s' E := by
  obtain ⟨v, h1, h2⟩ := okX_evalG (P := P) hf hx
  have key : ∀ b o, v = .pointer (some ⟨b, o, none⟩) → evalOp P f ⟨d, .fieldAddr t x i, ty, pos, af, gu⟩ A = some (.val (.pointer (some ⟨b, o + fl.offset, none⟩)), A) := by
    rintro b o rfl
    show fieldAddrA P t (evalG P f x) i A = _
    rw [h1]
    unfold fieldAddrA
    simp only [hfs, hfl, hsz]
    rfl
  simp only [opP] at h
  split at h
  · rename_i k off fin hp
    injection h with h; injection h with e1 e2; subst e1; subst e2
    rw [hp] at h2
    cases h2 with
    | cl _ _ h => cases h
    | ptr b o _ _ _ e cells st ok hk hg ho hf' =>
      exact res_same hO hi hs (key b o rfl) (.ptr b (o + fl.offset) k _ fin e cells st ok hk hg (by omega) hf')
  · rename_i cs hp
    split at h
    · rename_i hle
      injection h with h; injection h with e1 e2; subst e1; subst e2
      rw [hp] at h2
      have h3 := h2.litp
      cases h3 with
      | litp b off e _ cells c st hg hpr hl hh =>
        refine res_same hO hi hs (key b off rfl) (.cl _ _ (.litp b (off + fl.offset) e _ cells c st hg hpr (by rw [List.length_drop]; omega) ?_))
        have := Cs.drop hh fl.offset
        rw [List.drop_take, List.drop_drop] at this
        rw [List.length_drop]
        exact this
    · cases h
  · cases h
theorem ofCells_part {n : Nat} {ag : Bool} {xs : List Value} {cs : List PV} {v : PV} (h : Rs A β n xs cs) (hv : ofCells ag cs = some v) : (ag = true ∧ R1 A β n (.agg xs.toArray) v) ∨ (ag = false ∧ ∃ u, xs = [u] ∧ R1 A β n u v) := by
  cases ag with
  | true =>
    simp only [ofCells, if_true] at hv
    injection hv with hv; subst hv
    exact .inl ⟨rfl, .agg _ _ (by simpa using h)⟩
  | false =>
    simp only [ofCells] at hv
    rw [if_neg (by simp)] at hv
    split at hv
    · injection hv with hv; subst hv
      cases h with
      | cons u _ l _ h hn => cases hn; exact .inr ⟨rfl, u, rfl, h⟩
    · cases hv
theorem fld_ok (hO : OpsOK P) (hi : Inv A) (hs : RS A β s) (hf : RF ds A β s.n nt f p) {t i sz : Nat} {ag : Bool} {x : Operand} {fs : Array Field} {fl : Field} {dd : TypeDesc} (hx : okX x = true) (hfs : fieldsOf P t = some fs) (hfl : fs[i]? = some fl) (hd : P.underlying fl.type = some dd) (hag : isAggD (some dd) = ag)
    (hsz : if ag then szOf P fl.type = some sz else sz = 1) (h : opP P p s (.fld ag fl.offset sz x) = some (q, s')) : Res1 P A β s f ⟨d, .field t x i, ty, pos, af, gu⟩ q s' E := by
  obtain ⟨v, h1, h2⟩ := okX_eval hf hx
  simp only [opP] at h
  split at h
  · rename_i cs hp
    rw [hp] at h2
    split at h
    · rename_i hle
      simp only [Option.map_eq_some_iff] at h
      obtain ⟨v', hv', he⟩ := h
      injection he with e1 e2; subst e1; subst e2
      obtain ⟨xs, rfl, hxs⟩ : ∃ xs, v = .agg xs ∧ Rs A β s.n xs.toList cs := by
        cases h2 with
        | cl _ _ h => cases h with | agg xs _ h => exact ⟨xs, rfl, Cs.up h⟩
        | agg xs _ h => exact ⟨xs, rfl, h⟩
      have hpart : partA P fl.type xs.toList fl.offset = Bool.rec xs.toList[fl.offset]? ((szOf P fl.type).map fun n => .agg ((xs.toList.drop fl.offset).take n).toArray) ag := by
        unfold partA; rw [hd]; simp only [hag]
      have hev : ∀ u, partA P fl.type xs.toList fl.offset = some u → evalOp P f ⟨d, .field t x i, ty, pos, af, gu⟩ A = some (.val u, A) := fun u hu => by
        show fieldA P t (f.eval x) i A = _
        rw [h1]
        unfold fieldA
        simp only [hfs, hfl, hu]
        rfl
      have hrs := (hxs.drop fl.offset).take sz
      rcases ofCells_part hrs hv' with ⟨rfl, hr⟩ | ⟨rfl, u, hu, hr⟩
      · have hsz' : szOf P fl.type = some sz := by simpa using hsz
        refine res_same hO hi hs (hev _ ?_) hr
        rw [hpart, hsz']; rfl
      · have : sz = 1 := by simpa using hsz
        subst this
        refine res_same hO hi hs (hev u ?_) hr
        rw [hpart]
        show xs.toList[fl.offset]? = some u
        rw [← List.head?_drop]
        cases hdr : xs.toList.drop fl.offset with
        | nil => rw [hdr] at hu; cases hu
        | cons y l => rw [hdr] at hu; simp only [List.take_succ_cons, List.take_zero] at hu; injection hu with hu; rw [hu]; rfl
    · cases h
  · cases h
theorem natP_ok {n : Nat} {v : Value} {x : PV} {j : Nat} (h : R1 A β n v x) (hj : natP x = some j) : natOf? v = some j ∧ ∃ k, v = .int k (j : Int) := by
  cases x with
  | sc u =>
    obtain ⟨rfl, _⟩ := h.sc
    cases v with
    | int k z =>
      simp only [natP] at hj
      split at hj
      · rename_i hz
        injection hj with hj
        obtain ⟨m, rfl⟩ := Int.eq_ofNat_of_zero_le hz
        simp only [Int.toNat_natCast] at hj
        subst hj
        exact ⟨rfl, k, rfl⟩
      · cases hj
    | _ => simp [natP] at hj
  | _ => simp [natP] at hj
theorem iaddr_ok (hO : OpsOK P) (hi : Inv A) (hs : RS A β s) (hf : RF ds A β s.n nt f p) {t e es : Nat} {x y : Operand} (hx : okX x = true) (hy : okX y = true) (hu : P.underlying t = some (.slice e)) (hsz : szOf P e = some es)
    (h : opP P p s (.iaddr es x y) = some (q, s')) : Res1 P A β s f ⟨d, .indexAddr t x y, ty, pos, af, gu⟩ q s' E := by
  obtain ⟨v, h1, h2⟩ := okX_evalG (P := P) hf hx
  obtain ⟨vi, i1, i2⟩ := okX_eval hf hy
  have key : ∀ b o m cap j, v = .slice (some ⟨b, o, none⟩) m cap → natOf? vi = some j → j < m → evalOp P f ⟨d, .indexAddr t x y, ty, pos, af, gu⟩ A = some (.val (.pointer (some ⟨b, o + j * es, none⟩)), A) := by
    rintro b o m cap j rfl hj hlt
    show indexAddrA P t (evalG P f x) (f.eval y) A = _
    rw [h1, i1]
    unfold indexAddrA
    rw [hu]
    simp only [Option.bind_some, hj]
    unfold elemAt
    rw [hsz]
    simp only
    rw [Nat.ble_eq_true_of_le (Nat.succ_le_of_lt hlt)]
    rfl
  have keyX : ∀ b o m j, v = .slice (some ⟨b, o, some 0⟩) m m → natOf? vi = some j → j < m → evalOp P f ⟨d, .indexAddr t x y, ty, pos, af, gu⟩ A = some (.val (.pointer (some ⟨b, o + j * es, none⟩)), A) := by
    rintro b o m j rfl hj hlt
    show indexAddrA P t (evalG P f x) (f.eval y) A = _
    rw [h1, i1]
    unfold indexAddrA
    rw [hu]
    simp only [Option.bind_some, hj]
    unfold elemAt
    rw [hsz]
    simp only
    rw [Nat.ble_eq_true_of_le (Nat.succ_le_of_lt hlt)]
    rfl
  simp only [opP] at h
  split at h
  · rename_i k off m fin j hp hj
    split at h
    · rename_i hc
      injection h with h; injection h with e1 e2; subst e1; subst e2
      rw [hp] at h2
      cases h2 with
      | cl _ _ h => cases h
      | own b o _ _ _ _ cap e' cells st ok hk hg ho hf' hm =>
        exact res_same hO hi hs (key b o m cap j rfl (natP_ok i2 hj).1 hc.1) (.ptr b (o + j * es) k _ fin e' cells st ok hk hg (by omega) hf')
    · cases h
  · rename_i e' m cs j hp hj
    split at h
    · rename_i hc
      injection h with h; injection h with e1 e2; subst e1; subst e2
      rw [hp] at h2
      have h3 := h2.lit
      cases h3 with
      | lit b off _ cap _ _ cells c st hg hpr hl hm hh =>
        have hle : j * es ≤ cs.length := by rw [hc.2]; exact Nat.mul_le_mul_right _ (Nat.le_of_lt hc.1)
        refine res_same hO hi hs (key b off m cap j rfl (natP_ok i2 hj).1 hc.1) (.cl _ _ (.litp b (off + j * es) e' _ cells c st hg hpr (by rw [List.length_drop]; omega) ?_))
        have := Cs.drop hh (j * es)
        rw [List.drop_take, List.drop_drop] at this
        rw [List.length_drop]
        exact this
    · cases h
  · rename_i e' m cs j hp hj
    split at h
    · rename_i hc
      injection h with h; injection h with e1 e2; subst e1; subst e2
      rw [hp] at h2
      have h3 := h2.litx
      cases h3 with
      | litx b off _ _ _ cells c st hg hpr hl hh =>
        have hle : j * es ≤ cs.length := by rw [hc.2]; exact Nat.mul_le_mul_right _ (Nat.le_of_lt hc.1)
        refine res_same hO hi hs (keyX b off m j rfl (natP_ok i2 hj).1 hc.1) (.cl _ _ (.litp b (off + j * es) e' _ cells c st hg hpr (by rw [List.length_drop]; omega) ?_))
        have := Cs.drop hh (j * es)
        rw [List.drop_take, List.drop_drop] at this
        rw [List.length_drop]
        exact this
    · cases h
  · rename_i k off m fin j hp hj
    split at h
    · rename_i hc
      injection h with h; injection h with e1 e2; subst e1; subst e2
      rw [hp] at h2
      cases h2 with
      | cl _ _ h => cases h
      | ownx b o _ _ _ _ e' cells st ok hk hg ho hf' =>
        exact res_same hO hi hs (keyX b o m j rfl (natP_ok i2 hj).1 hc.1) (.ptr b (o + j * es) k _ fin e' cells st ok hk hg (by omega) hf')
    · cases h
  · cases h
theorem sidx_ok (hO : OpsOK P) (hi : Inv A) (hs : RS A β s) (hf : RF ds A β s.n nt f p) {t : Nat} {x y : Operand} (hx : okX x = true) (hy : okX y = true) (hu : P.underlying t = some .string)
    (h : opP P p s (.sidx x y) = some (q, s')) : Res1 P A β s f ⟨d, .index t x y, ty, pos, af, gu⟩ q s' E := by
  obtain ⟨v, h1, h2⟩ := okX_eval hf hx
  obtain ⟨vi, i1, i2⟩ := okX_eval hf hy
  simp only [opP] at h
  split at h
  · rename_i b j hp hj
    split at h
    · rename_i hc
      injection h with h; injection h with e1 e2; subst e1; subst e2
      rw [hp] at h2
      obtain ⟨rfl, _⟩ := h2.sc
      refine res_same hO hi hs (u := .int .u8 ((b.data.toList.getD j 0).toNat : Int)) ?_ (.cl _ _ (.sc _ rfl))
      show indexA P f _ t (f.eval x) (f.eval y) A = _
      rw [h1, i1]
      unfold indexA
      simp only [hu, Option.bind_some, (natP_ok i2 hj).1]
      rw [List.getElem?_eq_getElem hc]
      unfold byteA
      simp only [forceN_eq, List.getD_eq_getElem?_getD, List.getElem?_eq_getElem hc, Option.getD_some]
      rfl
    · cases h
  · cases h
end
end Go.PE
namespace Go.PE
open Go Go.EvL
section
variable {ds : List Deferred} {P : Program} {A : AS} {β : Nat → Nat} {nt : Nat} {f : Fr} {p : PFr} {s s' : PS} {q : PV} {E : Eff} {d : Option Tmp} {ty : TypeId} {pos : String} {af : Array Edge} {gu : Option (Nat × Bool)}
theorem scalar_plain {v : Value} (h : scalar v = true) : plain 50 v = true ∧ sok v = true := by
  cases v <;> first | (cases h; done) | exact ⟨rfl, rfl⟩
theorem res_sound {o : Oper} (hs : RS A β s) {u : Value} (h : Sound P f A o (.val u) A) (hq : R1 A β s.n u q) : Res1 P A β s f o q s E :=
  ⟨u, A, β, h, .refl A β s.n _, hs, hq, .same A β s.n E⟩
theorem scs_eq {l : List Value} : ∀ {cs : List PV} {a : List Value}, scs cs = some a → Rs A β s.n l cs → l = a ∧ a.all scalar = true := by
  intro cs
  induction cs generalizing l with
  | nil => intro a h hr; injection h with h; subst h; cases hr; exact ⟨rfl, rfl⟩
  | cons c cs ih =>
    intro a h hr
    cases c with
    | sc v =>
      simp only [scs] at h
      split at h
      · rename_i hv
        rw [Option.map_eq_some_iff] at h
        obtain ⟨b, hb, rfl⟩ := h
        cases hr with
        | cons u _ l' _ hu hs' =>
          obtain ⟨rfl, h2⟩ := ih hb hs'
          obtain ⟨rfl, _⟩ := R1.sc hu
          exact ⟨rfl, by simp [hv, h2]⟩
      · cases h
    | _ => cases h
theorem scs_agg {v : Value} {cs : List PV} {a : List Value} (h : scs cs = some a) (hr : R1 A β s.n v (.agg cs)) : v = .agg a.toArray ∧ plain 50 v = true := by
  have key : ∀ xs : Array Value, Rs A β s.n xs.toList cs → xs = a.toArray ∧ plain 50 (.agg xs) = true := by
    intro xs hx
    obtain ⟨h1, h2⟩ := scs_eq h hx
    refine ⟨by rw [← h1], ?_⟩
    show xs.toList.all (plain 49) = true
    rw [h1]
    rw [List.all_eq_true] at h2 ⊢
    intro x hx
    have := h2 x hx
    cases x <;> first | (cases this; done) | rfl
  cases hr with
  | cl _ _ h' => cases h' with | agg xs _ h' => obtain ⟨e1, e2⟩ := key xs (Cs.up h'); exact ⟨by rw [e1], e2⟩
  | agg xs _ h' => obtain ⟨e1, e2⟩ := key xs h'; exact ⟨by rw [e1], e2⟩
theorem bin_ok (hi : Inv A) (hs : RS A β s) (hf : RF ds A β s.n nt f p) {t u : Nat} {op : BinOp} {x y : Operand} (hx : okX x = true) (hy : okX y = true) (h : opP P p s (.bin op t x y) = some (q, s')) : Res1 P A β s f ⟨d, .binOp op t x y u, ty, pos, af, gu⟩ q s' E := by
  obtain ⟨vx, x1, x2⟩ := okX_eval hf hx
  obtain ⟨vy, y1, y2⟩ := okX_eval hf hy
  simp only [opP, Option.map_eq_some_iff] at h
  obtain ⟨v', hv, he⟩ := h
  injection he with e1 e2; subst e1; subst e2
  unfold binP at hv
  split at hv
  · rename_i a b hpx hpy
    split at hv
    · rename_i hsc
      rw [Bool.and_eq_true] at hsc
      split at hv
      · rename_i r hr
        split at hv
        · rename_i hrs
          injection hv with hv; subst hv
          rw [hpx] at x2
          rw [hpy] at y2
          obtain ⟨rfl, _⟩ := x2.sc
          obtain ⟨rfl, _⟩ := y2.sc
          refine res_sound hs (sound_same hi fun φ w a hf' => ?_) (.cl _ _ (.sc _ (scalar_plain hrs).2))
          have ex : a.eval x = vx := plain_eq φ 50 _ _ (scalar_plain hsc.1).1 (hf'.eval x1)
          have ey : a.eval y = vy := plain_eq φ 50 _ _ (scalar_plain hsc.2).1 (hf'.eval y1)
          have hrun := pureRun_ok P _ hr w
          have e : (execOp a.eval ⟨d, .binOp op t x y u, ty, pos, af, gu⟩).run P w = .ok (.value r) w := by
            refine run_v (s := do eqGuard op t x y (a.eval x) (a.eval y); binOp op t (a.eval x) (a.eval y)) ?_
            rw [ex, ey]; exact hrun
          rw [e]
          exact .val _ _ (plain_self φ 50 _ (scalar_plain hrs).1)
        · cases hv
      · cases hv
    · cases hv
  · rename_i cs ds hpx hpy
    split at hv
    · rename_i a b ha hb
      split at hv
      · rename_i r hr
        split at hv
        · rename_i hrs
          injection hv with hv; subst hv
          rw [hpx] at x2
          rw [hpy] at y2
          obtain ⟨rfl, px⟩ := scs_agg ha x2
          obtain ⟨rfl, py⟩ := scs_agg hb y2
          refine res_sound hs (sound_same hi fun φ w a hf' => ?_) (.cl _ _ (.sc _ (scalar_plain hrs).2))
          have ex := plain_eq φ 50 _ _ px (hf'.eval x1)
          have ey := plain_eq φ 50 _ _ py (hf'.eval y1)
          have hrun := pureRun_ok P _ hr w
          have e : (execOp a.eval ⟨d, .binOp op t x y u, ty, pos, af, gu⟩).run P w = .ok (.value r) w := by
            refine run_v (s := do eqGuard op t x y (a.eval x) (a.eval y); binOp op t (a.eval x) (a.eval y)) ?_
            rw [ex, ey]; exact hrun
          rw [e]
          exact .val _ _ (plain_self φ 50 _ (scalar_plain hrs).1)
        · cases hv
      · cases hv
    · cases hv
  · cases hv
theorem un_ok (hi : Inv A) (hs : RS A β s) (hf : RF ds A β s.n nt f p) {t : Nat} {op : UnOp} {x : Operand} (hx : okX x = true) (h : opP P p s (.un op x) = some (q, s')) : Res1 P A β s f ⟨d, .unOp op t x, ty, pos, af, gu⟩ q s' E := by
  obtain ⟨vx, x1, x2⟩ := okX_eval hf hx
  simp only [opP, Option.map_eq_some_iff] at h
  obtain ⟨v', hv, he⟩ := h
  injection he with e1 e2; subst e1; subst e2
  unfold unP at hv
  split at hv
  · rename_i a hpx
    split at hv
    · rename_i hsc
      split at hv
      · rename_i r hr
        split at hv
        · rename_i hrs
          injection hv with hv; subst hv
          rw [hpx] at x2
          obtain ⟨rfl, _⟩ := x2.sc
          refine res_sound hs (sound_same hi fun φ w a hf' => ?_) (.cl _ _ (.sc _ (scalar_plain hrs).2))
          have ex : a.eval x = vx := plain_eq φ 50 _ _ (scalar_plain hsc).1 (hf'.eval x1)
          have e : (execOp a.eval ⟨d, .unOp op t x, ty, pos, af, gu⟩).run P w = .ok (.value r) w := by
            refine run_v (s := Op.unary op (a.eval x)) ?_
            rw [ex]; exact pureRun_ok P _ hr w
          rw [e]
          exact .val _ _ (plain_self φ 50 _ (scalar_plain hrs).1)
        · cases hv
      · cases hv
    · cases hv
  · cases hv
theorem conv_ok (hi : Inv A) (hs : RS A β s) (hf : RF ds A β s.n nt f p) {t u : Nat} {k k' : IntKind} {x : Operand} (hx : okX x = true) (ht : P.underlying t = some (.int k')) (hu : P.underlying u = some (.int k)) (h : opP P p s (.conv k x) = some (q, s')) : Res1 P A β s f ⟨d, .convert t u x, ty, pos, af, gu⟩ q s' E := by
  obtain ⟨vx, x1, x2⟩ := okX_eval hf hx
  simp only [opP, Option.map_eq_some_iff] at h
  obtain ⟨v', hv, he⟩ := h
  injection he with e1 e2; subst e1; subst e2
  unfold convP at hv
  split at hv
  · rename_i k2 z hpx
    injection hv with hv; subst hv
    rw [hpx] at x2
    obtain ⟨rfl, _⟩ := x2.sc
    refine res_sound hs (sound_same hi fun φ w a hf' => ?_) (.cl _ _ (.sc _ rfl))
    have ex : a.eval x = .int k2 z := plain_eq φ 50 _ _ rfl (hf'.eval x1)
    have e : (execOp a.eval ⟨d, .convert t u x, ty, pos, af, gu⟩).run P w = .ok (.value (.int k (k.wrap z))) w := by
      refine run_v (s := convert t u (a.eval x)) ?_
      rw [ex]
      simp only [convert, Sem.run_bind, run_underlying ht, run_underlying hu, Result.andThen]
      rfl
    rw [e]
    exact .val _ _ (.int _ _)
  · cases hv
theorem len_ok (hO : OpsOK P) (hi : Inv A) (hs : RS A β s) (hf : RF ds A β s.n nt f p) {t : Nat} {str : Bool} {x : Operand} {dd : TypeDesc} (hx : okX x = true) (hu : P.underlying t = some dd) (hd : (str = false ∧ ∃ e, dd = .slice e) ∨ (str = true ∧ dd = .string))
    (h : opP P p s (.len str x) = some (q, s')) : Res1 P A β s f ⟨d, .call ⟨.builtin .len, #[x], #[t]⟩, ty, pos, af, gu⟩ q s' E := by
  obtain ⟨vx, x1, x2⟩ := okX_eval hf hx
  simp only [opP, Option.map_eq_some_iff] at h
  obtain ⟨v', hv, he⟩ := h
  injection he with e1 e2; subst e1; subst e2
  have key : ∀ m : Nat, lenA P f ⟨d, .call ⟨.builtin .len, #[x], #[t]⟩, ty, pos, af, gu⟩ (some dd) (some vx) A = some (.val (.int .i64 (m : Int)), A) → evalOp P f ⟨d, .call ⟨.builtin .len, #[x], #[t]⟩, ty, pos, af, gu⟩ A = some (.val (.int .i64 (m : Int)), A) := fun m hm => by
    show lenA P f _ (P.underlying t) (f.eval x) A = _
    rw [hu, x1]; exact hm
  unfold lenP at hv
  split at hv
  · rename_i hpx
    injection hv with hv; subst hv
    rw [hpx] at x2
    obtain ⟨rfl, _⟩ := x2.sc
    rcases hd with ⟨_, e, rfl⟩ | ⟨h, _⟩
    · exact res_same hO hi hs (key 0 rfl) (.cl _ _ (.sc _ rfl))
    · cases h
  · rename_i b hpx
    injection hv with hv; subst hv
    rw [hpx] at x2
    obtain ⟨rfl, _⟩ := x2.sc
    rcases hd with ⟨h, _⟩ | ⟨_, rfl⟩
    · cases h
    · exact res_same hO hi hs (key _ (by unfold lenA; simp only [forceN_eq]; rfl)) (.cl _ _ (.sc _ rfl))
  · rename_i e m cs hpx
    injection hv with hv; subst hv
    rw [hpx] at x2
    have x3 := x2.lit
    rcases hd with ⟨_, e', rfl⟩ | ⟨h, _⟩
    · cases x3
      exact res_same hO hi hs (key _ rfl) (.cl _ _ (.sc _ rfl))
    · cases h
  · rename_i e m cs hpx
    injection hv with hv; subst hv
    rw [hpx] at x2
    have x3 := x2.litx
    rcases hd with ⟨_, e', rfl⟩ | ⟨h, _⟩
    · cases x3
      exact res_same hO hi hs (key _ rfl) (.cl _ _ (.sc _ rfl))
    · cases h
  · rename_i k off m fin hpx
    injection hv with hv; subst hv
    rw [hpx] at x2
    rcases hd with ⟨_, e', rfl⟩ | ⟨h, _⟩
    · cases x2 with
      | cl _ _ h => cases h
      | own => exact res_same hO hi hs (key _ rfl) (.cl _ _ (.sc _ rfl))
    · cases h
  · rename_i k off m fin hpx
    injection hv with hv; subst hv
    rw [hpx] at x2
    rcases hd with ⟨_, e', rfl⟩ | ⟨h, _⟩
    · cases x2 with
      | cl _ _ h => cases h
      | ownx => exact res_same hO hi hs (key _ rfl) (.cl _ _ (.sc _ rfl))
    · cases h
  · cases hv
theorem evals_ok {n : Nat} (hf : RF ds A β n nt f p) : ∀ (l : List Operand), l.all okX = true → ∃ vs, evals f l = some vs ∧ Rs A β n vs (l.map (pval p)) := by
  intro l
  induction l with
  | nil => intro _; exact ⟨[], rfl, .nil⟩
  | cons x l ih =>
    intro h
    rw [List.all_cons, Bool.and_eq_true] at h
    obtain ⟨v, h1, h2⟩ := okX_eval hf h.1
    obtain ⟨vs, h3, h4⟩ := ih h.2
    refine ⟨v :: vs, ?_, .cons _ _ _ _ h2 h4⟩
    show (match f.eval x with | some v => (match evals f l with | some vs => some (v :: vs) | none => none) | none => none) = _
    rw [h1, h3]
theorem mkfn_ok (hO : OpsOK P) (hi : Inv A) (hs : RS A β s) (hf : RF ds A β s.n nt f p) {g : Nat} {a b : Array Operand} (ha : a.toList.all okX = true) (hb : b.toList.all okX = true) :
    Res1 P A β s f ⟨d, .makeFunc (.func g) a b, ty, pos, af, gu⟩ (.fn g (a.toList.map (pval p)) (b.toList.map (pval p))) s E := by
  obtain ⟨vs, a1, a2⟩ := evals_ok hf _ ha
  obtain ⟨us, b1, b2⟩ := evals_ok hf _ hb
  refine res_same hO hi hs (u := .func (.func g) vs.toArray us.toArray) ?_ (.fn g _ _ _ _ (by simpa using a2) (by simpa using b2))
  show funcA f (.func g) a b A = _
  unfold funcA
  simp only [a1, b1]
theorem Rs.get {n : Nat} {l : List Value} {r : List PV} (h : Rs A β n l r) {i : Nat} {v : PV} (hv : r[i]? = some v) : ∃ u, l[i]? = some u ∧ R1 A β n u v := by
  induction r generalizing l i with
  | nil => simp at hv
  | cons x r ih =>
    cases h with
    | cons u _ l _ h hn =>
      cases i with
      | zero => simp at hv; subst hv; exact ⟨u, by simp, h⟩
      | succ i => simp only [List.getElem?_cons_succ] at hv ⊢; exact ih hn hv
theorem ext_ok (hO : OpsOK P) (hi : Inv A) (hs : RS A β s) (hf : RF ds A β s.n nt f p) {i : Nat} {x : Operand} (hx : okX x = true) (h : opP P p s (.ext x i) = some (q, s')) : Res1 P A β s f ⟨d, .extract x i, ty, pos, af, gu⟩ q s' E := by
  obtain ⟨vx, x1, x2⟩ := okX_eval hf hx
  simp only [opP] at h
  split at h
  · rename_i vs hp
    simp only [Option.map_eq_some_iff] at h
    obtain ⟨v, hv, he⟩ := h
    injection he with e1 e2; subst e1; subst e2
    rw [hp] at x2
    cases x2 with
    | cl _ _ h => cases h
    | tup xs _ h =>
      obtain ⟨u, h1, h2⟩ := Rs.get h hv
      refine res_same hO hi hs (u := u) ?_ h2
      show extractA (f.eval x) i A = _
      rw [x1]
      show valR A xs.toList[i]? = _
      rw [h1]; rfl
  · cases h
theorem optP_ok {n : Nat} (hf : RF ds A β n nt f p) {x : Option Operand} (hx : optX x = true) {dflt m : Nat} (h : optP p x dflt = some m) : optNat f x dflt = some m := by
  cases x with
  | none => exact h
  | some x =>
    obtain ⟨v, h1, h2⟩ := okX_eval hf (x := x) hx
    show (match f.eval x with | some v => natOf? v | none => none) = _
    rw [h1]
    exact (natP_ok h2 h).1
theorem slc3_ok (hO : OpsOK P) (hi : Inv A) (hs : RS A β s) (hf : RF ds A β s.n nt f p) {t e es : Nat} {x y z : Operand} (hx : okX x = true) (hy : okX y = true) (hz : okX z = true) (hu : P.underlying t = some (.slice e)) (hsz : szOf P e = some es)
    (h : opP P p s (.slc3 e es x y z) = some (q, s')) : Res1 P A β s f ⟨d, .slice t x none (some y) (some z), ty, pos, af, gu⟩ q s' (effA (pval p x)) := by
  obtain ⟨vx, x1, x2⟩ := okX_eval hf hx
  have oy : ∀ m dflt, natP (pval p y) = some m → optNat f (some y) dflt = some m := fun m dflt hm => optP_ok hf (x := some y) hy (show optP p (some y) dflt = some m from hm)
  have oz : ∀ m dflt, natP (pval p z) = some m → optNat f (some z) dflt = some m := fun m dflt hm => optP_ok hf (x := some z) hz (show optP p (some z) dflt = some m from hm)
  simp only [opP] at h
  split at h
  · rename_i e' n cs hh m hp h1 h2
    split at h
    · rename_i hc
      injection h with h; injection h with e1 e2; subst e1; subst e2
      obtain ⟨rfl, c2, c3, rfl⟩ := hc
      rw [hp] at x2 ⊢
      have x3 := x2.lit
      cases x3 with
      | lit b off _ cap _ _ cells c st hg hpr hl hm hh' =>
        have hmul : hh * es ≤ n * es := Nat.mul_le_mul_right _ c2
        have hev : evalOp P f ⟨d, .slice t x none (some y) (some z), ty, pos, af, gu⟩ A = some (.val (.slice (some ⟨b, off, some 0⟩) hh hh), logR A c) := by
          show sliceG (some z) (some y) (sliceA P f _ t (f.eval x) none (some y) (some z) A) = _
          have : sliceA P f ⟨d, .slice t x none (some y) (some z), ty, pos, af, gu⟩ t (f.eval x) none (some y) (some z) A = some (.val (.slice (some ⟨b, off, some 0⟩) hh hh), logR A c) := by
            rw [x1]
            unfold sliceA
            simp only [hu, oy hh n h1, oz hh cap h2, hsz]
            show sliceMax P b off 0 hh hh cap es A = _
            unfold sliceMax esCls
            rw [hg]
            simp only [hsz, Nat.beq_refl]
            unfold sliceX
            rw [Nat.ble_eq_true_of_le (Nat.zero_le hh), Nat.ble_eq_true_of_le (Nat.le_trans c2 hm), Nat.beq_refl]
            simp only [Bool.and_self]
            show some (ANext.val (.slice (some ⟨b, off + 0 * es, some 0⟩) hh hh), logR A c) = _
            rw [Nat.zero_mul, Nat.add_zero]
          rw [this]
          rfl
        refine res_read hO hi hs hev (.cl _ _ (.litx b off hh e' _ cells c st hg hpr ?_ ?_)) hpr.1 (.inr ⟨rfl, hpr⟩)
        · rw [List.length_take]; omega
        · have := Cs.take hh' (hh * es)
          rw [List.take_take, Nat.min_eq_left (by omega)] at this
          rw [List.length_take, Nat.min_eq_left (by omega)]
          exact this
    · cases h
  · rename_i hp h1 h2
    injection h with h; injection h with e1 e2; subst e1; subst e2
    rw [hp] at x2
    obtain ⟨rfl, _⟩ := x2.sc
    refine res_same hO hi hs (u := .slice none 0 0) ?_ (.cl _ _ (.sc _ rfl))
    show sliceG (some z) (some y) (sliceA P f _ t (f.eval x) none (some y) (some z) A) = _
    have : sliceA P f ⟨d, .slice t x none (some y) (some z), ty, pos, af, gu⟩ t (f.eval x) none (some y) (some z) A = some (.val (.slice none 0 0), A) := by
      rw [x1]
      unfold sliceA
      have o0 : optNat f none 0 = some 0 := rfl
      simp only [hu, oy 0 0 h1, oz 0 0 h2, o0, hsz]
    rw [this]
    rfl
  · rename_i k off n fin hh m hp h1 h2
    split at h
    · rename_i hc
      injection h with h; injection h with e1 e2; subst e1; subst e2
      obtain ⟨rfl, c2, c3, c4, c5⟩ := hc
      rw [hp] at x2 ⊢
      cases x2 with
      | cl _ _ h => cases h
      | own b o _ _ _ _ cap e' cells st ok hk hg ho hf' hm =>
        obtain ⟨rfl, g2, g3⟩ := (hs.blk k hk).all _ _ _ _ _ hg
        obtain ⟨rfl, _⟩ := g3 (by omega)
        rw [c5] at hg
        have hmul : hh * es ≤ n * es := Nat.mul_le_mul_right _ c2
        have hev : evalOp P f ⟨d, .slice t x none (some y) (some z), ty, pos, af, gu⟩ A = some (.val (.slice (some ⟨b, o, some 0⟩) hh hh), logR A (β k)) := by
          show sliceG (some z) (some y) (sliceA P f _ t (f.eval x) none (some y) (some z) A) = _
          have : sliceA P f ⟨d, .slice t x none (some y) (some z), ty, pos, af, gu⟩ t (f.eval x) none (some y) (some z) A = some (.val (.slice (some ⟨b, o, some 0⟩) hh hh), logR A (β k)) := by
            rw [x1]
            unfold sliceA
            simp only [hu, oy hh n h1, oz hh cap h2, hsz]
            show sliceMax P b o 0 hh hh cap es A = _
            unfold sliceMax esCls
            rw [hg]
            simp only [hsz, Nat.beq_refl]
            unfold sliceX
            rw [Nat.ble_eq_true_of_le (Nat.zero_le hh), Nat.ble_eq_true_of_le (Nat.le_trans c2 hm), Nat.beq_refl]
            simp only [Bool.and_self]
            show some (ANext.val (.slice (some ⟨b, o + 0 * es, some 0⟩) hh hh), logR A (β k)) = _
            rw [Nat.zero_mul, Nat.add_zero]
          rw [this]
          rfl
        exact res_read hO hi hs hev (.ownx b o k _ hh _ e cells st true hk hg (by omega) (by omega)) (hs.blk k hk).lt (.inl ⟨k, by simp [effA], hk, rfl⟩)
    · cases h
  · cases h
theorem slc_ok (hO : OpsOK P) (hi : Inv A) (hs : RS A β s) (hf : RF ds A β s.n nt f p) {t e es : Nat} {x : Operand} {lo hi' : Option Operand} (hx : okX x = true) (hlo : optX lo = true) (hhi : optX hi' = true) (hu : P.underlying t = some (.slice e)) (hsz : szOf P e = some es)
    (h : opP P p s (.slc e es x lo hi') = some (q, s')) : Res1 P A β s f ⟨d, .slice t x lo hi' none, ty, pos, af, gu⟩ q s' (effA (pval p x)) := by
  obtain ⟨vx, x1, x2⟩ := okX_eval hf hx
  simp only [opP] at h
  split at h
  · rename_i l hh h1 h2
    simp only [Option.map_eq_some_iff] at h
    obtain ⟨v, hv, he⟩ := h
    injection he with e1 e2; subst e1; subst e2
    have key : ∀ b o m cap cells c st, vx = .slice (some ⟨b, o, none⟩) m cap → hiOf (pval p x) = m → A.heap.get b = some (.row cells e c st true) → l ≤ hh → hh ≤ m → m ≤ cap →
        evalOp P f ⟨d, .slice t x lo hi' none, ty, pos, af, gu⟩ A = some (.val (.slice (some ⟨b, o + l * es, none⟩) (hh - l) (cap - l)), logR A c) := by
      rintro b o m cap cells c st rfl hm hg hle1 hle2 hle3
      rw [hm] at h2
      show sliceG none hi' (sliceA P f _ t (f.eval x) lo hi' none A) = _
      have : sliceA P f ⟨d, .slice t x lo hi' none, ty, pos, af, gu⟩ t (f.eval x) lo hi' none A = some (.val (.slice (some ⟨b, o + l * es, none⟩) (hh - l) (cap - l)), logR A c) := by
        rw [x1]
        unfold sliceA
        simp only [hu, optP_ok hf hlo h1, optP_ok hf hhi h2, hsz]
        show sliceAt P b o l hh cap cap es A = _
        unfold sliceAt esCls
        rw [hg]
        simp only [hsz, Nat.beq_refl]
        unfold sliceIn
        rw [Nat.ble_eq_true_of_le hle1, Nat.ble_eq_true_of_le (Nat.le_trans hle2 hle3), Nat.ble_eq_true_of_le (Nat.le_refl cap)]
        rfl
      rw [this]
      cases hi' <;> rfl
    unfold slcP at hv
    split at hv
    · rename_i e' m cs hp
      split at hv
      · rename_i hc
        injection hv with hv; subst hv
        rw [hp] at x2 key
        have x3 := x2.lit
        obtain ⟨c1, c2, c3, rfl⟩ := hc
        cases x3 with
        | lit b off _ cap _ _ cells c st hg hpr hl hm hh' =>
          have hmul : hh * es ≤ m * es := Nat.mul_le_mul_right _ c2
          have hmul2 : l * es ≤ hh * es := Nat.mul_le_mul_right _ c1
          have hsub : (hh - l) * es = hh * es - l * es := Nat.sub_mul _ _ _
          refine res_read hO hi hs (key b off m cap cells c st rfl rfl hg c1 c2 hm) (.cl _ _ (.lit b (off + l * es) (hh - l) (cap - l) e' _ cells c st hg hpr ?_ (by omega) ?_)) hpr.1 (.inr ⟨by rw [hp]; rfl, hpr⟩)
          · rw [List.length_take, List.length_drop]; omega
          · have := Cs.take (Cs.drop hh' (l * es)) ((hh - l) * es)
            rw [List.drop_take, List.drop_drop, List.take_take, Nat.min_eq_left (by omega)] at this
            rw [List.length_take, List.length_drop, Nat.min_eq_left (by omega)]
            exact this
      · cases hv
    · rename_i k off m fin hp
      split at hv
      · rename_i hc
        injection hv with hv; subst hv
        rw [hp] at x2 key
        obtain ⟨c1, c2, c3, c4, c5⟩ := hc
        cases x2 with
        | cl _ _ h => cases h
        | own b o _ _ _ _ cap e' cells st ok hk hg ho hf' hm =>
          obtain ⟨rfl, g2, g3⟩ := (hs.blk k hk).all _ _ _ _ _ hg
          obtain ⟨rfl, _⟩ := g3 (by omega)
          rw [c5] at hg
          have hmul : hh * es ≤ m * es := Nat.mul_le_mul_right _ c2
          refine res_read hO hi hs (key b o m cap cells _ st rfl rfl hg c1 c2 hm) (.own b (o + l * es) k _ (hh - l) _ (cap - l) e cells st true hk hg (by omega) (by omega) (by omega)) (hs.blk k hk).lt (.inl ⟨k, by rw [hp]; simp [effA], hk, rfl⟩)
      · cases hv
    · cases hv
  · cases h
theorem sslc_ok (hO : OpsOK P) (hi : Inv A) (hs : RS A β s) (hf : RF ds A β s.n nt f p) {t : Nat} {x : Operand} {lo hi' : Option Operand} (hx : okX x = true) (hlo : optX lo = true) (hhi : optX hi' = true) (hu : P.underlying t = some .string)
    (h : opP P p s (.sslc x lo hi') = some (q, s')) : Res1 P A β s f ⟨d, .slice t x lo hi' none, ty, pos, af, gu⟩ q s' E := by
  obtain ⟨vx, x1, x2⟩ := okX_eval hf hx
  simp only [opP] at h
  split at h
  · rename_i l hh h1 h2
    simp only [Option.map_eq_some_iff] at h
    obtain ⟨v, hv, he⟩ := h
    injection he with e1 e2; subst e1; subst e2
    unfold sslcP at hv
    split at hv
    · rename_i b hp
      split at hv
      · rename_i hc
        injection hv with hv; subst hv
        rw [hp] at x2 h2
        obtain ⟨rfl, _⟩ := x2.sc
        refine res_same hO hi hs (u := .string ⟨⟨(b.data.toList.drop l).take (hh - l)⟩⟩) ?_ (.cl _ _ (.sc _ rfl))
        show sliceG none hi' (sliceA P f _ t (f.eval x) lo hi' none A) = _
        have : sliceA P f ⟨d, .slice t x lo hi' none, ty, pos, af, gu⟩ t (f.eval x) lo hi' none A = some (.val (.string ⟨⟨(b.data.toList.drop l).take (hh - l)⟩⟩), A) := by
          rw [x1]
          unfold sliceA
          have h2' : optNat f hi' b.data.toList.length = some hh := optP_ok hf hhi h2
          simp only [hu, optP_ok hf hlo h1, h2']
          unfold strSlice
          rw [Nat.ble_eq_true_of_le hc.1, Nat.ble_eq_true_of_le hc.2, forceL_eq]
          rfl
        rw [this]
        cases hi' <;> rfl
      · cases hv
    · cases hv
  · cases h
end
end Go.PE
namespace Go.PE
open Go Go.EvL
section
variable {ds : List Deferred} {P : Program} {A : AS} {β : Nat → Nat} {nt : Nat} {f : Fr} {p : PFr} {s s' : PS} {q : PV} {d : Option Tmp} {ty : TypeId} {pos : String} {af : Array Edge} {gu : Option (Nat × Bool)}
theorem one_ok {n : Nat} {v : Value} {x : PV} (h : R1 A β n v x) (ho : oneP x = true) : oneC v = true := by
  cases h with
  | cl v p h =>
    cases h with
    | sc v h => exact ho
    | agg => cases ho
    | _ => rfl
  | agg => cases ho
  | tup => cases ho
  | _ => rfl
theorem ones_ok {n : Nat} {l : List Value} {r : List PV} (h : Rs A β n l r) (ho : r.all oneP = true) : l.all oneC = true := by
  induction r generalizing l with
  | nil => cases h; rfl
  | cons x r ih =>
    rw [List.all_cons, Bool.and_eq_true] at ho
    cases h with
    | cons v _ l _ h hn => rw [List.all_cons, one_ok h ho.1, ih hn ho.2]; rfl
theorem dead_row {y : AObj} {cells : List Value} {e c st : Nat} {ok : Bool} (h : AObj.row cells e c st ok = dead y) : ok = false ∧ ∃ ok', y = .row cells e c st ok' := by
  cases y with
  | row cells' e' c' st' ok' => simp only [dead] at h; injection h with h1 h2 h3 h4 h5; subst h1 h2 h3 h4; exact ⟨h5, ok', rfl⟩
  | map es k => simp only [dead] at h; cases h
  | iter a b => simp only [dead] at h; cases h
theorem stc_some {b o : Nat} {vs cells : List Value} {e c st : Nat} (hg : A.heap.get b = some (.row cells e c st true)) (hl : o + vs.length ≤ cells.length) (hz : A.fz.get c = none) (h1 : vs.all oneC = true) : ∃ A', stc A b o vs = some A' := by
  refine ⟨logW ((alone A b c).put b (.row (cells.take o ++ (vs ++ cells.drop (o + vs.length))) e c st true)) c, ?_⟩
  unfold stc
  rw [hg]
  show stIn A b o vs cells e c st = _
  unfold stIn
  have hfz : fzOk A c (Nat.add st o) = true := by unfold fzOk; rw [hz]
  rw [forceL_eq, show Nat.ble (Nat.add o vs.length) cells.length = true from Nat.ble_eq_true_of_le hl, hfz, h1]
  rfl
theorem st_list {C : List PV} {st o l : Nat} {ys : List PV} (hl : ys.length = l) (hC : st + o + l ≤ C.length) : (C.take (st + o) ++ (ys ++ C.drop (st + o + l))).drop st = (C.drop st).take o ++ (ys ++ (C.drop st).drop (o + l)) := by
  have h1 : st ≤ (C.take (st + o)).length := by rw [List.length_take]; omega
  rw [List.drop_append_of_le_length h1, List.drop_take, List.drop_drop, show st + o - st = o by omega, show st + (o + l) = st + o + l by omega]
theorem stc_ok {E : Eff} (hi : Inv A) (hs : RS A β s) {k off fin b o e st : Nat} {cells vs : List Value} {ok : Bool} {yc : List PV} (hk : k < s.n) (hg : A.heap.get b = some (.row cells e (β k) st ok)) (ho : st + o = off) (hf' : fin ≤ st + cells.length) (hyc : Rs A β s.n vs yc)
    (c1 : off + yc.length ≤ fin) (c2 : fin = (s.h k).cells.length) (c3 : yc.all oneP = true) (he1 : k ∈ E.rd) (he2 : k ∈ E.wr) : ∃ A', stc A b o vs = some A' ∧ Fw A A' β β s.n s.n (min s.w k) ∧
      RS A' β (s.put k ⟨(s.h k).cells.take off ++ (yc ++ (s.h k).cells.drop (off + yc.length)), fin, (s.h k).e⟩) ∧ Msk A A' β β s.n s.n E := by
  have hb := hs.blk k hk
  obtain ⟨g1, g2, g3⟩ := hb.all _ _ _ _ _ hg
  have hlow : (s.h k).low ≤ (s.h k).cells.length := by
    rcases Nat.lt_or_ge (s.h k).cells.length (s.h k).low with h | h
    · have := hb.low h _ _ _ _ _ hg; omega
    · exact h
  obtain ⟨rfl, hrs⟩ := g3 (by omega)
  have hyl := hyc.len
  obtain ⟨A', hA'⟩ := stc_some hg (o := o) (vs := vs) (by rw [hyl]; omega) (hb.fz hlow) (ones_ok hyc c3)
  obtain ⟨cells2, e2, c2', st2, K, sp⟩ := stc_spec hi (Nat.le_refl _) hA'
  have hrow := sp.row
  rw [hg] at hrow
  injection hrow with hrow
  injection hrow with r1 r2 r3 r4
  subst r1 r2 r3 r4
  have W := sp.wr
  have hend : st + cells.length = (s.h k).cells.length := by omega
  have hnext : A'.next = A.next := by
    rcases W.next with ⟨h1, _⟩ | ⟨h1, _⟩
    · have := (hi.lt _ _ hg).1; omega
    · exact h1
  have hroot := W.root
  have hkill : ∀ z ∈ K, ∀ cells' e' c' st' ok', A.heap.get z = some (.row cells' e' c' st' ok') → c' = β k := fun z hz cells' e' c' st' ok' hg' => hi.memr hroot (W.kill z hz) hg'
  have hnew : ((cells.take o ++ (vs ++ cells.drop (o + vs.length)))).length = cells.length := by
    have := sp.len
    simp only [List.length_append, List.length_take, List.length_drop]
    omega
  have hget : ∀ z, A'.heap.get z = if z = b then some (.row (cells.take o ++ (vs ++ cells.drop (o + vs.length))) e (β k) st true) else if z ∈ K then (A.heap.get z).map dead else A.heap.get z := W.heap
  have hfw : Fw A A' β β s.n s.n (min s.w k) := by
    refine ⟨Nat.le_refl _, by omega, fun _ _ => rfl, fun _ _ _ => by omega, fun z cells' e' c' st' hg' hp' => ?_, fun z cells' e' st' ok' j hj hg' => ?_, fun c hc hw => ?_⟩
    · rw [hget]
      have hne : c' ≠ β k := fun e => hp'.2 k hk e.symm
      rw [if_neg (by rintro rfl; rw [hg] at hg'; injection hg' with hg'; injection hg' with _ _ h3; exact hne h3.symm), if_neg (fun hz => hne (hkill z hz _ _ _ _ _ hg'))]
      exact hg'
    · rw [hget]
      by_cases hz : z = b
      · subst hz
        rw [hg] at hg'
        injection hg' with hg'
        injection hg' with h1 h2 h3 h4 h5
        subst h1 h2 h4
        rw [if_pos rfl]
        exact ⟨_, true, by rw [h3], hnew⟩
      · rw [if_neg hz]
        by_cases hzK : z ∈ K
        · rw [if_pos hzK, hg']
          exact ⟨cells', false, rfl, rfl⟩
        · rw [if_neg hzK]
          exact ⟨cells', ok', hg', rfl⟩
    · rw [W.w] at hw
      rcases bit_in hw with h | h
      · exact .inl h
      · exact .inr ⟨k, Nat.min_le_right _ _, hk, h⟩
  refine ⟨A', hA', hfw, ?_, ?_⟩
  · constructor
    · intro j hj
      have hj' : j < s.n := hj
      by_cases hjk : j = k
      · subst hjk
        show RB A' β s.n (β j) (if j = j then _ else s.h j)
        rw [if_pos rfl]
        have hCl : ((s.h j).cells.take off ++ (yc ++ (s.h j).cells.drop (off + (yc).length))).length = (s.h j).cells.length := by
          simp only [List.length_append, List.length_take, List.length_drop]; omega
        have hrows : ∀ z cells' e' st' ok', A'.heap.get z = some (.row cells' e' (β j) st' ok') → (z = b ∧ cells' = cells.take o ++ (vs ++ cells.drop (o + vs.length)) ∧ e' = e ∧ st' = st ∧ ok' = true) ∨ (z ≠ b ∧ ∃ ok2, A.heap.get z = some (.row cells' e' (β j) st' ok2)) := by
          intro z cells' e' st' ok' hz
          rw [hget] at hz
          split at hz
          · rename_i hzb
            injection hz with hz
            injection hz with h1 h2 h3 h4 h5
            exact .inl ⟨hzb, h1.symm, h2.symm, h4.symm, h5.symm⟩
          · rename_i hzb
            split at hz
            · obtain ⟨y', k1, k2⟩ := map_dead hz
              obtain ⟨_, ok2, rfl⟩ := dead_row k2
              exact .inr ⟨hzb, ok2, k1⟩
            · exact .inr ⟨hzb, ok', hz⟩
        refine ⟨fun _ => ⟨b, _, st, by rw [hget, if_pos rfl, g1], by rw [hnew, hend]; exact hCl.symm⟩, fun z cells' e' st' ok' hz => ?_, fun z1 z2 cells1 e1 st1 ok1 cells2 e2 st2 ok2 h1 h2 l1 l2 => ?_, fun hl => absurd hl (by show ¬ (_ < fin); rw [hCl]; omega), fun _ => by rw [sp.fze]; exact hb.fz hlow, by rw [hnext]; exact hb.lt, fun z cells' e' st' ok' hz => by
          rcases hrows _ _ _ _ _ hz with ⟨_, _, _, rfl, _⟩ | ⟨_, ok2, hz'⟩
          · exact hb.z _ _ _ _ _ hg
          · exact hb.z _ _ _ _ _ hz'⟩
        · show e' = (s.h j).e ∧ st' + cells'.length ≤ _ ∧ (fin ≤ st' + cells'.length → _)
          rw [hCl]
          rcases hrows _ _ _ _ _ hz with ⟨rfl, rfl, rfl, rfl, rfl⟩ | ⟨hzb, ok2, hz'⟩
          · refine ⟨g1, by rw [hnew]; omega, fun _ => ⟨rfl, ?_⟩⟩
            have hR : ((List.drop st' (s.h j).cells).take o ++ (yc ++ (List.drop st' (s.h j).cells).drop (o + (yc).length))).length ≤ cells.length := by
              simp only [List.length_append, List.length_take, List.length_drop]; omega
            rw [hnew, ← ho, st_list rfl (by omega), List.take_of_length_le hR]
            rw [hyl]
            have h0 := hrs
            rw [List.take_of_length_le (by rw [List.length_drop]; omega)] at h0
            exact ((h0.take o).app (hyc.app (h0.drop _))).mono hfw
          · obtain ⟨k1, k2, k3⟩ := hb.all _ _ _ _ _ hz'
            refine ⟨k1, k2, fun hle => absurd (hb.uni _ _ _ _ _ _ _ _ _ _ hz' hg (by omega) hend) hzb⟩
        · rw [hCl] at l1 l2
          have q1 : ∃ cells' e' st' ok', A.heap.get z1 = some (.row cells' e' (β j) st' ok') ∧ st' + cells'.length = (s.h j).cells.length := by
            rcases hrows _ _ _ _ _ h1 with ⟨rfl, rfl, rfl, rfl, rfl⟩ | ⟨_, ok2, hz'⟩
            · exact ⟨_, _, _, _, hg, hend⟩
            · exact ⟨_, _, _, _, hz', l1⟩
          have q2 : ∃ cells' e' st' ok', A.heap.get z2 = some (.row cells' e' (β j) st' ok') ∧ st' + cells'.length = (s.h j).cells.length := by
            rcases hrows _ _ _ _ _ h2 with ⟨rfl, rfl, rfl, rfl, rfl⟩ | ⟨_, ok2, hz'⟩
            · exact ⟨_, _, _, _, hg, hend⟩
            · exact ⟨_, _, _, _, hz', l2⟩
          obtain ⟨_, _, _, _, a1, a2⟩ := q1
          obtain ⟨_, _, _, _, b1, b2⟩ := q2
          exact hb.uni _ _ _ _ _ _ _ _ _ _ a1 b1 a2 b2
      · show RB A' β s.n (β j) (if j = k then _ else s.h j)
        rw [if_neg hjk]
        have hne : β j ≠ β k := fun e => hjk (hs.inj j k hj' hk e)
        refine (hs.blk j hj').mono hfw (fun z cells' e' st' ok' => ?_) (by rw [sp.fze])
        rw [hget]
        constructor
        · intro hz
          split at hz
          · injection hz with hz; injection hz with _ _ h3; exact absurd h3.symm hne
          · split at hz
            · rename_i hzK
              obtain ⟨y', k1, k2⟩ := map_dead hz
              obtain ⟨_, ok2, rfl⟩ := dead_row k2
              exact absurd (hkill _ hzK _ _ _ _ _ k1) hne
            · exact hz
        · intro hz
          rw [if_neg (by rintro rfl; rw [hg] at hz; injection hz with hz; injection hz with _ _ h3; exact hne h3.symm), if_neg (fun hzK => hne (hkill _ hzK _ _ _ _ _ hz))]
          exact hz
    · exact hs.inj
    · exact hs.lay.mono hfw fun c _ => by rw [sp.fze]
  · refine ⟨fun c hc => ?_, fun c hc => ?_, fun _ c h1 h2 => by omega⟩
    · rcases W.r with h | h
      · rw [h] at hc; exact .inl hc
      · rw [h] at hc
        rcases bit_in hc with h | h
        · exact .inl h
        · exact .inr (.inl ⟨k, he1, hk, h⟩)
    · rw [W.w] at hc
      rcases bit_in hc with h | h
      · exact .inl h
      · exact .inr (.inl ⟨k, he2, hk, h⟩)
theorem store_ok (hO : OpsOK P) (hi : Inv A) (hs : RS A β s) (hf : RF ds A β s.n nt f p) {t sz : Nat} {x y : Operand} (hx : okX x = true) (hy : okX y = true) (hsz : szOf P t = some sz)
    (h : opP P p s (.store t sz x y) = some (q, s')) : Res1 P A β s f ⟨d, .store t x y, ty, pos, af, gu⟩ q s' (effO p (.store t sz x y)) := by
  obtain ⟨vx, x1, x2⟩ := okX_eval hf hx
  obtain ⟨vy, y1, y2⟩ := okX_eval hf hy
  simp only [opP] at h
  split at h
  · rename_i hlen
    simp only [Option.map_eq_some_iff] at h
    obtain ⟨s1, hst, he⟩ := h
    injection he with e1 e2; subst e1; subst e2
    unfold stP at hst
    split at hst
    · rename_i k off fin hp
      split at hst
      · rename_i hc
        injection hst with hst
        obtain ⟨c1, c2, c3⟩ := hc
        rw [hp] at x2
        cases x2 with
        | cl _ _ h => cases h
        | ptr b o _ _ _ e cells st ok hk hg ho hf' =>
          have hyc := y2.cells
          have hyl := hyc.len
          have he : effO p (.store t sz x y) = ⟨[k], [k], false, false⟩ := by simp only [effO, hp]
          rw [he, ← hst]
          obtain ⟨A', hA', k1, k2, k3⟩ := stc_ok (E := ⟨[k], [k], false, false⟩) hi hs hk hg ho hf' hyc c1 c2 c3 (by simp) (by simp)
          have hev : evalOp P f ⟨d, .store t x y, ty, pos, af, gu⟩ A = some (.val undef, A') := by
            show storeA P t (f.eval x) (f.eval y) A = _
            rw [x1, y1]
            unfold storeA
            simp only [hsz]
            rw [show Nat.beq vy.cells.size sz = true by rw [← Array.length_toList, hyl, hlen]; exact Nat.beq_refl _, hA']
            rfl
          exact ⟨undef, A', β, hO f _ A _ _ hi (Nat.le_refl _) hev, k1, k2, .cl _ _ (.sc _ rfl), k3⟩
      · cases hst
    · cases hst
  · cases h
end
end Go.PE
namespace Go.PE
open Go Go.EvL
section
variable {ds : List Deferred} {P : Program} {A : AS} {β : Nat → Nat} {nt : Nat} {f : Fr} {p : PFr} {s s' : PS} {q : PV} {E : Eff} {d : Option Tmp} {ty : TypeId} {pos : String} {af : Array Edge} {gu : Option (Nat × Bool)}
theorem elems_ok (hs : RS A β s) {v : Value} {x : PV} (hv : R1 A β s.n v x) {e e2 es n : Nat} {cs : List PV} (hsz : szOf P e = some es) (h : elemsP s es x = some (cs, n)) :
    ∃ xs A1, cellsOfArg P e (some (.slice e2)) A v = some (xs, n, A1) ∧ Rs A β s.n xs cs ∧ (A1 = A ∨ ∃ c, A1 = logR A c ∧ c < A.next ∧ ((∃ k ∈ (effA x).rd, k < s.n ∧ β k = c) ∨ ((effA x).li = true ∧ Prot A β s.n c))) := by
  have key : ∀ b o m cap cells e' c st, v = .slice (some ⟨b, o, none⟩) m cap → A.heap.get b = some (.row cells e' c st true) → o + m * es ≤ cells.length → Rs A β s.n ((cells.drop o).take (m * es)) cs → m = n → ((∃ k ∈ (effA x).rd, k < s.n ∧ β k = c) ∨ ((effA x).li = true ∧ Prot A β s.n c)) →
      ∃ xs A1, cellsOfArg P e (some (.slice e2)) A v = some (xs, n, A1) ∧ Rs A β s.n xs cs ∧ (A1 = A ∨ ∃ c, A1 = logR A c ∧ c < A.next ∧ ((∃ k ∈ (effA x).rd, k < s.n ∧ β k = c) ∨ ((effA x).li = true ∧ Prot A β s.n c))) := by
    rintro b o m cap cells e' c st rfl hg hl hr rfl hef
    cases m with
    | zero =>
      rw [Nat.zero_mul, List.take_zero] at hr
      exact ⟨[], A, by unfold cellsOfArg; simp only [hsz]; rfl, hr, .inl rfl⟩
    | succ m =>
      refine ⟨_, logR A c, ?_, hr, .inr ⟨c, rfl, by
        rcases hef with ⟨k, _, hk, rfl⟩ | ⟨_, hp⟩
        · exact (hs.blk k hk).lt
        · exact hp.1, hef⟩⟩
      unfold cellsOfArg
      simp only [hsz]
      show (ld A b o (Nat.mul (m + 1) es)).map _ = _
      rw [show Nat.mul (m + 1) es = (m + 1) * es from rfl, ld_row hg hl]
      rfl
  unfold elemsP at h
  split at h
  · injection h with h; injection h with h1 h2; subst h1; subst h2
    obtain ⟨rfl, _⟩ := hv.sc
    exact ⟨[], A, rfl, .nil, .inl rfl⟩
  · rename_i e' m cs'
    split at h
    · rename_i hc
      injection h with h; injection h with h1 h2; subst h1
      have hl := hv.lit
      cases hl with
      | lit b off _ cap _ _ cells c st hg hp hl hm hh =>
        exact key b off m cap cells e' c st rfl hg (by omega) (by rw [← hc]; exact Cs.up hh) h2 (.inr ⟨rfl, hp⟩)
    · cases h
  · rename_i k off m fin
    split at h
    · rename_i hc
      injection h with h; injection h with h1 h2; subst h1
      obtain ⟨c1, c2, c3⟩ := hc
      cases hv with
      | cl _ _ h => cases h
      | own b o _ _ _ _ cap e' cells st ok hk hg ho hf' hm =>
        obtain ⟨g1, g2, g3⟩ := (hs.blk k hk).all _ _ _ _ _ hg
        obtain ⟨rfl, hr⟩ := g3 (by omega)
        refine key b o m cap cells e' (β k) st rfl hg (by omega) ?_ h2 (.inl ⟨k, by simp [effA], hk, rfl⟩)
        have := (hr.drop o).take (m * es)
        rw [List.drop_take, List.take_take, List.drop_drop, ho, Nat.min_eq_left (by omega)] at this
        exact this
    · cases h
  · cases h
theorem Msk.comp {B C : AS} {γ : Nat → Nat} {n m : Nat} (hB : B = A ∨ ∃ c, B = logR A c ∧ c < A.next ∧ ((∃ k ∈ E.rd, k < n ∧ β k = c) ∨ (E.li = true ∧ Prot A β n c))) (h2 : Msk B C β γ n m E) : Msk A C β γ n m E := by
  rcases hB with rfl | ⟨c0, rfl, h0, hef⟩
  · exact h2
  · have hn : (logR A c0).next = A.next := by rw [logR_eq]
    have hw : (logR A c0).w = A.w := by rw [logR_eq]
    have hr : ∀ c, (logR A c0).r.testBit c = true → A.r.testBit c = true ∨ c0 = c := fun c hc => by rw [logR_eq] at hc; exact bit_in hc
    have hp : ∀ c, Prot (logR A c0) β n c → Prot A β n c := fun c hc => ⟨by rw [← hn]; exact hc.1, hc.2⟩
    refine ⟨fun c hc => ?_, fun c hc => ?_, fun hca c c1 c2 => ⟨fun hc => ?_, fun hc => ?_⟩⟩
    · rcases h2.r c hc with h | h | ⟨h, h'⟩ | ⟨h, h'⟩ | h
      · rcases hr c h with h | rfl
        · exact .inl h
        · exact .inr (hef.imp id .inl)
      · exact .inr (.inl h)
      · exact .inr (.inr (.inl ⟨h, hp c h'⟩))
      · exact .inr (.inr (.inr (.inl ⟨by omega, h'⟩)))
      · exact .inr (.inr (.inr (.inr h)))
    · rcases h2.w c hc with h | h | ⟨h, h'⟩
      · exact .inl (by rw [← hw]; exact h)
      · exact .inr (.inl h)
      · exact .inr (.inr ⟨by omega, h'⟩)
    · rcases (h2.new hca c (by omega) c2).1 hc with h | h
      · rcases hr c h with h | rfl
        · exact .inl h
        · omega
      · exact .inr h
    · rcases (h2.new hca c (by omega) c2).2 hc with h | h
      · exact .inl (by rw [← hw]; exact h)
      · exact .inr h
theorem push_some (s : AS) (cells : List Value) (e cls st : Nat) (ms : List Nat) (n : Nat) : ∃ r, pushRow s cells e cls st ms n = some r := by
  cases s
  unfold pushRow
  simp only [forceL_eq, forceT_eq, forceN_eq]
  exact ⟨_, rfl⟩
theorem appOk_some {i : TypeInfo} {z : Value} {len n : Nat} {xs : List Value} (hz : i.zero = some z) (hzs : Nat.beq z.cells.size i.size = true) (h1 : i.size ≠ 0) (h2 : xs.length = n * i.size) (h3 : (len + n) * i.bytes ≤ 140737488355328) (h4 : len + n ≤ 1073741824) (h5 : xs.all oneC = true) : appOk i i.size len n xs = true := by
  unfold appOk
  rw [hz]
  simp only
  have e1 : Nat.beq i.size 0 = false := by cases h : Nat.beq i.size 0 with | false => rfl | true => exact absurd (Nat.eq_of_beq_eq_true h) h1
  rw [e1, show Nat.beq xs.length (Nat.mul n i.size) = true by rw [h2]; exact Nat.beq_refl _, show Nat.ble (Nat.mul (Nat.add len n) i.bytes) 140737488355328 = true from Nat.ble_eq_true_of_le h3, hzs, show Nat.ble (Nat.add len n) 1073741824 = true from Nat.ble_eq_true_of_le h4, h5]
  rfl
theorem app_core (hO : OpsOK P) (hi : Inv A) (hs : RS A β s) (hf : RF ds A β s.n nt f p) {t u e n : Nat} {dd : TypeDesc} {i : TypeInfo} {z vx vy : Value} {x y : Operand} {xs : List Value} {ys : List PV} {A1 : AS} (x1 : f.eval x = some vx) (x2 : R1 A β s.n vx (pval p x)) (y1 : f.eval y = some vy) (ht : P.underlying t = some (.slice e)) (hu : P.underlying u = some dd) (hin : P.info? e = some i) (hz : i.zero = some z) (hzs : Nat.beq z.cells.size i.size = true)
    (hca : cellsOfArg P e (some dd) A vy = some (xs, n, A1)) (hxs : Rs A β s.n xs ys) (hA1' : A1 = A ∨ ∃ c, A1 = logR A c ∧ c < A.next ∧ ((∃ k ∈ E.rd, k < s.n ∧ β k = c) ∨ (E.li = true ∧ Prot A β s.n c))) (hE1 : ∀ k off m fin, pval p x = .own k off m fin → k ∈ E.rd ∧ k ∈ E.wr) (hE2 : ∀ e m cs, pval p x = .litx e m cs → E.li = true)
    (h' : appP s e i.size i.bytes (pval p x) ys n = some (q, s')) : Res1 P A β s f ⟨d, .call ⟨.builtin .append, #[x, y], #[t, u]⟩, ty, pos, af, gu⟩ q s' E := by
  have hh1 : A1.heap = A.heap ∧ A1.next = A.next ∧ A1.w = A.w ∧ A1.fz = A.fz := by
    rcases hA1' with rfl | ⟨c, rfl, _⟩
    · exact ⟨rfl, rfl, rfl, rfl⟩
    · rw [logR_eq]; exact ⟨rfl, rfl, rfl, rfl⟩
  have hi1 : Inv A1 := by
    rcases hA1' with rfl | ⟨c, rfl, _⟩
    · exact hi
    · rw [logR_eq]; exact ⟨hi.lt, hi.mem, hi.memc, hi.root, hi.ml, hi.old, hi.fz⟩
  have hw1 : ∀ lo, Fw A A1 β β s.n s.n lo := fun lo => .heap β s.n hh1.1 hh1.2.1 hh1.2.2.1
  have hs1 : RS A1 β s := hs.same hh1.1 hh1.2.1 hh1.2.2.1 hh1.2.2.2
  have x3 := x2.mono (hw1 0)
  have xs1 := hxs.mono (hw1 0)
  have hev : ∀ r, appendA P e A1 vx xs n = some r → evalOp P f ⟨d, .call ⟨.builtin .append, #[x, y], #[t, u]⟩, ty, pos, af, gu⟩ A = some r := fun r hr => by
    show appA P (P.underlying t) (P.underlying u) (f.eval x) (f.eval y) A = _
    rw [ht, hu, x1, y1]
    unfold appA
    simp only [hca]
    exact hr
  have mk : ∀ (uv : Value) (A' : AS) (β' : Nat → Nat), appendA P e A1 vx xs n = some (.val uv, A') → Fw A1 A' β β' s.n s'.n s'.w → RS A' β' s' → R1 A' β' s'.n uv q → Msk A1 A' β β' s.n s'.n E → Res1 P A β s f ⟨d, .call ⟨.builtin .append, #[x, y], #[t, u]⟩, ty, pos, af, gu⟩ q s' E :=
    fun uv A' β' h1 h2 h3 h4 h5 => ⟨uv, A', β', hO f _ A _ _ hi (Nat.le_refl _) (hev _ h1), (hw1 s'.w).trans h2 (Nat.le_refl _), h3, h4, Msk.comp hA1' h5⟩
  unfold appP at h'
  split at h'
  · rename_i hn0
    subst hn0
    split at h'
    · rename_i hsl
      injection h' with h'; injection h' with e1 e2; subst e1; subst e2
      refine mk vx A1 β ?_ (.refl A1 β s.n _) hs1 x3 (.same A1 β s.n _)
      have : ∃ b l c, vx = .slice b l c := by
        unfold isSl at hsl
        split at hsl
        · rename_i hp; rw [hp] at x2; obtain ⟨rfl, _⟩ := x2.sc; exact ⟨_, _, _, rfl⟩
        · rename_i hp; rw [hp] at x2; have x4 := x2.lit; cases x4; exact ⟨_, _, _, rfl⟩
        · rename_i hp; rw [hp] at x2
          cases x2 with
          | cl _ _ h => cases h
          | own => exact ⟨_, _, _, rfl⟩
        · rename_i hp; rw [hp] at x2; have x4 := x2.litx; cases x4; exact ⟨_, _, _, rfl⟩
        · rename_i hp; rw [hp] at x2
          cases x2 with
          | cl _ _ h => cases h
          | ownx => exact ⟨_, _, _, rfl⟩
        · cases hsl
      obtain ⟨b, l, c, rfl⟩ := this
      unfold appendA
      simp only [hin]
      rfl
    · cases h'
  · rename_i hn0
    obtain ⟨m', rfl⟩ : ∃ m', n = m' + 1 := ⟨n - 1, by omega⟩
    split at h'
    case h_3 =>
      rename_i ex m cs hp
      split at h'
      · rename_i hr
        injection h' with h'; injection h' with e1 e2; subst e1; subst e2
        obtain ⟨⟨r1, r2, r3, r4, r5⟩, c1⟩ := hr
        rw [hp] at x3
        have hone := ones_ok xs1 r5
        have x4 := R1.litx x3
        cases x4 with
        | litx b off _ _ _ cells c st hg hpr hl hh =>
          have hcn : c < A1.next := hpr.1
          have hold : ((cells.drop off).take (m * i.size)).length = m * i.size := by rw [List.length_take, List.length_drop]; omega
          have hnL : (logR A1 c).next = A1.next := by rw [logR_eq]
          have hwL : Fw A1 (logR A1 c) β β s.n s.n (s.new ⟨cs ++ ys, 0, e⟩).w := by rw [logR_eq]; exact .heap β s.n rfl rfl rfl
          have hsL : RS (logR A1 c) β s := by rw [logR_eq]; exact hs1.same rfl rfl rfl rfl
          have hiL : Inv (logR A1 c) := (logR_fr hi1 hcn).inv
          have hold2 : Rs A1 β s.n ((cells.drop off).take (m * i.size)) cs := by rw [← c1]; exact Cs.up hh
          have hallL : Rs (logR A1 c) β s.n ((cells.drop off).take (m * i.size) ++ xs) (cs ++ ys) := RV.mono hwL (Rs.app hold2 xs1)
          refine mk (.slice (some ⟨A1.next, 0, none⟩) (m + (m' + 1)) (m + (m' + 1))) (EvL.newRow (logR A1 c) ((cells.drop off).take (m * i.size) ++ xs) e) _ ?_ (hwL.trans (new_fw hiL β s.n _ e _) (Nat.le_refl _)) (new_rs hiL hsL e hallL) ?_ (Msk.comp (.inr ⟨c, rfl, hcn, .inr ⟨hE2 _ _ _ hp, hpr⟩⟩) (new_msk β s.n _ e _))
          · unfold appendA
            simp only [hin]
            rw [appOk_some hz hzs r1 (by rw [hxs.len]; exact r2) r3 r4 hone]
            show appTo e A1 (some ⟨b, off, some 0⟩) m (m' + 1) i.size xs = _
            unfold appTo
            simp only [hg]
            unfold appX
            rw [forceL_eq]
            rw [show ((cells.drop off).take (Nat.mul m i.size)).length = m * i.size from hold, show Nat.beq (m * i.size) (Nat.mul m i.size) = true from Nat.beq_refl _]
            rfl
          · refine .own A1.next 0 s.n 0 (m + (m' + 1)) (cs ++ ys).length (m + (m' + 1)) e ((cells.drop off).take (m * i.size) ++ xs) 0 true (by show s.n < s.n + 1; omega) ?_ rfl (by simp [hold, hxs.len, c1]) (Nat.le_refl _)
            rw [new_get, hnL, if_pos rfl, if_pos rfl]
      · cases h'
    · rename_i hp
      split at h'
      · rename_i hr
        injection h' with h'; injection h' with e1 e2; subst e1; subst e2
        obtain ⟨r1, r2, r3, r4, r5⟩ := hr
        rw [hp] at x2
        obtain ⟨rfl, _⟩ := x2.sc
        have hone := ones_ok hxs r5
        refine mk (.slice (some ⟨A1.next, 0, none⟩) (m' + 1) (m' + 1)) (EvL.newRow A1 xs e) _ ?_ (new_fw hi1 β s.n xs e _) (new_rs hi1 hs1 e xs1) ?_ (new_msk β s.n xs e _)
        · unfold appendA
          simp only [hin]
          rw [appOk_some hz hzs r1 (by rw [hxs.len]; exact r2) r3 r4 hone]
          rfl
        · refine .own A1.next 0 s.n 0 (m' + 1) ys.length (m' + 1) e xs 0 true (by show s.n < s.n + 1; omega) ?_ rfl (by simp [hxs.len]) (Nat.le_refl _)
          rw [new_get, if_pos rfl, if_pos rfl]
      · cases h'
    · rename_i k off m fin hp
      split at h'
      · rename_i hr
        injection h' with h'; injection h' with e1 e2
        obtain ⟨⟨r1, r2, r3, r4, r5⟩, c1, c2, c3, c4, c5⟩ := hr
        rw [hp] at x3
        have hone := ones_ok xs1 r5
        cases x3 with
        | cl _ _ h => cases h
        | own b o _ _ _ _ cap e' cells st ok hk hg ho hf' hm =>
          have hb := hs1.blk k hk
          obtain ⟨g1, g2, g3⟩ := hb.all _ _ _ _ _ hg
          have hlow : (s.h k).low ≤ (s.h k).cells.length := by omega
          obtain ⟨rfl, hrs⟩ := g3 (by omega)
          have he' : e' = e := by rw [g1]; exact c5
          subst he'
          have hend : st + cells.length = (s.h k).cells.length := by omega
          obtain ⟨rfl, rfl⟩ : o = 0 ∧ st = 0 := by omega
          subst c4
          have hold : ((cells.drop 0).take (m * i.size)).length = m * i.size := by rw [List.length_take, List.length_drop]; omega
          obtain ⟨r, hr⟩ : ∃ r, appIn A1 0 m (m' + 1) i.size e' (β k) 0 cells xs = some r := by
            unfold appIn
            rw [forceL_eq, forceN_eq, forceL_eq]
            have h1 : Nat.beq ((cells.drop 0).take (Nat.mul m i.size)).length (Nat.mul m i.size) = true := by
              rw [show Nat.mul m i.size = m * i.size from rfl, hold]; exact Nat.beq_refl _
            have h2 : fzOk A1 (β k) (Nat.add (Nat.add 0 0) (Nat.mul m i.size)) = true := by unfold fzOk; rw [hb.fz hlow]
            rw [h1, h2, show Nat.beq (Nat.mod 0 i.size) 0 = true by rw [show Nat.mod 0 i.size = 0 from Nat.zero_mod _]; rfl, hone]
            exact push_some _ _ _ _ _ _ _
          obtain ⟨nx, A'⟩ := r
          obtain ⟨rfl, K, sp⟩ := app_spec hi1 (Nat.le_refl _) hg hr
          have W := sp.wr
          have hroot := W.root
          have hnext : A'.next = A1.next + 1 := by
            rcases W.next with ⟨_, h1⟩ | ⟨h1, cs', e2', st', ok', h2⟩
            · exact h1
            · have := (hi1.lt _ _ h2).1; omega
          have hkr : ∀ z cells' e2' c' st' ok', A1.heap.get z = some (.row cells' e2' c' st' ok') → z ∉ K := by
            intro z cells' e2' c' st' ok' hz hzK
            have hc : c' = β k := hi1.memr hroot (W.kill z hzK) hz
            subst hc
            have h1 := sp.only z hzK _ _ _ _ _ hz
            have h2 := (hb.all _ _ _ _ _ hz).2.1
            omega
          have hget : ∀ z, A'.heap.get z = if z = A1.next then some (.row ((cells.drop 0).take (m * i.size) ++ xs) e' (β k) (0 + 0) true) else if z ∈ K then (A1.heap.get z).map dead else A1.heap.get z := W.heap
          have hkeep : ∀ z cells' e2' c' st' ok', A1.heap.get z = some (.row cells' e2' c' st' ok') → A'.heap.get z = some (.row cells' e2' c' st' ok') := by
            intro z cells' e2' c' st' ok' hz
            rw [hget, if_neg (by have := (hi1.lt _ _ hz).1; omega), if_neg (hkr _ _ _ _ _ _ hz)]
            exact hz
          have hback : ∀ z cells' e2' c' st' ok', A'.heap.get z = some (.row cells' e2' c' st' ok') → (z = A1.next ∧ cells' = (cells.drop 0).take (m * i.size) ++ xs ∧ e2' = e' ∧ c' = β k ∧ st' = 0 ∧ ok' = true) ∨ A1.heap.get z = some (.row cells' e2' c' st' ok') := by
            intro z cells' e2' c' st' ok' hz
            rw [hget] at hz
            split at hz
            · rename_i hzn
              injection hz with hz
              injection hz with h1 h2 h3 h4 h5
              exact .inl ⟨hzn, h1.symm, h2.symm, h3.symm, h4.symm, h5.symm⟩
            · split at hz
              · rename_i hzK
                obtain ⟨y', k1, k2⟩ := map_dead hz
                obtain ⟨_, ok2, rfl⟩ := dead_row k2
                exact absurd hzK (hkr _ _ _ _ _ _ k1)
              · exact .inr hz
          have hfw : Fw A1 A' β β s.n s.n (min s.w k) := by
            refine ⟨Nat.le_refl _, by omega, fun _ _ => rfl, fun _ _ _ => by omega, fun z cells' e2' c' st' hg' _ => hkeep _ _ _ _ _ _ hg', fun z cells' e2' st' ok' j _ hg' => ⟨cells', ok', hkeep _ _ _ _ _ _ hg', rfl⟩, fun c hc hw => ?_⟩
            rw [W.w] at hw
            rcases bit_in hw with h | h
            · exact .inl h
            · exact .inr ⟨k, Nat.min_le_right _ _, hk, h⟩
          have hnl : ((cells.drop 0).take (m * i.size) ++ xs).length = m * i.size + ys.length := by rw [List.length_append, hold, (Rs.len xs1)]
          have hyl : ys.length = (m' + 1) * i.size := r2
          have hpos : 0 < ys.length := by rw [hyl]; exact Nat.mul_pos (by omega) (Nat.pos_of_ne_zero r1)
          refine mk (.slice (some ⟨A1.next, 0, none⟩) (m + (m' + 1)) (m + (m' + 1))) A' β ?_ (by rw [← e2]; exact hfw) ?_ ?_ ?_
          · unfold appendA
            simp only [hin]
            rw [appOk_some hz hzs r1 (by rw [(Rs.len xs1)]; exact r2) r3 r4 hone]
            show appTo e' A1 (some ⟨b, 0, none⟩) m (m' + 1) i.size xs = _
            unfold appTo
            simp only [hg]
            rw [Nat.beq_refl]
            exact hr
          · rw [← e2]
            constructor
            · intro j hj
              have hj' : j < s.n := hj
              by_cases hjk : j = k
              · subst hjk
                show RB A' β s.n (β j) (if j = j then _ else s.h j)
                rw [if_pos rfl]
                have hCl : ((s.h j).cells ++ ys).length = (s.h j).cells.length + ys.length := List.length_append
                refine ⟨fun _ => ⟨A1.next, _, 0, by rw [hget, if_pos rfl], by rw [hnl, hCl]; omega⟩, fun z cells' e2' st' ok' hz => ?_, fun z1 z2 cells1 e1' st1 ok1 cells2 e2' st2 ok2 h1 h2 l1 l2 => ?_, fun hl => absurd hl (by show ¬ (_ < (s.h j).low); rw [hCl]; omega), fun _ => by rw [sp.fze]; exact hb.fz hlow, by rw [hnext]; have := hb.lt; omega, fun z cells' e2' st' ok' hz => by
                  rcases hback _ _ _ _ _ _ hz with ⟨_, _, _, _, rfl, _⟩ | hz'
                  · rfl
                  · exact hb.z _ _ _ _ _ hz'⟩
                · show e2' = e' ∧ st' + cells'.length ≤ _ ∧ ((s.h j).low ≤ st' + cells'.length → _)
                  rw [hCl]
                  rcases hback _ _ _ _ _ _ hz with ⟨rfl, rfl, rfl, _, rfl, rfl⟩ | hz'
                  · refine ⟨rfl, by rw [hnl]; omega, fun _ => ⟨rfl, ?_⟩⟩
                    rw [hnl, List.drop_zero, List.drop_zero]
                    have h0 := hrs
                    rw [List.drop_zero, List.take_of_length_le (by omega)] at h0
                    have h1 : (cells.take (m * i.size)) = cells := List.take_of_length_le (by omega)
                    rw [h1, List.take_of_length_le (by rw [hCl]; omega)]
                    exact (h0.app xs1).mono hfw
                  · obtain ⟨k1, k2, k3⟩ := hb.all _ _ _ _ _ hz'
                    refine ⟨by rw [k1]; exact g1.symm, by omega, fun hle => ⟨(k3 hle).1, ?_⟩⟩
                    rw [List.drop_append_of_le_length (by omega), List.take_append_of_le_length (by rw [List.length_drop]; omega)]
                    exact (k3 hle).2.mono hfw
                · rw [hCl] at l1 l2
                  rcases hback _ _ _ _ _ _ h1 with ⟨rfl, _⟩ | hz1
                  · rcases hback _ _ _ _ _ _ h2 with ⟨rfl, _⟩ | hz2
                    · rfl
                    · have := (hb.all _ _ _ _ _ hz2).2.1; omega
                  · have := (hb.all _ _ _ _ _ hz1).2.1; omega
              · show RB A' β s.n (β j) (if j = k then _ else s.h j)
                rw [if_neg hjk]
                have hne : β j ≠ β k := fun e => hjk (hs.inj j k hj' hk e)
                refine (hs1.blk j hj').mono hfw (fun z cells' e2' st' ok' => ⟨fun hz => ?_, fun hz => hkeep _ _ _ _ _ _ hz⟩) (by rw [sp.fze])
                rcases hback _ _ _ _ _ _ hz with ⟨_, _, _, h4, _⟩ | hz'
                · exact absurd h4 hne
                · exact hz'
            · exact hs.inj
            · exact hs1.lay.mono hfw fun c _ => by rw [sp.fze]
          · rw [← e1, ← e2]
            refine .own A1.next 0 k 0 (m + (m' + 1)) _ (m + (m' + 1)) e' _ 0 true hk ?_ rfl (by rw [hnl]; omega) (Nat.le_refl _)
            rw [hget, if_pos rfl]
          · have he : k ∈ E.rd ∧ k ∈ E.wr := hE1 _ _ _ _ hp
            have hkl := hb.lt
            rw [← e2]
            refine ⟨fun c hc => ?_, fun c hc => ?_, fun _ c h1 h2 => ⟨fun hc => ?_, fun hc => ?_⟩⟩
            · rw [sp.bit] at hc
              rcases bit_in hc with h | h
              · exact .inl h
              · exact .inr (.inl ⟨k, he.1, hk, h⟩)
            · rw [W.w] at hc
              rcases bit_in hc with h | h
              · exact .inl h
              · exact .inr (.inl ⟨k, he.2, hk, h⟩)
            · rw [sp.bit] at hc
              rcases bit_in hc with h | h
              · exact .inl h
              · omega
            · rw [W.w] at hc
              rcases bit_in hc with h | h
              · exact .inl h
              · omega
      · cases h'
    · cases h'
theorem app_ok (hO : OpsOK P) (hi : Inv A) (hs : RS A β s) (hf : RF ds A β s.n nt f p) {t u e e2 : Nat} {i : TypeInfo} {z : Value} {x y : Operand} (hx : okX x = true) (hy : okX y = true) (ht : P.underlying t = some (.slice e)) (hu : P.underlying u = some (.slice e2)) (hin : P.info? e = some i) (hz : i.zero = some z) (hzs : Nat.beq z.cells.size i.size = true)
    (h : opP P p s (.app e i.size i.bytes x y) = some (q, s')) : Res1 P A β s f ⟨d, .call ⟨.builtin .append, #[x, y], #[t, u]⟩, ty, pos, af, gu⟩ q s' (effO p (.app e i.size i.bytes x y)) := by
  obtain ⟨vx, x1, x2⟩ := okX_eval hf hx
  obtain ⟨vy, y1, y2⟩ := okX_eval hf hy
  simp only [opP, Option.bind_eq_some_iff] at h
  obtain ⟨⟨ys, n⟩, hel, h⟩ := h
  have hsz : szOf P e = some i.size := by unfold szOf; rw [hin]; rfl
  obtain ⟨xs, A1, hca, hxs, hA1⟩ := elems_ok (e2 := e2) hs y2 hsz hel
  have hsub : ∀ c, ((∃ k ∈ (effA (pval p y)).rd, k < s.n ∧ β k = c) ∨ ((effA (pval p y)).li = true ∧ Prot A β s.n c)) → ((∃ k ∈ (effO p (.app e i.size i.bytes x y)).rd, k < s.n ∧ β k = c) ∨ ((effO p (.app e i.size i.bytes x y)).li = true ∧ Prot A β s.n c)) := by
    intro c hc
    have e1 : ∀ k ∈ (effA (pval p y)).rd, k ∈ (effO p (.app e i.size i.bytes x y)).rd := fun k hk => by
      simp only [effO]; split
      · exact List.mem_cons_of_mem _ hk
      · exact hk
      · exact hk
    have e2 : (effA (pval p y)).li = true → (effO p (.app e i.size i.bytes x y)).li = true := fun hl => by
      simp only [effO]; split
      · exact hl
      · rfl
      · exact hl
    rcases hc with ⟨k, h1, h2⟩ | h
    · exact .inl ⟨k, e1 k h1, h2⟩
    · exact .inr ⟨e2 h.1, h.2⟩
  have hA1' : A1 = A ∨ ∃ c, A1 = logR A c ∧ c < A.next ∧ ((∃ k ∈ (effO p (.app e i.size i.bytes x y)).rd, k < s.n ∧ β k = c) ∨ ((effO p (.app e i.size i.bytes x y)).li = true ∧ Prot A β s.n c)) :=
    hA1.imp id fun ⟨c, h1, h2, h3⟩ => ⟨c, h1, h2, hsub c h3⟩
  refine app_core hO hi hs hf x1 x2 y1 ht hu hin hz hzs hca hxs hA1' (fun k off m fin hp => ?_) (fun e' m cs hp => ?_) h
  · simp only [effO, hp]; exact ⟨List.mem_cons_self, List.mem_cons_self⟩
  · simp only [effO, hp]
end
end Go.PE
