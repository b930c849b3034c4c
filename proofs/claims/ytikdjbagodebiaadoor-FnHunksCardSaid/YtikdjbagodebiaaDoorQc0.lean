/- The evaluator of the claim and what it says, part Qc0 (several texts in one). -/
import Derived.Test.YtikdjbagodebiaaDoorQb3
namespace Go.Qz
@[simp] theorem get_set0 (e : Env) (t t' : Nat) (v : V) : (e.set0 t v).get t' = if t' = t then v else e.get t' := (rfl)
@[simp] theorem get_mapA (e : Env) (f : A → A) (t : Nat) : (e.mapA f).get t = (e.get t).mapA f := (rfl)
@[simp] theorem get_setBox (e : Env) (b t : Nat) (cs : List A) : (e.setBox b cs).get t = e.get t := (rfl)
@[simp] theorem box_set0 (e : Env) (t b : Nat) (v : V) : (e.set0 t v).box b = e.box b := (rfl)
@[simp] theorem box_mapA (e : Env) (f : A → A) (b : Nat) : (e.mapA f).box b = e.box b := (rfl)
@[simp] theorem box_setBox (e : Env) (b b' : Nat) (cs : List A) : (e.setBox b cs).box b' = if b' = b then some cs else e.box b' := (rfl)
@[simp] theorem size_set0 (e : Env) (t : Nat) (v : V) : (e.set0 t v).size = e.size := (rfl)
@[simp] theorem size_mapA (e : Env) (f : A → A) : (e.mapA f).size = e.size := (rfl)
@[simp] theorem size_setBox (e : Env) (b : Nat) (cs : List A) : (e.setBox b cs).size = e.size := (rfl)
@[simp] theorem get_start (n : Nat) (args : List A) (bx : Boxes) (t : Nat) : (startEnv n args bx).get t = match args[t]? with | some a => .one a | none => .undef := (rfl)
@[simp] theorem box_start (n : Nat) (args : List A) (bx : Boxes) (b : Nat) : (startEnv n args bx).box b = boxGet b bx := (rfl)
@[simp] theorem size_start (n : Nat) (args : List A) (bx : Boxes) : (startEnv n args bx).size = n := (rfl)
@[simp] theorem root_tmp (e : Env) (t : Nat) : e.root (.tmp t) = match e.get t with | .one a => a | _ => .dead := (rfl)
@[simp] theorem root_cell (e : Env) (b o : Nat) : e.root (.cell b o) = match e.box b with | some cs => cs.getD o .dead | none => .dead := (rfl)
@[simp] theorem set_own (e : Env) (t : Nat) (d : D) : e.set t (.one (.own d)) = (e.mapA (A.drop (.tmp t))).set0 t (.one (.own d)) := (rfl)
section
variable (P : Program) (io : FuncId → List Nat) (call : CallF) (lp : LoopF)
def opsK (ops r : List Oper) (x : Option Env) : Option Env := x.then_ (evOps P io call ops r)
def regK (x : Option Env) : Res := x.then_ falls
def seqK (b : Code) (x : Res) : Res := x.then_ (afterN (evC P io call lp b))
def blkK (id : Nat) (x : Res) : Res := x.then_ (afterX id)
def loopK (a : Code) (e : Env) : Res := lp (evC P io call lp a) e
def endK (fn : Func) (bx : Boxes) (x : Res) : Option (V × Boxes) := x.then_ (ends P fn bx)
@[simp] theorem opsK_some (ops r : List Oper) (e : Env) : opsK P io call ops r (some e) = evOps P io call ops r e := (rfl)
@[simp] theorem opsK_none (ops r : List Oper) : opsK P io call ops r none = none := (rfl)
@[simp] theorem regK_some (e : Env) : regK (some e) = some (.n, e) := (rfl)
@[simp] theorem regK_none : regK none = none := (rfl)
@[simp] theorem seqK_n (b : Code) (e : Env) : seqK P io call lp b (some (.n, e)) = evC P io call lp b e := (rfl)
@[simp] theorem seqK_x (b : Code) (i : Nat) (e : Env) : seqK P io call lp b (some (.x i, e)) = some (.x i, e) := (rfl)
@[simp] theorem seqK_r (b : Code) (e : Env) : seqK P io call lp b (some (.r, e)) = some (.r, e) := (rfl)
@[simp] theorem seqK_none (b : Code) : seqK P io call lp b none = none := (rfl)
@[simp] theorem blkK_n (id : Nat) (e : Env) : blkK id (some (.n, e)) = some (.n, e) := (rfl)
@[simp] theorem blkK_x (id i : Nat) (e : Env) : blkK id (some (.x i, e)) = if i = id then some (.n, e) else some (.x i, e) := (rfl)
@[simp] theorem blkK_r (id : Nat) (e : Env) : blkK id (some (.r, e)) = some (.r, e) := (rfl)
@[simp] theorem blkK_none (id : Nat) : blkK id none = none := (rfl)
@[simp] theorem endK_n (fn : Func) (bx : Boxes) (e : Env) : endK P fn bx (some (.n, e)) = finish P fn e bx := (rfl)
@[simp] theorem endK_r (fn : Func) (bx : Boxes) (e : Env) : endK P fn bx (some (.r, e)) = finish P fn e bx := (rfl)
@[simp] theorem endK_x (fn : Func) (bx : Boxes) (i : Nat) (e : Env) : endK P fn bx (some (.x i, e)) = none := (rfl)
@[simp] theorem endK_none (fn : Func) (bx : Boxes) : endK P fn bx none = none := (rfl)
@[simp] theorem ev_nil (ops : List Oper) (e : Env) : evOps P io call ops [] e = some e := (rfl)
@[simp] theorem ev_cons (ops : List Oper) (o : Oper) (r : List Oper) (e : Env) : evOps P io call ops (o :: r) e = opsK P io call ops r (stepOp P io call ops o e) := (rfl)
@[simp] theorem ev_skip (e : Env) : evC P io call lp .skip e = some (.n, e) := (rfl)
@[simp] theorem ev_label (l : Nat) (e : Env) : evC P io call lp (.label l) e = some (.n, e) := (rfl)
@[simp] theorem ev_region (id : Nat) (ops : Array Oper) (d : Bool) (e : Env) : evC P io call lp (.region id ops d) e = if d then none else regK (evOps P io call ops.toList ops.toList e) := (rfl)
@[simp] theorem ev_seq (a b : Code) (e : Env) : evC P io call lp (.seq a b) e = seqK P io call lp b (evC P io call lp a e) := (rfl)
@[simp] theorem ev_cond (c : Operand) (a b : Code) (e : Env) : evC P io call lp (.cond c a b) e = match rd P e 0 c with | some (.bool t) => if t then evC P io call lp a e else evC P io call lp b e | _ => none := (rfl)
@[simp] theorem ev_block (id : Nat) (a : Code) (e : Env) : evC P io call lp (.block id a) e = blkK id (evC P io call lp a e) := (rfl)
@[simp] theorem ev_loop (a : Code) (e : Env) : evC P io call lp (.loop a) e = loopK P io call lp a e := (rfl)
@[simp] theorem ev_exit (id : Nat) (e : Env) : evC P io call lp (.exit id) e = some (.x id, e) := (rfl)
@[simp] theorem ev_ret (e : Env) : evC P io call lp .ret e = some (.r, e) := (rfl)
end
attribute [simp] Env.set Env.ownAt Env.setRoot Env.setLoc Env.vacate Env.freeze Env.newBox A.drop A.turn A.thaw A.killBox A.killIn V.mapA V.dead V.undef A.data datas V.data A.isOwn
  D.sub D.repl D.cellAt D.setAt D.cells D.withCells D.flat flats Root.inBox Cap.refsBox boxGet dataOfValue ghostFrom
  constA rd takeA takeAs take A.inner inners V.inner V.cellsA A.inCell Operand.isConst eqCellsD evEq A.live A.move toBytesT A.atRoot lentFrom argId capId evInt evStr evNil nilLit nilIs isSl evBin evUn evConv bytesD look looks lookD lookDs evLoad storeA storeD evStore locOf
  lendCaps lend1 lend lentBoxes Lent.apart allApart rowsOk hollow putBack giveBack D.isAgg A.flat V.flatRet operandV operandsV freezeOp A.portable readsOf capArgs tmpOf evPrep okRet evCall1 evCall pviewA pviewOf evPview A.isRo openBox evOpen freezeAs freezeArgs V.leavesV newId flatBoxes Lent.okId Lent.isRead partsInner inOrder setsFrom packV rosOf fillA placeAt evSliceBounds rdO evPure putDst capsOf zeroD evAppOwn evAppBs evAppStr isBsO V.isBs A.isBs A.isNilp isNilB tagBuf tagBox isStr evAppend evOp guardOf stepOp
  fnA capDs calleeV_fn calleeV_clo
  ros packA resultA resultsA backBoxes A.leaves finish
end Go.Qz
