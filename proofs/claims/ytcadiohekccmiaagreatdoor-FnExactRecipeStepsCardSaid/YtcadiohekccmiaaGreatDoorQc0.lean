import Derived.Test.YtcadiohekccmiaaGreatDoorQb3
namespace Go.Qz
@[simp] theorem get_set0 (e : Env) (t t' : Nat) (v : V) : (e.set0 t v).get t' = if t' = t then v else e.get t' := (rfl)
@[simp] theorem get_mapA (e : Env) (f : A → A) (t : Nat) : (e.mapA f).get t = (e.get t).mapA f := (rfl)
@[simp] theorem get_setBox (e : Env) (b t : Nat) (cs : List A) : (e.setBox b cs).get t = e.get t := (rfl)
@[simp] theorem box_set0 (e : Env) (t b : Nat) (v : V) : (e.set0 t v).box b = e.box b := (rfl)
@[simp] theorem box_mapA (e : Env) (f : A → A) (b : Nat) : (e.mapA f).box b = e.box b := (rfl)
@[simp] theorem box_setBox (e : Env) (b b' : Nat) (cs : List A) : (e.setBox b cs).box b' = if b' = b then some cs else e.box b' := (rfl)
@[simp] theorem size_set0 (e : Env) (t : Nat) (v : V) : (e.set0 t v).size = e.size := (rfl)
@[simp] theorem size_mapA (e : Env) (f : A → A) : (e.mapA f).size = e.size := (rfl)
@[simp] theorem size_setBox (e : Env) (b : Nat) (cs : List A) : (e.setBox b cs).size = e.size := (rfl)
@[simp] theorem get_start (n : Nat) (args : List A) (bx : Boxes) (t : Nat) : (startEnv n args bx).get t = match args[t]? with | some a => .one a | none => .undef := (rfl)
@[simp] theorem box_start (n : Nat) (args : List A) (bx : Boxes) (b : Nat) : (startEnv n args bx).box b = boxGet b bx := (rfl)
@[simp] theorem size_start (n : Nat) (args : List A) (bx : Boxes) : (startEnv n args bx).size = n := (rfl)
@[simp] theorem root_tmp (e : Env) (t : Nat) : e.root (.tmp t) = match e.get t with | .one a => a | _ => .dead := (rfl)
@[simp] theorem root_cell (e : Env) (b o : Nat) : e.root (.cell b o) = match e.box b with | some cs => cs.getD o .dead | none => .dead := (rfl)
section
variable (P : Program) (io : FuncId → List Nat) (call : CallF) (lp : LoopF)
end
attribute [simp] Env.set Env.ownAt Env.setRoot Env.setLoc Env.vacate Env.freeze Env.newBox A.drop A.turn A.thaw A.killBox A.killIn V.mapA V.dead V.undef A.data datas V.data A.isOwn
 D.sub D.repl D.cellAt D.setAt D.cells D.withCells D.flat flats Root.inBox Cap.refsBox boxGet dataOfValue ghostFrom
 constA rd takeA takeAs take A.inner inners V.inner V.cellsA A.inCell Operand.isConst eqCellsD evEq A.live A.move toBytesT A.atRoot lentFrom argId capId evInt evStr evNil nilLit nilIs isSl evBin evUn evConv bytesD look looks lookD lookDs evLoad storeA storeD evStore locOf
 lendCaps lend1 lend lentBoxes Lent.apart allApart rowsOk holeD holeAt hollow putBack giveBack D.isAgg A.flat V.flatRet operandV operandsV freezeOp A.portable readsOf capArgs tmpOf evPrep okRet evCall1 evCall pviewA pviewOf evPview A.isRo openBox coldRes evOpen freezeAs gatherT gatherOp freezeArgs V.leavesV newId flatBoxes Lent.okId Lent.isRead partsInner inOrder setsFrom packV rosOf fillA placeAt evSliceBounds rdO evPure putDst capsOf zeroD evAppOwn evAppBs evAppStr isBsO V.isBs A.isBs A.isNilp isNilB tagBuf tagBox isStr evAppend evOp guardOf stepOp
 fnA capDs calleeV_fn calleeV_clo
 ros packA resultA resultsA backBoxes A.leaves finish
end Go.Qz
