import Derived.Test.YtcadiohekccmiaaGreatDoorQb3
namespace Go.Qz
@[simp] theorem yaz (e : Env) (t t' : Nat) (v : V) : (e.set0 t v).get t' = if t' = t then v else e.get t' := (rfl)
@[simp] theorem ya0 (e : Env) (f : A → A) (t : Nat) : (e.mapA f).get t = (e.get t).mapA f := (rfl)
@[simp] theorem z60 (e : Env) (b t : Nat) (cs : List A) : (e.setBox b cs).get t = e.get t := (rfl)
@[simp] theorem ya1 (e : Env) (t b : Nat) (v : V) : (e.set0 t v).box b = e.box b := (rfl)
@[simp] theorem ya2 (e : Env) (f : A → A) (b : Nat) : (e.mapA f).box b = e.box b := (rfl)
@[simp] theorem z61 (e : Env) (b b' : Nat) (cs : List A) : (e.setBox b cs).box b' = if b' = b then some cs else e.box b' := (rfl)
@[simp] theorem z7v (e : Env) (t : Nat) (v : V) : (e.set0 t v).size = e.size := (rfl)
@[simp] theorem z7w (e : Env) (f : A → A) : (e.mapA f).size = e.size := (rfl)
@[simp] theorem z5g (e : Env) (b : Nat) (cs : List A) : (e.setBox b cs).size = e.size := (rfl)
@[simp] theorem z7x (n : Nat) (args : List A) (bx : zaq) (t : Nat) : (zai n args bx).get t = match args[t]? with | some a => .one a | none => .undef := (rfl)
@[simp] theorem z7y (n : Nat) (args : List A) (bx : zaq) (b : Nat) : (zai n args bx).box b = za6 b bx := (rfl)
@[simp] theorem z62 (n : Nat) (args : List A) (bx : zaq) : (zai n args bx).size = n := (rfl)
@[simp] theorem ya3 (e : Env) (t : Nat) : e.root (.tmp t) = match e.get t with | .one a => a | _ => .dead := (rfl)
@[simp] theorem z7z (e : Env) (b o : Nat) : e.root (.cell b o) = match e.box b with | some cs => cs.getD o .dead | none => .dead := (rfl)
section
variable (P : Program) (io : FuncId → List Nat) (call : zal) (lp : ziu)
end
attribute [simp] Env.set Env.ownAt Env.setRoot Env.setLoc Env.vacate Env.freeze Env.newBox A.drop A.turn A.thaw A.killBox A.killIn V.mapA V.dead V.undef A.data datas V.data A.isOwn
 D.sub D.repl D.cellAt D.setAt D.cells D.withCells D.flat ziq Root.inBox Cap.refsBox za6 zc5 zae
 zgb rd ze3 zgh take A.inner zgc V.inner V.cellsA A.inCell Operand.isConst zhc evEq A.live A.move zir A.atRoot zas z5c z5d zwb z2b z2d zya zwf isSl z2c evUn zu6 znn look zou zwc zno zgd zge zll zlm zsw
 zco lend1 lend zat Lent.apart za2 zev zlo znp zbt zbl zew D.isAgg A.flat V.flatRet zba za7 zcd A.portable zln zcj zh7 zhx zp7 zb5 ze6 zyc zfs zgj A.isRo zov zlp ze7 zhd zsy zis zd2 V.leavesV zjt zea Lent.okId Lent.isRead zce zjv zcf zp6 zwd zp8 zgi zbu rdO zbo zar zlq z2e zdx zow zld z5e V.isBs A.isBs A.isNilp zp5 zlk zu9 zyb zhe evOp zjw z7t
 fnA zwe zju zsx
 ros zyd zls zft zeb A.leaves znq
end Go.Qz
