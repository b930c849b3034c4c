import Derived.Test.YtcadiohekccmiaaGreatDoorQb3
namespace Go.Qz
@[simp] theorem yep(e:Env)(t t':Nat)(v:V):(e.set0 t v).get t' =if t' =t then v else e.get t':=(rfl)
@[simp] theorem yeq(e:Env)(f:A->A)(t:Nat):(e.mapA f).get t=(e.get t).mapA f:=(rfl)
@[simp] theorem yam(e:Env)(b t:Nat)(cs:List A):(e.setBox b cs).get t=e.get t:=(rfl)
@[simp] theorem yer(e:Env)(t b:Nat)(v:V):(e.set0 t v).box b=e.box b:=(rfl)
@[simp] theorem yes(e:Env)(f:A->A)(b:Nat):(e.mapA f).box b=e.box b:=(rfl)
@[simp] theorem yan(e:Env)(b b':Nat)(cs:List A):(e.setBox b cs).box b' =if b' =b then some cs else e.box b':=(rfl)
@[simp] theorem ybm(e:Env)(t:Nat)(v:V):(e.set0 t v).size=e.size:=(rfl)
@[simp] theorem ybn(e:Env)(f:A->A):(e.mapA f).size=e.size:=(rfl)
@[simp] theorem z8w(e:Env)(b:Nat)(cs:List A):(e.setBox b cs).size=e.size:=(rfl)
@[simp] theorem ybo(n:Nat)(args:List A)(bx:zar)(t:Nat):(zaj n args bx).get t=match args[t]? with|some a=>.one a|none=>.undef:=(rfl)
@[simp] theorem ybp(n:Nat)(args:List A)(bx:zar)(b:Nat):(zaj n args bx).box b=za9 b bx:=(rfl)
@[simp] theorem yao(n:Nat)(args:List A)(bx:zar):(zaj n args bx).size=n:=(rfl)
@[simp] theorem yet(e:Env)(t:Nat):e.root (.tmp t)=match e.get t with| .one a=>a|_=>.dead:=(rfl)
@[simp] theorem ybq(e:Env)(b o:Nat):e.root (.cell b o)=match e.box b with|some cs=>cs.getD o .dead|none=>.dead:=(rfl)
section
variable(P:Program)(io:FuncId->List Nat)(call:zam)(lp:zjt)
end
attribute [simp] Env.set Env.ownAt Env.setRoot Env.setLoc Env.vacate Env.freeze Env.newBox A.drop A.turn A.thaw A.killBox A.killIn V.mapA V.dead V.undef A.data datas V.data A.isOwn
 D.sub D.repl D.cellAt D.setAt D.cells D.withCells D.flat flats Root.inBox Cap.refsBox za9 zdp zag
 zg7 rd zfq zhf take A.inner zg8 V.inner V.cellsA A.inCell Operand.isConst zh9 evEq A.live A.move zjq A.atRoot zat z8s z8t zx6 z4u z4w zz6 zya isSl z4v evUn zwz zls look zp4 zx7 zoz zg9 zha zmu zmv zuj
 zcz lend1 lend zau Lent.apart za6 zfh zmx zo0 zbv zbp zfi D.isAgg A.flat V.flatRet zbd zba zcn A.portable zmw zct zi3 zis zrk zch zfu zz8 zgj zhh A.isRo zp5 zmy zfv zia zul zjr zen V.leavesV zky zex Lent.okId Lent.isRead zco zk0 zcp zrj zx8 zrl zhg zbw rdO zbs zas zmz z4x zei zp6 zml z8u V.isBs A.isBs A.isNilp zri zmt zw2 zz7 zib evOp zk1 ybk
 fnA zx9 zkz zuk
 ros zz9 zm1 zgk zey A.leaves zo1
end Go.Qz
