import Derived.Test.YtddfkpkieamlpaaGreatDoorQz0
import Derived.Test.YtddfkpkieamlpaaGreatDoorQYc0
import Derived.Test.YtddfkpkieamlpaaGreatDoorQYa0
import Derived.Test.YtddfkpkieamlpaaGreatDoorQb0
namespace Go.Qz
open Go.Proofs
abbrev zgy:=List (List UInt8)
abbrev SS(xs:zgy):D:=.sl 1 (xs.map T)
abbrev I(n:Int):D:=.int .i64 n
abbrev N(n:Nat):D:=.int .i64 (n:Int)
end Go.Qz
namespace Go.Qz
open Go.Proofs
def zeu(b:UInt8):Bool:=decide (32<=b.toNat)&&decide (b.toNat<=126)
def inI(n a b:Int):Bool:=decide (a<=n)&&decide (n<=b)
theorem zrs(b:UInt8):C ycm [.ro (.int .u8 b.toNat)] []=some (.one (.ro (.bool (zeu b))),[]):=by
 refine zad Tryz.func181 yco rfl ?_;unfold zeu;by_cases h:32<=b.toNat<;>simp[h]
theorem zj0(n a b:Int):C z98 [.ro (I n),.ro (I a),.ro (I b)] []=some (.one (.ro (.bool (inI n a b))),[]):=by
 refine zad Tryz.func107 yaa rfl ?_;unfold inI;by_cases h:a<=n<;>simp[h]
theorem z30(b:UInt8):inI b.toNat 32 126=zeu b:=by
 unfold inI zeu;congr 1
 ·simp
 ·simp
end Go.Qz
namespace Go.Qz
open Go.Proofs
def cutP(b:UInt8):Nat->List UInt8->List UInt8->zgy
 |_,pre,[]=>[pre]
 |0,pre,c::r=>[pre++c::r]
 |k+1,pre,c::r=>if c==b then pre::cutP b k [] r else cutP b (k+1) (pre++[c]) r
end Go.Qz
namespace Go.Qz
open Go.Proofs
theorem z32(s:List UInt8)(b:UInt8)(most:Nat)(m0:Int)(hm0:m0=most)(hs:s.length<=1048576)(hm:most<=2000000):
 C Fn87 [.ro (T s),.ro (.int .u8 b.toNat),.ro (.int .i64 m0)] []=some (.one (.own (SS (cutP b most [] s))),[]):=by
 subst hm0;refine zad Tryz.func87 Cv87 rfl ?_;simp
 refine zam (λm e=> ∃(out:zgy) (pre rest:List UInt8) (i j:Nat),m=rest.length/\s.drop i=pre++rest/\j=i+pre.length/\j+rest.length=s.length/\out.length<=most/\out.length<=s.length/\out.length<=i/\e.size=43/\e.get 0=.one (.ro (T s))/\e.get 1=.one (.ro (.int .u8 b.toNat))/\e.get 2=.one (.ro (N most))/\e.get 7=.one (.own (SS out))/\
  e.get 8=.one (.ro (N i))/\e.get 9=.one (.ro (N j))/\out++cutP b (most-out.length) pre rest=cutP b most [] s)
  ?_ s.length _ ⟨[],[],s,0,0,rfl,rfl,rfl,by simp,by simp,by simp,by simp,by simp,by simp,by simp,by simp,by simp,by simp,by simp,by simp⟩
 rintro m e ⟨out,pre,rest,i,j,rfl,hd,hj,hjl,ho,hos,hoi,hsz,h0,h1,h2,h7,h8,h9,hr⟩ ih;have ha:out.length+1<=zaf:=by simp[zaf];omega
 have hil:i<=s.length:=by omega
 have hil':(i:Int)<=s.length:=by omega
 have fin:List.drop i (List.take s.length s)=pre++rest:=by rw[List.take_length];exact hd
 cases rest with
 |nil=>
  have hlt:¬j<s.length:=by simp at hjl;omega
  rw[cutP]at hr;simp at fin;simp[hsz,h0,h2,h7,h8,h9,hlt,ha,hil',hd,<-hr]
 |cons c r=>
  have hlt:j<s.length:=by simp at hjl;omega
  by_cases hmo:out.length<most
  ·have hget:s[j]=c:=by
    have h3:(s.drop i)[pre.length]? =some c:=by rw[hd];simp
    rw[List.getElem?_drop,<-hj,List.getElem?_eq_getElem hlt]at h3;exact Option.some.inj h3
   have hsl:List.drop i (List.take j s)=pre:=by
    rw[List.drop_take,hd,hj,Nat.add_sub_cancel_left,List.take_left]
   have hij:i<=j:=by omega
   have hjs:j<=s.length:=by omega
   have hij':(i:Int)<=j:=by omega
   have hwj:IntKind.i64.wrap ((j:Int)+1)=((j+1:Nat):Int):=zah (by omega)
   have hsd:s.drop (j+1)=r:=by
    have h3:(s.drop i).drop (pre.length+1)=r:=by rw[hd];simp
    rw[List.drop_drop]at h3;rw[<-h3];congr 1;omega
   have hk:most-out.length=(most-out.length-1)+1:=by omega
   rw[hk,cutP]at hr
   cases hcb:c==b with
   |true=>
    obtain rfl:c=b:=by simpa using hcb
    rw[if_pos hcb]at hr;simp[hsz,h0,h1,h2,h7,h8,h9,hlt,ha,hmo,hget,hij',hjs,hwj,hsl]
    exact ih _ _ (by simp) ⟨out++[pre],[],r,j+1,j+1,rfl,by simp[hsd],by simp,by simp at hjl ⊢;omega,by simp;omega,by simp;omega,by simp;omega,by simp[hsz],by simp[h0],by simp[h1],by simp[h2],by simp,by simp,by simp,by
     rw[<-hr];simp[show most-(out.length+1)=most-out.length-1 by omega]⟩
   |false=>
    have hne:¬c=b:=by simpa using hcb
    have hne':(c.toNat==b.toNat)=false:=by rw[beq_eq_false_iff_ne];exact λh=>hne (UInt8.toNat_inj.1 h)
    rw[if_neg (by simp[hcb])]at hr
    simp[hsz,h0,h1,h2,h7,h9,hlt,hmo,hget,hwj,hne'];refine ih r.length _ (by simp) ⟨out,pre++[c],r,i,j+1,rfl,by simp[hd],by simp;omega,by simp at hjl ⊢;omega,ho,hos,hoi,by simp[hsz],by simp[h0],by simp[h1],by simp[h2],by simp[h7],by simp[h8],by simp,?_⟩
    rw[<-hr,<-hk]
  ·have hmo':most-out.length=0:=by omega
   rw[hmo',cutP]at hr;simp[hsz,h0,h2,h7,h8,h9,hlt,ha,hmo,hil',hd,<-hr]
end Go.Qz
namespace Go.Qz
open Go.Proofs
def figB(b:UInt8):Bool:=decide (48<=b.toNat)&&decide (b.toNat<=57)
def goN:Nat->List UInt8->Option Nat
 |n,[]=>some n
 |n,c::r=>if figB c then goN (n*10+(c.toNat-48)) r else none
def zks(l:List UInt8):Bool:=match l with
 |c::_::_=>c==48
 |_=>false
def numS(l:List UInt8):Int:=match goN 0 l with
 |some n=>if decide (l.length<=6)&& !l.isEmpty&& !zks l then n else-1
 |none=> -1
def numI(l:List UInt8)(most:Nat):Nat×Bool:=if l.isEmpty||decide (9<l.length)||zks l then(0,false)else match goN 0 l with
 |some n=>if most<n then(0,false)else(n,true)
 |none=>(0,false)
def numV(o:Option Nat)(most:Nat):Nat×Bool:=match o with
 |some n=>if most<n then(0,false)else(n,true)
 |none=>(0,false)
theorem z1n{c:UInt8}(h:figB c=true):IntKind.u8.wrap ((c.toNat:Int)-48)=((c.toNat-48:Nat):Int)/\ ¬c.toNat<48/\ ¬57<c.toNat/\c.toNat-48<=9:=by
 unfold figB at h;simp only[Bool.and_eq_true,decide_eq_true_eq]at h;refine⟨?_,by omega,by omega,by omega⟩
 show ((c.toNat:Int)-48) % 256=_;omega
theorem z1o{c:UInt8}(h:figB c=false):c.toNat<48∨(¬c.toNat<48/\57<c.toNat):=by
 unfold figB at h;simp only[Bool.and_eq_false_iff,decide_eq_false_iff_not]at h;omega
theorem zmo(l:List UInt8)(most:Nat)(hlen:l.length<=9)(_:most<=1000000)(e:Env)(hsz:e.size=53)(h0:e.get 0=.one (.ro (T l)))(h1:e.get 1=.one (.ro (N most)))(h6:e.get 6=.one (.ro (N 0)))(h26:e.get 26=.one (.ro (N l.length)))(h27:e.get 27=.one (.ro (N 0))):
 Run cx q140l0.loop e [Fr.blk 0,Fr.seq q140c4,Fr.fn [(ResultVar.tmp 4,3),(ResultVar.tmp 5,4)] []]=some (.tup [.ro (N (numV (goN 0 l) most).1),.ro (.bool (numV (goN 0 l) most).2)],[]):=by
 refine zam (λm e=> ∃i n,m=l.length-i/\i<=l.length/\n<10^i/\e.size=53/\e.get 0=.one (.ro (T l))/\e.get 1=.one (.ro (N most))/\e.get 6=.one (.ro (N n))/\e.get 26=.one (.ro (N l.length))/\e.get 27=.one (.ro (N i))/\goN n (l.drop i)=goN 0 l)
  ?_ l.length _ ⟨0,0,rfl,Nat.zero_le _,by simp,hsz,h0,h1,h6,h26,h27,rfl⟩
 clear hsz h0 h1 h6 h26 h27;rintro m e ⟨i,n,rfl,hi,hn,hsz,h0,h1,h6,h26,h27,hr⟩ ih;rcases Nat.lt_or_ge i l.length with hlt|hge
 ·have hp:10^i<=10^8:=Nat.pow_le_pow_right (by omega) (by omega)
  have hp2:10^(i+1)=10^i*10:=Nat.pow_succ _ _;have hwi:IntKind.i64.wrap ((i:Int)+1)=((i+1:Nat):Int):=zah (by omega)
  have hd:l.drop i=l[i]::l.drop (i+1):=List.drop_eq_getElem_cons hlt;rw[hd,goN]at hr;obtain⟨c,hc⟩:∃c,l[i]=c:=⟨_,rfl⟩;rw[hc]at hr
  cases hf:figB c with
  |false=>
   rw[hf]at hr;simp only[Bool.false_eq_true,if_false]at hr;rcases z1o hf with h|⟨h,h'⟩
   ·simp[hsz,h0,h26,h27,hlt,hc,h,<-hr,numV]
   ·simp[hsz,h0,h26,h27,hlt,hc,h,h',<-hr,numV]
  |true=>
   rw[hf]at hr;simp only[if_true]at hr;obtain⟨g1,g2,g3,g4⟩:=z1n hf;generalize c.toNat-48=d at *;have hw1:IntKind.i64.wrap ((n:Int)*10)=((n*10:Nat):Int):=by rw[wrap64 (by omega) (by omega)];omega
   have hw2:IntKind.i64.wrap (d:Int)=d:=wrap64 (by omega) (by omega)
   have hw3:IntKind.i64.wrap (((n*10:Nat):Int)+(d:Int))=((n*10+d:Nat):Int):=by rw[wrap64 (by omega) (by omega)];omega
   have hlt2:n*10+d<10^(i+1):=by omega
   generalize n*10+d=q at *;generalize n*10=p at *;simp[hsz,h0,h6,h26,h27,hlt,hc,g1,g2,g3,hwi,hw1,hw2,hw3];exact ih _ _ (by omega) ⟨i+1,q,rfl,by omega,hlt2,by simp[hsz],by simp[h0],by simp[h1],by simp,by simp[h26],by simp,hr⟩
 ·obtain rfl:i=l.length:=by omega
  rw[List.drop_length,goN]at hr;by_cases hmn:most<n
  ·simp[hsz,h1,h6,h26,h27,hmn,<-hr,numV]
  ·simp[hsz,h1,h6,h26,h27,hmn,<-hr,numV]
theorem z1p(l:List UInt8)(most:Nat)(m0:Int)(hm0:m0=most)(hl:l.length<=1048576)(hm:most<=1000000):
 C ybh [.ro (T l),.ro (.int .i64 m0)] []=some (.tup [.ro (N (numI l most).1),.ro (.bool (numI l most).2)],[]):=by
 subst hm0;refine zad Tryz.func140 ybj rfl ?_;unfold numI
 cases l with
 |nil=>simp
 |cons c0 r0=>
  by_cases h9:9<r0.length+1
  ·have h9':(9:Int)<(r0.length:Int)+1:=by omega
   simp[h9,h9']
  ·have h9':¬(9:Int)<(r0.length:Int)+1:=by omega
   have hlead:zks (c0::r0)=(decide ((1:Int)<(r0.length:Int)+1)&&c0==48):=by
    cases r0 with
    |nil=>simp[zks]
    |cons b q=>simp[zks];omega
   cases hl0:zks (c0::r0)with
   |true=>
    rw[hl0]at hlead
    have h1:(1:Int)<(r0.length:Int)+1:=by
     by_cases h:(1:Int)<(r0.length:Int)+1
     ·exact h
     ·simp[h]at hlead
    have h2:(c0==48)=true:=by simpa [h1]using hlead.symm
    simp[h9,h9',h1,h2]
   |false=>
    rw[hl0]at hlead
    have hg:(if (List.isEmpty (c0::r0)||decide (9<List.length (c0::r0))||false)=true then((0:Nat),false)else match goN 0 (c0::r0)with
     |some n=>if most<n then(0,false)else(n,true)
     |none=>(0,false))=numV (goN 0 (c0::r0)) most:=by
     rw[if_neg (by simp;omega)]
     rfl
    rw[hg];have hlen:(c0::r0).length<=9:=by simp;omega
    by_cases h1:(1:Int)<(r0.length:Int)+1
    ·have h2:(c0==48)=false:=by simpa [h1]using hlead.symm
     simp[h9',h1,h2];exact zmo (c0::r0) most hlen hm _ (by simp) (by simp) (by simp) (by simp) (by simp) (by simp)
    ·simp[h9',h1];exact zmo (c0::r0) most hlen hm _ (by simp) (by simp) (by simp) (by simp) (by simp) (by simp)
end Go.Qz
namespace Go.Qz
open Go.Proofs
theorem z1q{l:List UInt8}(h:6<l.length):numS l= -1:=by
 unfold numS;split
 ·rw[show decide (l.length<=6)=false by simp;omega]
  simp
 ·rfl
theorem z33(l:List UInt8)(hl:l.length<=1048576):C ybb [.ro (T l)] []=some (.one (.ro (I (numS l))),[]):=by
 refine zad Tryz.func130 ybd rfl ?_;simp
 refine zam (λm e=> ∃i n,m=l.length-i/\i<=l.length/\i<=6/\n<10^i/\e.size=47/\e.get 0=.one (.ro (T l))/\e.get 3=.one (.ro (N n))/\e.get 4=.one (.ro (N i))/\goN n (l.drop i)=goN 0 l)
  ?_ l.length _ ⟨0,0,rfl,Nat.zero_le _,by omega,by simp,by simp,by simp,by simp,by simp,rfl⟩
 rintro m e ⟨i,n,rfl,hi,hi6,hn,hsz,h0,h3,h4,hr⟩ ih;rcases Nat.lt_or_ge i l.length with hlt|hge
 ·have hp:10^i<=10^8:=Nat.pow_le_pow_right (by omega) (by omega)
  have hp2:10^(i+1)=10^i*10:=Nat.pow_succ _ _;have hwi:IntKind.i64.wrap ((i:Int)+1)=((i+1:Nat):Int):=zah (by omega)
  have hd:l.drop i=l[i]::l.drop (i+1):=List.drop_eq_getElem_cons hlt;rw[hd,goN]at hr;obtain⟨c,hc⟩:∃c,l[i]=c:=⟨_,rfl⟩;rw[hc]at hr
  cases hf:figB c with
  |false=>
   rw[hf]at hr;simp only[Bool.false_eq_true,if_false]at hr;have hnum:numS l= -1:=by unfold numS;rw[<-hr]
   rcases z1o hf with h|⟨h,h'⟩
   ·simp[hsz,h0,h4,hlt,hc,h,hnum]
   ·simp[hsz,h0,h4,hlt,hc,h,h',hnum]
  |true=>
   rw[hf]at hr;simp only[if_true]at hr;obtain⟨g1,g2,g3,g4⟩:=z1n hf;by_cases h6:6<=i
   ·have hnum:=z1q (l:=l) (by omega)
    have h6':(6:Int)<=i:=by omega
    simp[hsz,h0,h4,hlt,hc,g2,g3,h6',hnum]
   ·have h6':¬(6:Int)<=i:=by omega
    generalize c.toNat-48=d at *;have hw1:IntKind.i64.wrap ((n:Int)*10)=((n*10:Nat):Int):=by rw[wrap64 (by omega) (by omega)];omega
    have hw2:IntKind.i64.wrap (d:Int)=d:=wrap64 (by omega) (by omega)
    have hw3:IntKind.i64.wrap (((n*10:Nat):Int)+(d:Int))=((n*10+d:Nat):Int):=by rw[wrap64 (by omega) (by omega)];omega
    have hlt2:n*10+d<10^(i+1):=by omega
    generalize n*10+d=q at *;generalize n*10=p at *;simp[hsz,h0,h3,h4,hlt,hc,g1,g2,g3,h6',hwi,hw1,hw2,hw3];exact ih _ _ (by omega) ⟨i+1,q,rfl,by omega,by omega,hlt2,by simp[hsz],by simp[h0],by simp,by simp,hr⟩
 ·obtain rfl:i=l.length:=by omega
  rw[List.drop_length,goN]at hr;unfold numS;rw[<-hr];clear ih hr
  match l,hi6,hsz,h0,h3,h4 with
  | [],_,hsz,h0,h3,h4=>simp[hsz,h0,h4]
  | [c],_,hsz,h0,h3,h4=>simp[hsz,h0,h3,h4,zks]
  |c::b::r,hi6,hsz,h0,h3,h4=>
   simp only[List.length_cons]at hi6;have h1:(1:Int)<(r.length:Int)+1+1:=by omega
   have hne:((r.length:Int)+1+1==0)=false:=by rw[beq_eq_false_iff_ne];omega
   have h6:r.length+1+1<=6:=by omega
   cases hc:c==48 with
   |true=>simp[hsz,h0,h4,zks,h1,hne,hc,h6]
   |false=>simp[hsz,h0,h3,h4,zks,h1,hne,hc,h6]
end Go.Qz
namespace Go.Qz
open Go.Proofs
def idxL(n:List UInt8):zgy->Nat->Int
 | [],_=> -1
 |x::r,i=>if n==x then(i:Int)else idxL n r (i+1)
theorem z34(n:List UInt8):∀(xs:zgy) (i:Nat),decide (idxL n xs i≥0)=xs.contains n:=by
 intro xs
 induction xs with
 |nil=>intro i;rfl
 |cons x r ih=>
  intro i;rw[idxL,List.contains_cons]
  cases h:n==x with
  |true=>simp
  |false=>simp[ih]
theorem z35(xs:zgy)(n:List UInt8)(hn:xs.length<=140737488351232):C ybk [.ro (SS xs),.ro (T n)] []=some (.one (.ro (I (idxL n xs 0))),[]):=by
 refine zad Tryz.func144 ybm rfl ?_;simp
 refine zam (λm e=> ∃i,m=xs.length-i/\i<=xs.length/\e.size=19/\e.get 0=.one (.ro (SS xs))/\e.get 1=.one (.ro (T n))/\e.get 7=.one (.ro (N xs.length))/\e.get 8=.one (.ro (N i))/\
  idxL n (xs.drop i) i=idxL n xs 0) ?_ xs.length _ ⟨0,rfl,Nat.zero_le _,by simp,by simp,by simp,by simp,by simp,rfl⟩
 rintro m e ⟨i,rfl,hi,hsz,h0,h1,h7,h8,hr⟩ ih;rcases Nat.lt_or_ge i xs.length with hlt|hge
 ·have hd:xs.drop i=xs[i]::xs.drop (i+1):=List.drop_eq_getElem_cons hlt;have hwi:IntKind.i64.wrap ((i:Int)+1)=((i+1:Nat):Int):=zah (by omega)
  rw[hd,idxL]at hr
  cases hp:n==xs[i]with
  |true=>
   rw[hp,if_pos rfl]at hr;simp[hsz,h0,h1,h7,h8,hlt,hp,<-hr]
  |false=>
   rw[hp]at hr;simp only[Bool.false_eq_true,if_false]at hr;simp[hsz,h0,h1,h7,h8,hlt,hwi,hp];exact ih _ _ (by omega) ⟨i+1,rfl,by omega,by simp[hsz],by simp[h0],by simp[h1],by simp[h7],by simp,hr⟩
 ·obtain rfl:i=xs.length:=by omega
  rw[List.drop_length,idxL]at hr;simp[hsz,h7,h8,<-hr]
theorem zt5(xs:zgy)(n:List UInt8)(hn:xs.length<=140737488351232):C z9z [.ro (SS xs),.ro (T n)] []=some (.one (.ro (.bool (xs.contains n))),[]):=by
 refine zad Tryz.func104 z91 rfl ?_;have h:=z35 xs n hn;have h2:=z34 n xs 0;generalize idxL n xs 0=q at *;rw[<-h2];simp[h]
end Go.Qz
namespace Go.Qz
open Go.Proofs
def zj1(b:UInt8):Bool:=(decide (97<=b.toNat)&&decide (b.toNat<=122))||(decide (48<=b.toNat)&&decide (b.toNat<=57))||b==46||b==95||b==45
def zfl(l:List UInt8):Bool:=decide (l.length<=10)&& !(l==[46])&& !(l==[46,46])&&l.all zj1&& !l.isEmpty
def zfm(l:List UInt8):Bool:=decide ((za7 47 l).length<=5)&&(za7 47 l).all zfl
theorem zmp(b:UInt8):C ydf [.ro (.int .u8 b.toNat)] []=some (.one (.ro (.bool (zj1 b))),[]):=by
 refine zad Tryz.func214 ydh rfl ?_;unfold zj1;by_cases h1:97<=b.toNat<;>by_cases h2:b.toNat<=122<;>by_cases h3:48<=b.toNat<;>by_cases h4:b.toNat<=57<;>cases h5:b==46<;>cases h6:b==95<;>simp[h1,h2,h3,h4,h5,h6]
theorem zrt(l:List UInt8)(hl:l.length<=140737488351232):C yc6 [.ro (T l)] []=some (.one (.ro (.bool (l.all zj1&& !l.isEmpty))),[]):=by
 refine zad Tryz.func203 yc8 rfl ?_;simp
 refine zam (λm e=> ∃i,m=l.length-i/\i<=l.length/\e.size=17/\e.get 0=.one (.ro (T l))/\e.get 5=.one (.ro (N l.length))/\e.get 6=.one (.ro (N i))/\
  (l.drop i).all zj1=l.all zj1) ?_ l.length _ ⟨0,rfl,Nat.zero_le _,by simp,by simp,by simp,by simp,rfl⟩
 rintro m e ⟨i,rfl,hi,hsz,h0,h5,h6,hr⟩ ih;rcases Nat.lt_or_ge i l.length with hlt|hge
 ·have hd:l.drop i=l[i]::l.drop (i+1):=List.drop_eq_getElem_cons hlt;have hwi:IntKind.i64.wrap ((i:Int)+1)=((i+1:Nat):Int):=zah (by omega)
  rw[hd,List.all_cons]at hr
  cases hp:zj1 l[i]with
  |false=>
   rw[hp]at hr;simp[zmp,hsz,h0,h5,h6,hlt,hp,<-hr]
  |true=>
   rw[hp,Bool.true_and]at hr;simp[zmp,hsz,h0,h5,h6,hlt,hwi,hp];exact ih _ _ (by omega) ⟨i+1,rfl,by omega,by simp[hsz],by simp[h0],by simp[h5],by simp,hr⟩
 ·obtain rfl:i=l.length:=by omega
  rw[List.drop_length,List.all_nil]at hr
  cases l with
  |nil=>simp[hsz,h0,h5,h6,<-hr]
  |cons c r=>simp[hsz,h0,h5,h6,<-hr]
theorem z1r(l:List UInt8)(hl:l.length<=140737488351232):C ycj [.ro (T l)] []=some (.one (.ro (.bool (zfl l))),[]):=by
 refine zad Tryz.func180 ycl rfl ?_;have h:=zrt l hl;unfold zfl;by_cases h1:l.length<=10
 ·cases h2:l==[46]
  ·cases h3:l==[46,46]<;>simp[h1,h2,h3,h]
  ·simp[h1,h2]
 ·simp[h1]
def goP:Nat->zgy->Bool
 |_,[]=>true
 |k,x::r=>if 5<k+1 then false else if zfl x then goP (k+1) r else false
theorem z42:∀(xs:zgy) (k:Nat),goP k xs=(decide (k+xs.length<=5)&&xs.all zfl||xs.isEmpty)
 | [],k=>by simp[goP]
 |x::r,k=>by
  rw[goP,z42 r (k+1)];by_cases h:5<k+1
  ·have:¬k+(r.length+1)<=5:=by omega
   simp[h,this]
  ·cases hx:zfl x with
   |false=>simp[h,hx]
   |true=>
    cases r with
    |nil=>have:k+1<=5:=by omega
          simp[h,hx,this]
    |cons y r=>simp[h,hx,Nat.add_assoc,Nat.add_comm 1]
theorem zhk(b:UInt8)(l:List UInt8):za7 b l≠[]:=by
 cases l with
 |nil=>simp[za7]
 |cons c r=>
  rw[za7];split
  ·simp
  ·split<;>simp
theorem z36(l:List UInt8):goP 0 (za7 47 l)=zfm l:=by
 rw[z42];have:=zhk 47 l
 cases h:za7 47 l with
 |nil=>exact absurd h this
 |cons x r=>simp[zfm,h]
theorem zgz(b:UInt8):∀(l x:List UInt8),x∈za7 b l->x.length<=l.length
 | [],x,h=>by simp[za7]at h;simp[h]
 |c::r,x,h=>by
  have ih:=zgz b r;rw[za7]at h;split at h
  ·rcases List.mem_cons.1 h with rfl|h
   ·simp
   ·have:=ih x h;simp;omega
  ·cases hq:za7 b r with
   |nil=>exact absurd hq (zhk b r)
   |cons y t=>
    rw[hq]at h ih;simp only at h;rcases List.mem_cons.1 h with rfl|h
    ·have:=ih y (by simp);simp;omega
    ·have:=ih x (by simp[h]);simp;omega
theorem zmq(l:List UInt8)(hl:l.length<=140737488351232):C ybn [.ro (T l)] []=some (.one (.ro (.bool (zfm l))),[]):=by
 refine zad Tryz.func145 ybp rfl ?_;have hs:=z1k ⟨l.toArray⟩ ⟨#[47]⟩;rw[<-z36];have h47:(⟨#[47]⟩:ByteArray).size=1:=rfl;have hl2:l.length<=9223372036854775807:=by omega
 simp[hs,h47,hl2];refine zrl (λo ho=>?_)
 have o2:o.get 2=.one (.ptr 2 0):=by rw[ho];simp
 have o3:o.get 3=.one (.ptr 3 0):=by rw[ho];simp
 have os:o.size=17:=by rw[ho];simp
 have b2:o.box 2=some [.ro (.bool false)]:=by rw[ho];simp
 have b3:o.box 3=some [.ro (N 0)]:=by rw[ho];simp
 clear ho
 refine zrk (λxs e=> ∃k,(∀x∈xs,x.length<=l.length)/\e.size=17/\e.get 2=.one (.ptr 9002 0)/\e.get 3=.one (.ptr 9003 0)/\e.box 9002=some [.ro (.bool false)]/\e.box 9003=some [.ro (N k)]/\k<=6/\goP k xs=goP 0 (za7 47 l))
  ?_ _ _ ⟨0,zgz 47 l,by simp[os],by simp[o2],by simp[o3],by simp[zbn,b2],by simp[zbn,b3],by omega,rfl⟩
 rintro xs e ⟨k,hx,es,e2,e3,c2,c3,hk,hr⟩ ih
 cases xs with
 |nil=>
  rw[goP]at hr;simp[o2,b2,c2,zfj,<-hr]
 |cons x xs=>
  have hn:=z1r x (by have:=hx x (by simp);omega)
  have hwk:IntKind.i64.wrap ((k:Int)+1)=((k+1:Nat):Int):=zah (by omega)
  rw[goP]at hr;by_cases h5:5<k+1
  ·rw[if_pos h5]at hr;have h5i:(5:Int)<(k:Int)+1:=by omega
   simp[h5i,o2,b2,es,e2,e3,c2,c3,hwk,zfj,zc1,zbn,<-hr]
  ·rw[if_neg h5]at hr;have h5i:¬(5:Int)<(k:Int)+1:=by omega
   cases hq:zfl x with
   |false=>
    rw[hq]at hn hr;simp[h5i,o2,b2,es,e2,e3,c2,c3,hwk,hn,zfj,zc1,zbn,<-hr]
   |true=>
    rw[hq]at hn hr;simp[h5i,es,e3,c3,hwk,hn];refine ih _ _ (by simp) ⟨k+1,λy hy=>hx y (by simp[hy]),by simp[os],by simp[o2],by simp[o3],by simp[zc1,zbn,b2,c2],by simp[zc1,zbn,b3],by omega,hr⟩
end Go.Qz
namespace Go.Qz
open Go.Proofs
theorem zoc(b:UInt8):C ydc [.ro (.int .u8 b.toNat)] []=some (.one (.ro (.bool (zj1 b))),[]):=by
 refine zad Tryz.func206 yde rfl ?_;unfold zj1;by_cases h1:97<=b.toNat<;>by_cases h2:b.toNat<=122<;>by_cases h3:48<=b.toNat<;>by_cases h4:b.toNat<=57<;>cases h5:b==46<;>cases h6:b==95<;>simp[h1,h2,h3,h4,h5,h6]
def z38(l:List UInt8):Bool:=l.all zj1&&(inI l.length 1 10&& !(l==[46])&& !(l==[46,46]))
theorem z39(l:List UInt8):z38 l=zfl l:=by
 unfold z38 zfl inI
 cases l with
 |nil=>simp
 |cons c r=>
  have h1:(1:Int)<=((c::r).length:Nat):=by simp
  have h2:(((c::r).length:Nat):Int)<=10↔(c::r).length<=10:=by omega
  simp only[h1,decide_true,Bool.true_and,decide_eq_decide.2 h2,List.isEmpty_cons,Bool.not_false,Bool.and_true];rw[Bool.and_comm]
theorem z1s(l:List UInt8)(hl:l.length<=140737488351232):C ycv [.ro (T l)] []=some (.one (.ro (.bool (zfl l))),[]):=by
 refine zad Tryz.func185 ycx rfl ?_;rw[<-z39];simp
 refine zam (λm e=> ∃i,m=l.length-i/\i<=l.length/\e.size=26/\e.get 0=.one (.ro (T l))/\e.get 3=.one (.ro (N i))/\
  (l.drop i).all zj1=l.all zj1) ?_ l.length _ ⟨0,rfl,Nat.zero_le _,by simp,by simp,by simp,rfl⟩
 rintro m e ⟨i,rfl,hi,hsz,h0,h3,hr⟩ ih;rcases Nat.lt_or_ge i l.length with hlt|hge
 ·have hd:l.drop i=l[i]::l.drop (i+1):=List.drop_eq_getElem_cons hlt;have hwi:IntKind.i64.wrap ((i:Int)+1)=((i+1:Nat):Int):=zah (by omega)
  rw[hd,List.all_cons]at hr
  cases hp:zj1 l[i]with
  |false=>
   rw[hp]at hr;simp[zoc,hsz,h0,h3,hlt,hp,z38,<-hr]
  |true=>
   rw[hp,Bool.true_and]at hr;simp[zoc,hsz,h0,h3,hlt,hwi,hp];exact ih _ _ (by omega) ⟨i+1,rfl,by omega,by simp[hsz],by simp[h0],by simp,hr⟩
 ·obtain rfl:i=l.length:=by omega
  rw[List.drop_length,List.all_nil]at hr;have hin:=zj0 l.length 1 10;unfold z38;rw[<-hr]
  cases hq:inI l.length 1 10 with
  |false=>
   rw[hq]at hin;simp[hsz,h0,h3,hin]
  |true=>
   rw[hq]at hin;cases h1:l==[46]
   ·cases h2:l==[46,46]<;>simp[hsz,h0,h3,hin,h1,h2]
   ·simp[hsz,h0,h3,hin,h1]
theorem zt6(b:UInt8):∀(s pre:List UInt8) (k:Nat),s.length<=k->cutP b k pre s=(match za7 b s with|x::r=>(pre++x)::r| []=>[])
 | [],pre,k,_=>by simp[cutP,za7]
 |c::r,pre,0,h=>by simp at h
 |c::r,pre,k+1,h=>by
  have ih1:=zt6 b r [] k (by simpa using h)
  have ih2:=zt6 b r (pre++[c]) (k+1) (by simp at h;omega)
  have hne:=zhk b r;rw[cutP,za7,ih1,ih2]
  cases hq:za7 b r with
  |nil=>exact absurd hq hne
  |cons y t=>
   cases hc:c==b with
   |true=>have:c=b:=by simpa using hc
          simp[this]
   |false=>have:¬c=b:=by simpa using hc
           simp[this]
theorem z4a(b:UInt8)(s:List UInt8)(k:Nat)(h:s.length<=k):cutP b k [] s=za7 b s:=by
 rw[zt6 b s [] k h]
 cases hq:za7 b s with
 |nil=>exact absurd hq (zhk b s)
 |cons y t=>rfl
theorem zii(b:UInt8):∀s:List UInt8,(za7 b s).length<=s.length+1
 | []=>by simp[za7]
 |c::r=>by
  have ih:=zii b r;rw[za7];split
  ·simp;omega
  ·cases hq:za7 b r with
   |nil=>simp
   |cons y t=>rw[hq]at ih;simp at ih ⊢;omega
theorem zmr(s:List UInt8)(b:UInt8)(c:Int)(hc:c=b.toNat)(hs:s.length<=1048576):C Fn87 [.ro (T s),.ro (.int .u8 c),.ro (.int .i64 ((s.length:Int)+1))] []=some (.one (.own (SS (za7 b s))),[]):=by
 subst hc;rw[z32 s b (s.length+1) _ (by omega) hs (by omega),z4a b s _ (by omega)]
theorem zru(l:List UInt8)(hl:l.length<=1048576):C ybz [.ro (T l)] []=some (.one (.ro (.bool (zfm l))),[]):=by
 refine zad Tryz.func149 yb1 rfl ?_;have hcut:=zmr l 47 47 rfl hl;have hwl:IntKind.i64.wrap ((l.length:Int)+1)=((l.length+1:Nat):Int):=zah (by omega)
 have hcnt:=zii 47 l;have hmem:=zgz 47 l;unfold zfm;generalize za7 47 l=xs at *;simp[hwl,hcut]
 refine zam (λm e=> ∃i,m=xs.length-i/\i<=xs.length/\e.size=25/\e.get 3=.one (.own (SS xs))/\e.get 4=.one (.ro (N i))/\
  (xs.drop i).all zfl=xs.all zfl) ?_ xs.length _ ⟨0,rfl,Nat.zero_le _,by simp,by simp,by simp,rfl⟩
 rintro m e ⟨i,rfl,hi,hsz,h3,h4,hr⟩ ih;rcases Nat.lt_or_ge i xs.length with hlt|hge
 ·have hd:xs.drop i=xs[i]::xs.drop (i+1):=List.drop_eq_getElem_cons hlt;have hwi:IntKind.i64.wrap ((i:Int)+1)=((i+1:Nat):Int):=zah (by omega)
  have hn:=z1s xs[i] (by have:=hmem _ (List.getElem_mem hlt);omega)
  rw[hd,List.all_cons]at hr
  cases hp:zfl xs[i]with
  |false=>
   rw[hp]at hr hn;simp[hsz,h3,h4,hlt,hn,<-hr]
  |true=>
   rw[hp,Bool.true_and]at hr;rw[hp]at hn;simp[hsz,h3,h4,hlt,hwi,hn];exact ih _ _ (by omega) ⟨i+1,rfl,by omega,by simp[hsz],by simp[h3],by simp,hr⟩
 ·obtain rfl:i=xs.length:=by omega
  rw[List.drop_length,List.all_nil]at hr;simp[hsz,h3,h4,<-hr]
def upN(l:List UInt8):Nat->List UInt8
 |0=>[]
 |k+1=>if l[k]? =some 47 then l.take k else upN l k
def upL(l:List UInt8):List UInt8:=upN l l.length
theorem z6a(l:List UInt8)(hl:l.length<=140737488351232):C yaq [.ro (T l)] []=some (.one (.ro (T (upL l))),[]):=by
 refine zad Tryz.func113 yas rfl ?_;have hw:IntKind.i64.wrap ((l.length:Int)-1)=(l.length:Int)-1:=wrap64 (by omega) (by omega)
 simp[hw];refine zam (λm e=> ∃k,k=m/\k<=l.length/\e.size=18/\e.get 0=.one (.ro (T l))/\e.get 3=.one (.ro (I ((k:Int)-1)))/\upN l k=upL l) ?_ l.length _ ⟨l.length,rfl,Nat.le_refl _,by simp,by simp,by simp,rfl⟩
 rintro m e ⟨k,hmk,hk,hsz,h0,h3,hr⟩ ih;subst hmk
 cases k with
 |zero=>
  rw[upN]at hr;simp[hsz,h3,<-hr]
 |succ k=>
  have hkl:k<l.length:=by omega
  have hwk:IntKind.i64.wrap ((k:Int)-1)=(k:Int)-1:=wrap64 (by omega) (by omega)
  have h3':e.get 3=.one (.ro (N k)):=by rw[h3];simp
  rw[upN,List.getElem?_eq_getElem hkl]at hr;have hkl':k<=l.length:=by omega
  cases hc:l[k]==47 with
  |true=>
   have:l[k]=47:=by simpa using hc
   rw[this,if_pos rfl]at hr;simp[hsz,h0,h3',hkl,hkl',hc,<-hr]
  |false=>
   have:¬some l[k]=some 47:=by simpa using hc
   rw[if_neg this]at hr;simp[hsz,h0,h3',hkl,hc,hwk];exact ih k _ (by omega) ⟨k,rfl,by omega,by simp[hsz],by simp[h0],by simp,hr⟩
theorem zod(l:List UInt8):∀k,k<=l.length-> ∃j:Nat,j<=l.length/\((j:Int)=max (Lib.lastIdx ⟨l.toArray⟩ 47 k) 0)/\l.take j=upN l k
 |0,_=>⟨0,Nat.zero_le _,rfl,rfl⟩
 |k+1,h=>by
  rw[Lib.lastIdx,upN];have hk:k<l.length:=by omega
  have he:((⟨l.toArray⟩:ByteArray).data[k]!)=l[k]:=by simp[hk]
  rw[he,List.getElem?_eq_getElem hk];by_cases hc:l[k]=47
  ·rw[hc];refine⟨k,by omega,?_,?_⟩
   ·rw[if_pos (by decide)];omega
   ·rw[if_pos rfl]
  ·obtain⟨j,hj,he1,he2⟩:=zod l k (by omega)
   refine⟨j,hj,?_,?_⟩
   ·rw[if_neg]
    ·exact he1
    ·intro h;apply hc;rw[<-UInt8.toNat_inj];have:(47:UInt8).toNat=47:=rfl;omega
   ·rw[if_neg (by simpa using hc)];exact he2
theorem z1t(l:List UInt8)(hl:l.length<=1048576):C ybt [.ro (T l)] []=some (.one (.ro (T (if zfm l then upL l else []))),[]):=by
 refine zad Tryz.func147 ybv rfl ?_;have hp:=zmq l (by omega)
 have hlast:=z3x ⟨l.toArray⟩ 47 (by simp;omega)
 obtain⟨j,hj,he,ht⟩:=zod l l.length (Nat.le_refl _);have hlast':Lib.lastIndexByte ⟨l.toArray⟩ 47=Lib.lastIdx ⟨l.toArray⟩ 47 l.length:=by rw[Lib.lastIndexByte];simp
 rw[hlast']at hlast;generalize Lib.lastIdx ⟨l.toArray⟩ 47 l.length=q at *
 cases h:zfm l with
 |false=>
  rw[h]at hp;simp[hp]
 |true=>
  rw[h]at hp;have hq:(if q<=0 then 0 else q)=(j:Int):=by split<;>omega
  simp[hp,hlast,hq,hj,ht,upL]
end Go.Qz
namespace Go.Qz
open Go.Proofs
theorem zco(n:Nat)(h:n<10):Lib.decDigits n=[UInt8.ofNat (48+n)]:=by rw[Lib.decDigits,dif_pos h]
theorem zdl(n:Nat)(h:10<=n):Lib.decDigits n=Lib.decDigits (n/10)++[UInt8.ofNat (48+n % 10)]:=by rw[Lib.decDigits,dif_neg (by omega)]
theorem z6b:∀n:Nat,(Lib.decDigits n).length<=n+1:=by
 intro n
 induction n using Nat.strongRecOn with
 |_ n ih=>
  rcases Nat.lt_or_ge n 10 with h|h
  ·rw[zco n h];simp
  ·rw[zdl n h,List.length_append];have:=ih (n/10) (by omega)
   simp only[List.length_singleton];omega
theorem zms:∀(k n:Nat),n<10^(k+1)->(Lib.decDigits n).length<=k+1
 |0,n,h=>by rw[zco n (by simpa using h)];simp
 |k+1,n,h=>by
  rcases Nat.lt_or_ge n 10 with h1|h1
  ·rw[zco n h1];simp
  ·rw[zdl n h1,List.length_append];have:=zms k (n/10) (by rw[Nat.pow_succ]at h;omega)
   simp only[List.length_singleton];omega
theorem zvn:∀n:Nat,n<=1099511627776->C z77 [.ro (N n)] []=some (.one (.ro (T (Lib.decDigits n))),[]):=by
 intro n
 induction n using Nat.strongRecOn with
 |_ n ih=>
  intro hn;refine zad Tryz.func156 yb9 rfl ?_;have n1:¬((n:Int)< -9223372036854775807):=by omega
  have n2:¬((n:Int)<0):=by omega
  rcases Nat.lt_or_ge n 10 with h|h
  ·have hw1:IntKind.i64.wrap (48+(n:Int))=((48+n:Nat):Int):=by rw[wrap64 (by omega) (by omega)];omega
   have hw3:IntKind.u8.wrap ((48+n:Nat):Int)=((48+n:Nat):Int):=by
    show ((48+n:Nat):Int) % 256=_;omega
   rw[zco n h];generalize hz:48+n=z at *;simp[n1,n2,h,hw1,hw3]
  ·have h3:¬n<10:=by omega
   have hr1:((n:Int)).tmod 10=((n % 10:Nat):Int):=by rw[Int.ofNat_tmod];rfl
   have hq1:((n:Int)).tdiv 10=((n/10:Nat):Int):=by rw[Int.ofNat_tdiv];rfl
   have hi:=ih (n/10) (by omega) (by omega)
   have hl:=z6b (n/10);rw[zdl n h];have hrl:n % 10<10:=Nat.mod_lt _ (by omega)
   have hql:n/10<n:=by omega
   generalize n % 10=r at *;generalize n/10=q at *;have hw1:IntKind.i64.wrap (48+(r:Int))=((48+r:Nat):Int):=by rw[wrap64 (by omega) (by omega)];omega
   have hw2:IntKind.i64.wrap (q:Int)=(q:Int):=wrap64 (by omega) (by omega)
   have hw3:IntKind.u8.wrap ((48+r:Nat):Int)=((48+r:Nat):Int):=by
    show ((48+r:Nat):Int) % 256=_;omega
   have hms:(Lib.decDigits q).length+1<=zag:=by simp[zag];omega
   generalize 48+r=z at *;simp[n1,n2,h3,hr1,hq1,hw1,hw2,hw3,hi,hms]
end Go.Qz
namespace Go.Qz
open Go.Proofs
theorem zt7(c:UInt8):∀(l:List UInt8) (a:Nat),goN a (l++[c])=(goN a l).bind λm=>if figB c then some (m*10+(c.toNat-48))else none
 | [],a=>by simp only[List.nil_append,goN,Option.bind_some]
 |b::l,a=>by
  rw[List.cons_append,goN,goN];split
  ·exact zt7 c l _
  ·rfl
theorem z43:∀(l:List UInt8) (a m:Nat),goN a l=some m->a<=m
 | [],a,m,h=>by cases h;exact Nat.le_refl _
 |b::l,a,m,h=>by
  unfold goN at h;split at h
  ·have:=z43 l _ m h;omega
  ·cases h
theorem zrv(d:Nat)(h:d<10):figB (UInt8.ofNat (48+d))=true/\(UInt8.ofNat (48+d)).toNat=48+d:=by
 have h1:(UInt8.ofNat (48+d)).toNat=48+d:=by
  rw[UInt8.toNat_ofNat'];omega
 refine⟨?_,h1⟩;unfold figB;rw[h1];simp;omega
theorem z6c(n:Nat):goN 0 (Lib.decDigits n)=some n:=by
 induction n using Nat.strongRecOn with
 |_ n ih=>
  rcases Nat.lt_or_ge n 10 with h|h
  ·rw[zco n h,goN];obtain⟨h1,h2⟩:=zrv n h;rw[if_pos h1,h2];simp[goN]
  ·rw[zdl n h,zt7,ih (n/10) (by omega)]
   obtain⟨h1,h2⟩:=zrv (n % 10) (Nat.mod_lt _ (by omega))
   simp only[Option.bind_some];rw[if_pos h1,h2];congr 1;omega
theorem z4b(n:Nat)(hn:0<n):∃c r,Lib.decDigits n=c::r/\(c==48)=false:=by
 induction n using Nat.strongRecOn with
 |_ n ih=>
  rcases Nat.lt_or_ge n 10 with h|h
  ·refine⟨_,[],zco n h,?_⟩;obtain⟨h1,h2⟩:=zrv n h;rw[beq_eq_false_iff_ne];intro e;rw[e]at h2;simp at h2;omega
  ·obtain⟨c,r,h1,h2⟩:=ih (n/10) (by omega) (by omega)
   rw[zdl n h,h1];exact⟨c,r++[UInt8.ofNat (48+n % 10)],rfl,h2⟩
theorem z4c(n:Nat):zks (Lib.decDigits n)=false:=by
 rcases Nat.lt_or_ge n 10 with h|h
 ·rw[zco n h];rfl
 ·obtain⟨c,r,h1,h2⟩:=z4b n (by omega)
  rw[h1]
  cases r with
  |nil=>rfl
  |cons b r=>exact h2
theorem z8d(n:Nat):Lib.decDigits n≠[]:=by
 rcases Nat.lt_or_ge n 10 with h|h
 ·rw[zco n h];simp
 ·rw[zdl n h];simp
theorem z6d(n:Nat):∀b∈Lib.decDigits n,figB b=true:=by
 induction n using Nat.strongRecOn with
 |_ n ih=>
  rcases Nat.lt_or_ge n 10 with h|h
  ·rw[zco n h];intro b hb;rw[List.mem_singleton]at hb;subst hb;exact(zrv n h).1
  ·rw[zdl n h];intro b hb;rcases List.mem_append.1 hb with h1|h1
   ·exact ih (n/10) (by omega) b h1
   ·rw[List.mem_singleton]at h1;subst h1;exact(zrv (n % 10) (Nat.mod_lt _ (by omega))).1
theorem zrw(n:Nat)(h:n<=999):(Lib.decDigits n).length<=3:=zms 2 n (by omega)
theorem z4d{c:UInt8}(h:figB c=true):UInt8.ofNat (48+(c.toNat-48))=c/\c.toNat-48<10:=by
 unfold figB at h;simp only[Bool.and_eq_true,decide_eq_true_eq]at h;refine⟨?_,by omega⟩
 rw[show 48+(c.toNat-48)=c.toNat by omega]
 exact UInt8.ofNat_toNat
theorem zt8:∀(l:List UInt8) (a m:Nat),goN a l=some m-> ∀b∈l,figB b=true
 | [],_,_,_=> λb hb=>by simp at hb
 |c::l,a,m,h=>by
  unfold goN at h;split at h
  ·rename_i hc;intro b hb;rcases List.mem_cons.1 hb with rfl|hb
   ·exact hc
   ·exact zt8 l _ m h b hb
  ·cases h
theorem z8e:∀(k:Nat) (l:List UInt8) (n:Nat),l.length<=k->l≠[]->zks l=false->goN 0 l=some n->Lib.decDigits n=l:=by
 intro k
 induction k with
 |zero=>
  intro l n hk hne;exact absurd (List.length_eq_zero_iff.1 (by omega)) hne
 |succ k ih=>
  intro l n hk hne hld hg;rcases List.eq_nil_or_concat l with rfl|⟨l',c,rfl⟩
  ·exact absurd rfl hne
  ·have hc:figB c=true:=zt8 _ 0 n hg c (by simp)
   obtain⟨e1,e2⟩:=z4d hc;rw[List.concat_eq_append]at hg hld ⊢;rw[zt7]at hg
   cases l' with
   |nil=>
    simp only[goN,Option.bind_some,if_pos hc,Option.some.injEq]at hg;simp only[List.nil_append];rw[<-hg,zco _ (by omega)]
    rw[show 48+(0*10+(c.toNat-48))=48+(c.toNat-48) by omega,e1]
   |cons x r=>
    cases hm:goN 0 (x::r)with
    |none=>rw[hm]at hg;cases hg
    |some m=>
     rw[hm]at hg;simp only[Option.bind_some,if_pos hc,Option.some.injEq]at hg
     have hx:(x==48)=false:=by
      cases r with
      |nil=>exact hld
      |cons y r=>exact hld
     have hl2:zks (x::r)=false:=by
      cases r with
      |nil=>rfl
      |cons y r=>exact hx
     have hih:=ih (x::r) m (by simp at hk ⊢;omega) (by simp) hl2 hm
     have hpos:1<=m:=by
      have hxf:figB x=true:=zt8 _ 0 m hm x (by simp)
      unfold goN at hm;rw[if_pos hxf]at hm;have:=z43 r _ m hm
      have hne48:x.toNat≠48:=by
       intro e;have:x=48:=UInt8.toNat_inj.1 e;rw[this]at hx;simp at hx
      unfold figB at hxf;simp only[Bool.and_eq_true,decide_eq_true_eq]at hxf;omega
     rw[zdl n (by omega),<-hg,show (m*10+(c.toNat-48))/10=m by omega,show (m*10+(c.toNat-48)) % 10=c.toNat-48 by omega,hih,e1]
theorem z4e(n:Nat)(h2:n<=999):numS (Lib.decDigits n)=n:=by
 have h3:=zrw n h2
 have h4:(Lib.decDigits n).isEmpty=false:=by
  cases h:Lib.decDigits n with
  |nil=>exact absurd h (z8d n)
  |cons c r=>rfl
 unfold numS;rw[z6c,z4c,h4];simp only;rw[if_pos (by simp;omega)]
theorem z1u{l:List UInt8}{m x:Nat}(h:numI l m=(x,true)):Lib.decDigits x=l:=by
 unfold numI at h;split at h
 ·cases h
 ·rename_i hc;simp only[Bool.or_eq_true,not_or,Bool.not_eq_true,List.isEmpty_eq_false_iff,decide_eq_false_iff_not]at hc;split at h
  ·rename_i n hn;split at h
   ·cases h
   ·cases h;exact z8e l.length l _ (Nat.le_refl _) hc.1.1 hc.2 hn
  ·cases h
theorem zt9{l:List UInt8}{m:Nat}(_:(numI l m).2=true):(numI l m).1<=m:=by
 unfold numI;split
 ·simp
 ·split
  ·split
   ·simp
   ·simp only;omega
  ·simp
theorem z8f{l:List UInt8}{m x:Nat}(h:numI l m=(x,true))(hm:m<=999):numS l=x:=by
 have h1:=z1u h;have h2:x<=m:=by have:=zt9 (l:=l) (m:=m) (by rw[h]);rw[h]at this;exact this
 rw[<-h1];exact z4e x (by omega)
theorem z8g{l:List UInt8}{m x:Nat}(h:numS l=x)(hm:x<=m)(_:m<=999):numI l m=(x,true):=by
 unfold numS at h;split at h
 ·rename_i n hn;split at h
  ·rename_i hc;have hnx:n=x:=by omega
   subst hnx;simp only[Bool.and_eq_true,decide_eq_true_eq,Bool.not_eq_true']at hc;unfold numI;rw[hn];have h9:¬9<l.length:=by omega
   rw[if_neg (by simp[hc.1.2,hc.2,h9])]
   simp only;rw[if_neg (by omega)]
  ·omega
 ·omega
end Go.Qz
namespace Go.Qz
open Go.Proofs
def lowB(b:UInt8):Bool:=decide (97<=b.toNat)&&decide (b.toNat<=122)
def zf9(b:UInt8):Bool:=lowB b||(decide (48<=b.toNat)&&decide (b.toNat<=57))
def zcv:List UInt8->Bool
 | []=>false
 |c::r=>decide (r.length+1<=10)&&(lowB c&&(c::r).all zf9)
theorem zjb(l:List UInt8)(hn:l.length<=140737488351232):C Fn53 [.ro (T l)] []=some (.one (.ro (.bool (zcv l))),[]):=by
 refine zad Tryz.func53 Cv53 rfl ?_
 cases l with
 |nil=>simp[zcv]
 |cons c r=>
  by_cases h1:10<r.length+1
  ·have:¬r.length+1<=10:=by omega
   have h1i:(10:Int)<(r.length:Int)+1:=by omega
   simp[zcv,h1i,this]
  ·have h1':r.length+1<=10:=by omega
   have h1i:¬(10:Int)<(r.length:Int)+1:=by omega
   by_cases h2:c.toNat<97
   ·have:¬97<=c.toNat:=by omega
    simp[zcv,lowB,h1i,h1',h2,this]
   ·have h2':97<=c.toNat:=by omega
    by_cases h3:122<c.toNat
    ·have:¬c.toNat<=122:=by omega
     simp[zcv,lowB,h1i,h1',h2,h2',h3,this]
    ·have h3':c.toNat<=122:=by omega
     have hp:zcv (c::r)=(c::r).all zf9:=by simp[zcv,lowB,h1',h2',h3']
     rw[hp];simp[h1i,h2,h3];generalize hl:c::r=l at *;have hlen:l.length=r.length+1:=by rw[<-hl];rfl
     have hc:(r.length:Int)+1=(l.length:Int):=by rw[hlen];rfl
     have hr0:(zf9 c&&r.all zf9)=l.all zf9:=by rw[<-hl];rfl
     rw[hr0]
     refine zam (λm e=> ∃i,m=l.length-i/\i<=l.length/\e.size=49/\e.get 0=.one (.ro (T l))/\e.get 22=.one (.ro (N l.length))/\e.get 23=.one (.ro (N i))/\(l.drop i).all zf9=l.all zf9)
      ?_ l.length _ ⟨0,rfl,Nat.zero_le _,by simp,by simp,by simp[hc],by simp,rfl⟩
     clear hl hp hr0 hc hlen;rintro m e ⟨i,rfl,hi,hsz,h0,h22,h23,hr⟩ ih;rcases Nat.lt_or_ge i l.length with hlt|hge
     ·have hwi:IntKind.i64.wrap ((i:Int)+1)=((i+1:Nat):Int):=zah (by omega)
      have hd:l.drop i=l[i]::l.drop (i+1):=List.drop_eq_getElem_cons hlt;rw[hd,List.all_cons]at hr;have hb:zf9 l[i]=(decide (97<=l[i].toNat)&&decide (l[i].toNat<=122)||(decide (48<=l[i].toNat)&&decide (l[i].toNat<=57))):=rfl
      rw[hb]at hr;by_cases hA:l[i].toNat<97
      ·have a1:¬97<=l[i].toNat:=by omega
       by_cases hC:l[i].toNat<48
       ·have c1:¬48<=l[i].toNat:=by omega
        simp[a1,c1]at hr;simp[hsz,h0,h22,h23,hlt,hA,hC,hr]
       ·have c1:48<=l[i].toNat:=by omega
        by_cases hD:57<l[i].toNat
        ·have d1:¬l[i].toNat<=57:=by omega
         simp[a1,c1,d1]at hr;simp[hsz,h0,h22,h23,hlt,hA,hC,hD,hr]
        ·have d1:l[i].toNat<=57:=by omega
         simp[a1,c1,d1]at hr;simp[hsz,h0,h22,h23,hlt,hA,hC,hD,hwi];exact ih _ _ (by omega) ⟨i+1,rfl,by omega,by simp[hsz],by simp[h0],by simp[h22],by simp,by simpa using hr⟩
      ·have a1:97<=l[i].toNat:=by omega
       by_cases hB:122<l[i].toNat
       ·have b1:¬l[i].toNat<=122:=by omega
        have c1:¬l[i].toNat<48:=by omega
        have d1:57<l[i].toNat:=by omega
        have d2:¬l[i].toNat<=57:=by omega
        simp[b1,d2]at hr;simp[hsz,h0,h22,h23,hlt,hA,hB,c1,d1,hr]
       ·have b1:l[i].toNat<=122:=by omega
        simp[a1,b1]at hr;simp[hsz,h0,h22,h23,hlt,hA,hB,hwi];exact ih _ _ (by omega) ⟨i+1,rfl,by omega,by simp[hsz],by simp[h0],by simp[h22],by simp,by simpa using hr⟩
     ·obtain rfl:i=l.length:=by omega
      rw[List.drop_length]at hr;simp at hr;simp[hsz,h22,h23];exact hr
def digB(b:UInt8):Bool:=decide (48<=b.toNat)&&decide (b.toNat<=57)
def sufS(i:Nat):List UInt8->Bool
 | []=>true
 |c::r=>(lowB c||(decide (i≠0)&&digB c))&&r.all zf9
def z1v(l:List UInt8):Bool:=sufS 0 l&&inI l.length 1 10
theorem z4f(i:Nat)(hi:i≠0)(l:List UInt8):sufS i l=l.all zf9:=by
 cases l with
 |nil=>rfl
 |cons c r=>simp[sufS,hi,zf9,digB]
theorem zvo(l:List UInt8):z1v l=zcv l:=by
 cases l with
 |nil=>rfl
 |cons c r=>
  have hp:(lowB c&&(c::r).all zf9)=(lowB c&&r.all zf9):=by
   cases h:lowB c<;>simp[zf9,h]
  show z1v (c::r)=(decide (r.length+1<=10)&&(lowB c&&(c::r).all zf9));rw[hp]
  have hin:inI ((c::r).length) 1 10=decide (r.length+1<=10):=by
   unfold inI;have:((1:Int)<=((c::r).length:Nat))=True:=by simp
   simp;exact⟨λh=>by omega,λh=>by omega⟩
  unfold z1v sufS;rw[hin,Bool.and_comm];simp
theorem zrx(l:List UInt8)(hn:l.length<=140737488351232):C Fn60 [.ro (T l)] []=some (.one (.ro (.bool (z1v l))),[]):=by
 refine zad Tryz.func60 Cv60 rfl ?_;simp;unfold z1v
 refine zam (λm e=> ∃i,m=l.length-i/\i<=l.length/\e.size=42/\e.get 0=.one (.ro (T l))/\e.get 3=.one (.ro (N i))/\(sufS i (l.drop i)&&inI l.length 1 10)=(sufS 0 l&&inI l.length 1 10))
  ?_ l.length _ ⟨0,rfl,Nat.zero_le _,by simp,by simp,by simp,rfl⟩
 rintro m e ⟨i,rfl,hi,hsz,h0,h3,hr⟩ ih;rcases Nat.lt_or_ge i l.length with hlt|hge
 ·have hwi:IntKind.i64.wrap ((i:Int)+1)=((i+1:Nat):Int):=zah (by omega)
  have hd:l.drop i=l[i]::l.drop (i+1):=List.drop_eq_getElem_cons hlt;rw[hd,sufS]at hr;have hnx:sufS (i+1) (l.drop (i+1))=(l.drop (i+1)).all zf9:=z4f _ (by omega) _
  by_cases hA:97<=l[i].toNat
  ·by_cases hB:l[i].toNat<=122
   ·have hs:lowB l[i]=true:=by simp[lowB,hA,hB]
    rw[hs]at hr;simp only[Bool.true_or,Bool.true_and]at hr;simp[hsz,h0,h3,hlt,hA,hB,hwi];exact ih _ _ (by omega) ⟨i+1,rfl,by omega,by simp[hsz],by simp[h0],by simp,by rw[hnx];exact hr⟩
   ·have hs:lowB l[i]=false:=by simp[lowB,hB]
    have c1:¬l[i].toNat<48:=by omega
    have d1:57<l[i].toNat:=by omega
    have hg:digB l[i]=false:=by have:¬l[i].toNat<=57:=by omega
                                simp[digB,this]
    rw[hs,hg]at hr;simp only[Bool.false_or,Bool.and_false,Bool.false_and]at hr;by_cases hi0:i=0
    ·subst hi0;simp[hsz,h0,h3,hlt,hA,hB,<-hr]
    ·have hb0:(i==0)=false:=by simpa using hi0
     simp[hsz,h0,h3,hlt,hA,hB,hb0,c1,d1,<-hr]
  ·have hs:lowB l[i]=false:=by simp[lowB,hA]
   rw[hs]at hr;simp only[Bool.false_or]at hr;by_cases hi0:i=0
   ·subst hi0;simp at hr;simp[hsz,h0,h3,hlt,hA];exact hr
   ·have hb0:(i==0)=false:=by simpa using hi0
    simp only[ne_eq,hi0,not_false_eq_true,decide_true,Bool.true_and]at hr;by_cases hC:l[i].toNat<48
    ·have hg:digB l[i]=false:=by have:¬48<=l[i].toNat:=by omega
                                 simp[digB,this]
     rw[hg]at hr;simp only[Bool.false_and]at hr;simp[hsz,h0,h3,hlt,hA,hb0,hC,<-hr]
    ·by_cases hD:57<l[i].toNat
     ·have hg:digB l[i]=false:=by have:¬l[i].toNat<=57:=by omega
                                  simp[digB,this]
      rw[hg]at hr;simp only[Bool.false_and]at hr;simp[hsz,h0,h3,hlt,hA,hb0,hC,hD,<-hr]
     ·have hg:digB l[i]=true:=by
       have a1:48<=l[i].toNat:=by omega
       have a2:l[i].toNat<=57:=by omega
       simp[digB,a1,a2]
      rw[hg]at hr;simp only[Bool.true_and]at hr;simp[hsz,h0,h3,hlt,hA,hb0,hC,hD,hwi];exact ih _ _ (by omega) ⟨i+1,rfl,by omega,by simp[hsz],by simp[h0],by simp,by rw[hnx];exact hr⟩
 ·obtain rfl:i=l.length:=by omega
  rw[List.drop_length]at hr;have e0:sufS l.length ([]:List UInt8)=true:=rfl;rw[e0,Bool.true_and]at hr;have hin:=zj0 l.length 1 10;simp[hsz,h0,h3,hin,<-hr]
end Go.Qz
namespace Go.Qz
open Go.Proofs
def zev(l:List UInt8):Bool:=(numI l 999).2
def zf2(l:List UInt8):Bool:=decide ((za7 46 l).length<=4)&&(za7 46 l).all zev
theorem z4g(l:List UInt8):zev l=inI (numS l) 0 999:=by
 unfold zev
 cases h:(numI l 999).2 with
 |true=>
  have h1:=z8f (l:=l) (m:=999) (x:=(numI l 999).1) (by rw[<-h]) (by omega)
  have h2:=zt9 h;rw[h1];unfold inI;rw[decide_eq_true (by omega),decide_eq_true (by omega)]
  rfl
 |false=>
  cases h2:inI (numS l) 0 999 with
  |false=>rfl
  |true=>
   unfold inI at h2;simp only[Bool.and_eq_true,decide_eq_true_eq]at h2;obtain⟨x,hx⟩:=Int.eq_ofNat_of_zero_le h2.1;rw[z8g (m:=999) hx (by omega) (by omega)]at h
   cases h
def goV:Nat->zgy->Bool
 |_,[]=>true
 |k,x::r=>if zev x then(if k=4 then false else goV (k+1) r)else false
theorem z44:∀(xs:zgy) (k:Nat),k<=4->goV k xs=(decide (k+xs.length<=4)&&xs.all zev)
 | [],k,h=>by simp[goV,h]
 |x::r,k,h=>by
  rw[goV]
  cases hx:zev x with
  |false=>simp[hx]
  |true=>
   by_cases h4:k=4
   ·have:¬k+(r.length+1)<=4:=by omega
    subst h4;rw[if_pos rfl,if_pos rfl,decide_eq_false (by simp)]
    rfl
   ·rw[if_pos rfl,if_neg h4,z44 r (k+1) (by omega)]
    simp[hx,Nat.add_assoc,Nat.add_comm 1]
theorem z6e(l:List UInt8):goV 0 (za7 46 l)=zf2 l:=by
 rw[z44 _ _ (by omega)]
 simp[zf2]
abbrev IS(ns:List Nat):D:=.sl 1 (ns.map N)
def verN:List Nat->zgy->List Nat×Bool
 |acc,[]=>(acc,true)
 |acc,x::r=>if (numI x 999).2=false then([],false)else if acc.length=4 then([],false)else verN (acc++[(numI x 999).1]) r
theorem z1w:∀(xs:zgy) (acc:List Nat),(verN acc xs).2=goV acc.length xs
 | [],acc=>rfl
 |x::r,acc=>by
  rw[verN,goV];unfold zev
  cases hx:(numI x 999).2 with
  |false=>simp
  |true=>
   by_cases h4:acc.length=4
   ·simp[h4]
   ·have:=z1w r (acc++[(numI x 999).1]);simp[h4,this]
def verL(l:List UInt8):List Nat:=(verN [] (za7 46 l)).1
theorem z6f(l:List UInt8):verN [] (za7 46 l)=(verL l,zf2 l):=by
 unfold verL;have h:=z1w (za7 46 l) [];rw[List.length_nil]at h;rw[<-z6e,<-h]
theorem zm8(l:List UInt8)(hl:l.length<=1048576):C z9t [.ro (T l)] []=some (.tup [.own (IS (verL l)),.ro (.bool (zf2 l))],[]):=by
 refine zad Tryz.func102 z9v rfl ?_;have hs:=z1k ⟨l.toArray⟩ ⟨#[46]⟩;have h46:(⟨#[46]⟩:ByteArray).size=1:=rfl;have hl2:l.length<=9223372036854775807:=by omega
 have hmem:=zgz 46 l;have hok:=z6f l;generalize verL l=ns at *;generalize zf2 l=ok at *;simp[hs,h46,hl2];refine zrl (λo ho=>?_)
 have o2:o.get 2=.one (.ptr 2 0):=by rw[ho];simp
 have o3:o.get 3=.one (.ptr 3 0):=by rw[ho];simp
 have o4:o.get 4=.one (.ptr 4 0):=by rw[ho];simp
 have os:o.size=28:=by rw[ho];simp
 have b2:o.box 2=some [.own (.sl 1 [])]:=by rw[ho];simp
 have b3:o.box 3=some [.ro (.bool false)]:=by rw[ho];simp
 have b4:o.box 4=some [.own (.sl 1 [])]:=by rw[ho];simp
 clear ho
 refine zrk (λxs e=> ∃acc:List Nat,(∀x∈xs,x.length<=l.length)/\e.size=28/\e.get 2=.one (.ptr 9002 0)/\e.get 3=.one (.ptr 9003 0)/\e.get 4=.one (.ptr 9004 0)/\e.box 9002=some [.own (.sl 1 [])]/\e.box 9003=some [.ro (.bool false)]/\
  e.box 9004=some [.own (IS acc)]/\acc.length<=4/\verN acc xs=(ns,ok))
  ?_ _ _ ⟨[],hmem,by simp[os],by simp[o2],by simp[o3],by simp[o4],by simp[zbn,b2],by simp[zbn,b3],by simp[zbn,b4],by simp,hok⟩
 rintro xs e ⟨acc,hx,es,e2,e3,e4,c2,c3,c4,hacc,hr⟩ ih
 cases xs with
 |nil=>
  rw[verN]at hr;cases hr;simp[o2,o3,o4,os,b2,b3,b4,c2,c3,c4,zfj]
 |cons x xs=>
  have hn:=z1p x 999 999 rfl (by have:=hx x (by simp);omega) (by omega)
  rw[verN]at hr;generalize numI x 999=v at *;obtain⟨n,b⟩:=v;simp only at hn hr
  cases b with
  |false=>
   simp only[if_true]at hr;cases hr;simp[o2,o3,b2,b3,es,e2,e3,e4,c2,c3,c4,hn,zfj,zc1,zbn]
  |true=>
   simp only[Bool.true_eq_false,if_false]at hr;by_cases h4:acc.length=4
   ·rw[if_pos h4]at hr;cases hr;simp[o2,o3,b2,b3,es,e2,e3,e4,c2,c3,c4,hn,h4,zfj,zc1,zbn]
   ·rw[if_neg h4]at hr;have hne:(acc.length==4)=false:=by rw[beq_eq_false_iff_ne];omega
    have ha:acc.length+1<=zaf:=by simp[zaf];omega
    simp[es,e4,c4,hn,hne,ha];refine ih _ _ (by simp) ⟨acc++[n],λy hy=>hx y (by simp[hy]),by simp[os],by simp[o2],by simp[o3],by simp[o4],by simp[zc1,zbn,b2,c2],by simp[zc1,zbn,b3,c3],by simp[zc1,zbn,b4],by simp;omega,hr⟩
theorem zjc(l:List UInt8)(hl:l.length<=1048576):C Fn54 [.ro (T l)] []=some (.one (.ro (.bool (zf2 l))),[]):=by
 refine zad Tryz.func54 Cv54 rfl ?_;simp[zm8 l hl]
end Go.Qz
namespace Go.Qz
open Go.Proofs
theorem zxl(l:List UInt8)(hl:l.length<=1048576):∃is:List Int,C yab [.ro (T l)] []=some (.tup [.own (.sl 1 (is.map I)),.ro (.bool (zf2 l))],[]):=by
 have hcut:=zmr l 46 46 rfl hl;have hwl:IntKind.i64.wrap ((l.length:Int)+1)=((l.length+1:Nat):Int):=zah (by omega)
 have hcnt:=zii 46 l;have hmem:=zgz 46 l;have hv:zf2 l=(decide ((za7 46 l).length<=4)&&(za7 46 l).all zev):=rfl;generalize za7 46 l=xs at *
 have hfar:∃n,n<=xs.length/\(∀k (h:k<xs.length),k<n->zev xs[k]=true)/\(∀h:n<xs.length,zev xs[n]=false):=by
  clear hv hmem hcnt hcut
  induction xs with
  |nil=>exact⟨0,Nat.le_refl _,λk h=>by simp at h,λh=>by simp at h⟩
  |cons x r ih=>
   cases hx:zev x with
   |false=>exact⟨0,Nat.zero_le _,λk h h2=>by omega,λh=>hx⟩
   |true=>
    obtain⟨n,h1,h2,h3⟩:=ih;refine⟨n+1,by simpa using h1,λk h hk=>?_,λh=>?_⟩
    ·cases k with
     |zero=>exact hx
     |succ k=>exact h2 k (by simpa using h) (by omega)
    ·exact h3 (by simpa using h)
 obtain⟨n,hn1,hn2,hn3⟩:=hfar
 obtain⟨pre,q0,q1,q2⟩:∃pre:Nat->List Int,pre 0=[]/\(∀i (h:i<xs.length),pre (i+1)=pre i++[numS xs[i]])/\ ∀i,i<=xs.length->(pre i).length=i:=
  ⟨λi=>(xs.take i).map numS,rfl,λi h=>by simp only[List.take_succ_eq_append_getElem h,List.map_append,List.map_cons,List.map_nil],λi h=>by simp only[List.length_map,List.length_take];omega⟩
 refine⟨pre n,?_⟩;refine zad Tryz.func108 yad rfl ?_;simp[hwl,hcut]
 refine zam (λm e=> ∃i,m=xs.length-i/\i<=n/\e.size=37/\e.get 4=.one (.own (SS xs))/\e.get 5=.one (.own (.sl 1 ((pre i).map I)))/\e.get 6=.one (.ro (N i)))
  ?_ xs.length _ ⟨0,rfl,Nat.zero_le _,by simp,by simp,by simp[q0],by simp⟩
 rintro m e ⟨i,rfl,hi,hsz,h4,h5,h6⟩ ih;rcases Nat.lt_or_ge i xs.length with hlt|hge
 ·have hwi:IntKind.i64.wrap ((i:Int)+1)=((i+1:Nat):Int):=zah (by omega)
  have hnum:=z33 xs[i] (by have:=hmem _ (List.getElem_mem hlt);omega)
  have hin:=zj0 (numS xs[i]) 0 999;rw[<-z4g]at hin;rcases Nat.lt_or_ge i n with hin2|hin2
  ·have ht:=q1 i hlt;rw[hn2 i hlt hin2]at hin;generalize numS xs[i]=q at *;have hlen:=q2 i (by omega)
   have ha:(pre i).length+1<=zaf:=by rw[hlen];simp[zaf];omega
   simp[hsz,h4,h5,h6,hlt,hwi,hnum,hin,ha];exact ih _ _ (by omega) ⟨i+1,rfl,by omega,by simp[hsz],by simp[h4],by simp[ht],by simp⟩
  ·obtain rfl:i=n:=by omega
   have hbad:=hn3 hlt;rw[hbad]at hin
   have hvf:zf2 l=false:=by
    rw[hv]
    have:xs.all zev=false:=by
     rw[List.all_eq_false];exact⟨xs[i],List.getElem_mem hlt,by rw[hbad];simp⟩
    rw[this];simp
   simp[hsz,h4,h5,h6,hlt,hnum,hin,hvf]
 ·have hil:i=xs.length:=by omega
  subst hil;have hnx:n=xs.length:=by omega
  have hall:xs.all zev=true:=by
   rw[List.all_eq_true];intro x hx;obtain⟨k,hk,rfl⟩:=List.mem_iff_getElem.1 hx;exact hn2 k hk (by omega)
  rw[hall,Bool.and_true]at hv;rw[hnx];simp[hsz,h4,h5,h6,hv]
theorem zjd(l:List UInt8)(hl:l.length<=1048576):C Fn61 [.ro (T l)] []=some (.one (.ro (.bool (zf2 l))),[]):=by
 refine zad Tryz.func61 Cv61 rfl ?_;obtain⟨is,h⟩:=zxl l hl;simp[h]
structure Ne where
 name:List UInt8
 kind:Int
 ver:List UInt8
abbrev NeD(e:Ne):D:=.agg [T e.name,I e.kind,T e.ver]
abbrev NeS(es:List Ne):D:=.sl 3 (es.map NeD)
def neSz(e:Ne):Prop:=e.name.length<=1048576/\e.ver.length<=1048576
def zb5(e:Ne):Bool:=zcv e.name&&(if e.kind==0 then e.ver==[]else inI e.kind 1 3&&zf2 e.ver)
theorem zoe(e:Ne)(h:neSz e):C Fn56 [.ro (NeD e)] []=some (.one (.ro (.bool (zb5 e))),[]):=by
 refine zad Tryz.func56 Cv56 rfl ?_;have h1:=zjb e.name (by have:=h.1;omega)
 have h2:=zjc e.ver h.2;unfold zb5
 cases hp:zcv e.name with
 |false=>rw[hp]at h1;simp[h1]
 |true=>
  rw[hp]at h1
  cases k0:e.kind==0 with
  |true=>simp[h1,k0]
  |false=>
   have k0':¬e.kind=0:=by simpa using k0
   cases k1:e.kind==1 with
   |true=>have:e.kind=1:=by simpa using k1
          simp[h1,h2,this,inI]
   |false=>
    have k1':¬e.kind=1:=by simpa using k1
    cases k2:e.kind==2 with
    |true=>have:e.kind=2:=by simpa using k2
           simp[h1,h2,this,inI]
    |false=>
     have k2':¬e.kind=2:=by simpa using k2
     cases k3:e.kind==3 with
     |true=>have:e.kind=3:=by simpa using k3
            simp[h1,h2,this,inI]
     |false=>
      have k3':¬e.kind=3:=by simpa using k3
      have hi:inI e.kind 1 3=false:=by
       unfold inI;simp only[Bool.and_eq_false_iff,decide_eq_false_iff_not];omega
      simp[h1,k0,k1,k2,k3,hi]
theorem zxm(e:Ne)(h:neSz e):C ya8 [.ro (NeD e)] []=some (.one (.ro (.bool (zb5 e))),[]):=by
 refine zad Tryz.func129 yba rfl ?_;have h1:=zrx e.name (by have:=h.1;omega)
 rw[zvo]at h1;have h2:=zjd e.ver h.2;have h3:=zj0 e.kind 1 3;unfold zb5
 cases hp:zcv e.name with
 |false=>rw[hp]at h1;simp[h1]
 |true=>
  rw[hp]at h1
  cases k0:e.kind==0 with
  |true=>
   have hk:e.kind=0:=by simpa using k0
   have hi:inI e.kind 1 3=false:=by rw[hk];rfl
   rw[hi]at h3;cases hv:e.ver==[]<;>simp[h1,k0,hv,h3]
  |false=>
   cases hi:inI e.kind 1 3 with
   |false=>rw[hi]at h3;simp[h1,k0,h3]
   |true=>rw[hi]at h3;simp[h1,k0,h3,h2]
end Go.Qz
namespace Go.Qz
open Go.Proofs
theorem zua(e:Ne):C Fn58 [.ro (NeD e)] []=some (.one (.ro (T e.name)),[]):=by
 refine zad Tryz.func58 Cv58 rfl ?_;simp
theorem zxn(es:List Ne)(h:∀e∈es,neSz e)(hn:es.length<=1048576):C Fn55 [.ro (NeS es),.fn 56 []] []=some (.one (.ro (.bool (es.all zb5))),[]):=by
 refine zad Tryz.func55 Cv55 rfl ?_;simp
 refine zam (λm e=> ∃i,m=es.length-i/\i<=es.length/\e.size=18/\e.get 1=.one (.fn 56 [])/\e.get 7=.one (.ro (NeS es))/\e.get 8=.one (.ro (N es.length))/\e.get 9=.one (.ro (N i))/\
  (es.drop i).all zb5=es.all zb5) ?_ es.length _ ⟨0,rfl,Nat.zero_le _,by simp,by simp,by simp,by simp,by simp,rfl⟩
 rintro m e ⟨i,rfl,hi,hsz,h1,h7,h8,h9,hr⟩ ih;rcases Nat.lt_or_ge i es.length with hlt|hge
 ·have hd:es.drop i=es[i]::es.drop (i+1):=List.drop_eq_getElem_cons hlt;have hwi:IntKind.i64.wrap ((i:Int)+1)=((i+1:Nat):Int):=zah (by omega)
  have hfx:=zoe es[i] (h _ (List.getElem_mem hlt));rw[hd,List.all_cons]at hr
  cases hp:zb5 es[i]with
  |false=>
   rw[hp]at hr hfx;simp[hfx,hsz,h1,h7,h8,h9,hlt,<-hr]
  |true=>
   rw[hp]at hr hfx;rw[Bool.true_and]at hr;simp[hfx,hsz,h1,h7,h8,h9,hlt,hwi];exact ih _ _ (by omega) ⟨i+1,rfl,by omega,by simp[hsz],by simp[h1],by simp[h7],by simp[h8],by simp,hr⟩
 ·obtain rfl:i=es.length:=by omega
  rw[List.drop_length,List.all_nil]at hr;simp[hsz,h8,h9,<-hr]
def dupT:zgy->zgy->Bool
 |_,[]=>false
 |seen,x::r=>seen.contains x||dupT (seen++[x]) r
theorem z1x(x:List UInt8):C z9w [.ro (.sl 1 [T x])] []=some (.one (.own (.sl 1 [T x])),[]):=by
 refine zad Tryz.func103 z9y rfl ?_;have h1:1<=zaf:=by decide
 simp[h1]
theorem zry(es:List Ne)(nm:List UInt8)(hn:es.length<=1048576):C Fn57 [.ro (NeS es),.fn 58 [], .ro (.sl 1 [T nm])] []=some (.one (.ro (.bool (dupT [nm] (es.map Ne.name)))),[]):=by
 refine zad Tryz.func57 Cv57 rfl ?_;have hc:=z1x nm;simp[hc]
 refine zam (λm e=> ∃i seen,m=es.length-i/\i<=es.length/\seen.length=i+1/\e.size=30/\e.get 1=.one (.fn 58 [])/\e.get 7=.one (.own (SS seen))/\e.get 12=.one (.ro (NeS es))/\e.get 13=.one (.ro (N es.length))/\e.get 14=.one (.ro (N i))/\
  dupT seen ((es.drop i).map Ne.name)=dupT [nm] (es.map Ne.name)) ?_ es.length _ ⟨0,[nm],rfl,Nat.zero_le _,rfl,by simp,by simp,by simp,by simp,by simp,by simp,rfl⟩
 rintro m e ⟨i,seen,rfl,hi,hseen,hsz,h1,h7,h12,h13,h14,hr⟩ ih;rcases Nat.lt_or_ge i es.length with hlt|hge
 ·have hd:es.drop i=es[i]::es.drop (i+1):=List.drop_eq_getElem_cons hlt;have hwi:IntKind.i64.wrap ((i:Int)+1)=((i+1:Nat):Int):=zah (by omega)
  have hnm:=zua es[i];have hct:=zt5 seen es[i].name (by omega)
  have ha:seen.length+1<=zaf:=by simp[zaf];omega
  rw[hd,List.map_cons,dupT]at hr
  cases hp:seen.contains es[i].name with
  |true=>
   rw[hp]at hct hr;rw[Bool.true_or]at hr;simp[hsz,h1,h7,h12,h13,h14,hlt,hnm,hct,<-hr]
  |false=>
   rw[hp]at hct hr;rw[Bool.false_or]at hr;simp[hsz,h1,h7,h12,h13,h14,hlt,hwi,hnm,hct,ha];exact ih _ _ (by omega) ⟨i+1,seen++[es[i].name],rfl,by omega,by simp[hseen],by simp[hsz],by simp[h1],by simp,by simp[h12],by simp[h13],by simp,hr⟩
 ·obtain rfl:i=es.length:=by omega
  rw[List.drop_length,List.map_nil,dupT]at hr;simp[hsz,h13,h14,<-hr]
theorem zxo(xs:zgy)(hn:xs.length<=2097152):C yah [.ro (SS xs)] []=some (.one (.ro (.bool (dupT [] xs))),[]):=by
 refine zad Tryz.func110 yaj rfl ?_;simp
 refine zam (λm e=> ∃i,m=xs.length-i/\i<=xs.length/\e.size=25/\e.get 0=.one (.ro (SS xs))/\e.get 3=.one (.ro (N i))/\dupT (xs.take i) (xs.drop i)=dupT [] xs)
  ?_ xs.length _ ⟨0,rfl,Nat.zero_le _,by simp,by simp,by simp,rfl⟩
 rintro m e ⟨i,rfl,hi,hsz,h0,h3,hr⟩ ih;rcases Nat.lt_or_ge i xs.length with hlt|hge
 ·have hd:xs.drop i=xs[i]::xs.drop (i+1):=List.drop_eq_getElem_cons hlt;have hwi:IntKind.i64.wrap ((i:Int)+1)=((i+1:Nat):Int):=zah (by omega)
  rw[hd,dupT,<-List.take_succ_eq_append_getElem hlt]at hr;simp[hsz,h0,h3,hlt]
  refine zam (λm e=> ∃k,m=i-k/\k<=i/\e.size=25/\e.get 0=.one (.ro (SS xs))/\e.get 3=.one (.ro (N i))/\e.get 4=.one (.ro (N k))/\ ∀j (h:j<xs.length),j<k->(xs[j]==xs[i])=false)
   ?_ i _ ⟨0,rfl,Nat.zero_le _,by simp[hsz],by simp[h0],by simp[h3],by simp,by omega⟩
  clear hsz h0 h3;rintro m e ⟨k,rfl,hk,hsz,h0,h3,h4,hno⟩ ih2;rcases Nat.lt_or_ge k i with hlt2|hge2
  ·have hkx:k<xs.length:=by omega
   have hwk:IntKind.i64.wrap ((k:Int)+1)=((k+1:Nat):Int):=zah (by omega)
   have hki:(k:Int)<i:=by omega
   cases hq:xs[k]==xs[i]with
   |true=>
    have hc:(xs.take i).contains xs[i]=true:=by
     rw[List.contains_iff_mem];have:xs[k]=xs[i]:=by simpa using hq
     rw[<-this];exact List.mem_take_iff_getElem.2 ⟨k,by omega,rfl⟩
    rw[hc,Bool.true_or]at hr;simp[hsz,h0,h3,h4,hlt,hkx,hki,hq,<-hr]
   |false=>
    simp[hsz,h0,h3,h4,hlt,hkx,hki,hq,hwk];refine ih2 _ _ (by omega) ⟨k+1,rfl,by omega,by simp[hsz],by simp[h0],by simp[h3],by simp,λj h hj=>?_⟩
    rcases Nat.lt_or_ge j k with h' |h'
    ·exact hno j h h'
    ·obtain rfl:j=k:=by omega
     exact hq
  ·obtain rfl:k=i:=by omega
   have hc:(xs.take k).contains xs[k]=false:=by
    cases hq:(xs.take k).contains xs[k]with
    |false=>rfl
    |true=>
     rw[List.contains_iff_mem]at hq;obtain⟨j,hj,he⟩:=List.mem_take_iff_getElem.1 hq;have:=hno j (by omega) (by omega)
     rw[he]at this;simp at this
   rw[hc,Bool.false_or]at hr;simp[hsz,h3,h4,hwi];exact ih _ _ (by omega) ⟨k+1,rfl,by omega,by simp[hsz],by simp[h0],by simp,hr⟩
 ·obtain rfl:i=xs.length:=by omega
  rw[List.drop_length,dupT]at hr;simp[hsz,h0,h3,<-hr]
theorem zxp(es:List Ne)(h:∀e∈es,neSz e)(hn:es.length<=1048576):C yae [.ro (NeS es)] []=some (.one (.ro (.bool (es.all zb5&&decide (es.length<=6)))),[]):=by
 refine zad Tryz.func109 yag rfl ?_;simp
 refine zam (λm e=> ∃i,m=es.length-i/\i<=es.length/\e.size=19/\e.get 0=.one (.ro (NeS es))/\e.get 3=.one (.ro (N i))/\
  (es.drop i).all zb5=es.all zb5) ?_ es.length _ ⟨0,rfl,Nat.zero_le _,by simp,by simp,by simp,rfl⟩
 rintro m e ⟨i,rfl,hi,hsz,h0,h3,hr⟩ ih;rcases Nat.lt_or_ge i es.length with hlt|hge
 ·have hd:es.drop i=es[i]::es.drop (i+1):=List.drop_eq_getElem_cons hlt;have hwi:IntKind.i64.wrap ((i:Int)+1)=((i+1:Nat):Int):=zah (by omega)
  have hfx:=zxm es[i] (h _ (List.getElem_mem hlt));rw[hd,List.all_cons]at hr
  cases hp:zb5 es[i]with
  |false=>
   rw[hp]at hr hfx;simp[hfx,hsz,h0,h3,hlt,<-hr]
  |true=>
   rw[hp]at hr hfx;rw[Bool.true_and]at hr;simp[hfx,hsz,h0,h3,hlt,hwi];exact ih _ _ (by omega) ⟨i+1,rfl,by omega,by simp[hsz],by simp[h0],by simp,hr⟩
 ·obtain rfl:i=es.length:=by omega
  rw[List.drop_length,List.all_nil]at hr;simp[hsz,h0,h3,<-hr]
theorem zxq(es:List Ne)(nm:List UInt8)(h:∀e∈es,neSz e)(hn:es.length<=1048576):C Fn62 [.ro (T nm),.ro (NeS es)] []=some (.one (.ro (.bool ((es.all zb5&&decide (es.length<=6))&& !dupT [nm] (es.map Ne.name)))),[]):=by
 refine zad Tryz.func62 Cv62 rfl ?_;simp;refine zam (λm e=> ∃i,m=es.length-i/\i<=es.length/\e.size=30/\e.get 1=.one (.ro (NeS es))/\e.get 5=.one (.own (SS (nm::(es.take i).map Ne.name)))/\e.get 6=.one (.ro (N i))) ?_ es.length _ ⟨0,rfl,Nat.zero_le _,by simp,by simp,by simp,by simp⟩
 rintro m e ⟨i,rfl,hi,hsz,h1,h5,h6⟩ ih;rcases Nat.lt_or_ge i es.length with hlt|hge
 ·have hwi:IntKind.i64.wrap ((i:Int)+1)=((i+1:Nat):Int):=zah (by omega)
  have hl:(nm::(es.take i).map Ne.name).length=i+1:=by simp;omega
  have ht:(nm::(es.take (i+1)).map Ne.name)=(nm::(es.take i).map Ne.name)++[es[i].name]:=by rw[List.take_succ_eq_append_getElem hlt];simp only[List.map_append,List.map_cons,List.map_nil,List.cons_append]
  generalize (nm::(es.take i).map Ne.name)=ys at *;have ha:ys.length+1<=zaf:=by rw[hl];simp[zaf];omega
  simp[hsz,h1,h5,h6,hlt,hwi,ha];refine ih _ _ (by omega) ⟨i+1,rfl,by omega,by simp[hsz],by simp[h1],?_,by simp⟩
  rw[ht];simp
 ·obtain rfl:i=es.length:=by omega
  have hl:=zxp es h (by omega)
  rw[List.take_length]at h5;have ht:=zxo (nm::es.map Ne.name) (by simp;omega)
  have hd:dupT [] (nm::es.map Ne.name)=dupT [nm] (es.map Ne.name):=by
   rw[dupT];simp
  rw[hd]at ht;generalize (nm::es.map Ne.name)=ys at *;generalize (es.all zb5&&decide (es.length<=6))=b at *;cases b<;>simp[hsz,h1,h5,h6,hl,ht]
end Go.Qz
namespace Go.Qz
open Go.Proofs
section
variable{var:List UInt8->Nat×List UInt8}{out text:List UInt8}
end
end Go.Qz
namespace Go.Qz
open Go.Proofs
end Go.Qz
namespace Go.Qz
open Go.Proofs
def z4h(l:List UInt8):Bool:=l.all zeu&&inI l.length 1 80
end Go.Qz
namespace Go.Qz
open Go.Proofs
end Go.Qz
namespace Go.Qz
open Go.Proofs
end Go.Qz
namespace Go.Qz
open Go.Proofs
end Go.Qz
namespace Go.Qz
open Go.Proofs
end Go.Qz
namespace Go.Qz
open Go.Proofs
end Go.Qz
namespace Go.Qz
open Go.Proofs
end Go.Qz
namespace Go.Qz
open Go.Proofs
end Go.Qz
namespace Go.Qz
open Go.Proofs
section
variable{c:Ctx}{a:zaa}{ks:List Fr}
end
end Go.Qz
namespace Go.Qz
open Go.Proofs
end Go.Qz
namespace Go.Qz
open Go.Proofs
end Go.Qz
namespace Go.Qz
open Go.Proofs
end Go.Qz
namespace Go.Qz
open Go.Proofs
end Go.Qz
namespace Go.Qz
open Go.Proofs
end Go.Qz
namespace Go.Qz
open Go.Proofs
end Go.Qz
namespace Go.Qz
open Go.Proofs
theorem zmt{l:List UInt8}:z4h l=true↔l.all zeu=true/\1<=l.length/\l.length<=80:=by
 unfold z4h inI;simp only[Bool.and_eq_true,decide_eq_true_eq];constructor
 ·rintro⟨h1,h2,h3⟩;exact⟨h1,by omega,by omega⟩
 ·rintro⟨h1,h2,h3⟩;exact⟨h1,by omega,by omega⟩
theorem zof{n:List UInt8}(h:zcv n=true):(∀b∈n,zf9 b=true)/\n.length<=10:=by
 cases n with
 |nil=>simp[zcv]at h
 |cons c r=>
  unfold zcv at h;simp only[Bool.and_eq_true,decide_eq_true_eq,List.all_eq_true]at h;exact⟨h.2.2,by simp;omega⟩
end Go.Qz
namespace Go.Qz
open Go.Proofs
theorem zj2(b:UInt8):∀(l:List UInt8) (c:UInt8),c∈l->c=b∨ ∃x∈za7 b l,c∈x
 | [],c,h=>by cases h
 |a::r,c,h=>by
  rw[za7];split
  ·rename_i ha;rcases List.mem_cons.1 h with rfl|h
   ·exact .inl ha
   ·rcases zj2 b r c h with h|⟨x,hx,hc⟩
    ·exact .inl h
    ·exact .inr ⟨x,by simp[hx],hc⟩
  ·cases hq:za7 b r with
   |nil=>exact absurd hq (zhk b r)
   |cons y t=>
    rcases List.mem_cons.1 h with rfl|h
    ·exact .inr ⟨c::y,by simp,by simp⟩
    ·rcases zj2 b r c h with h|⟨x,hx,hc⟩
     ·exact .inl h
     ·rw[hq]at hx;rcases List.mem_cons.1 hx with rfl|hx
      ·exact .inr ⟨a::x,by simp,by simp[hc]⟩
      ·exact .inr ⟨x,by simp[hx],hc⟩
theorem zrz(b:UInt8):∀l:List UInt8,((za7 b l).map λx=>x.length+1).sum=l.length+1
 | []=>by simp[za7]
 |a::r=>by
  have ih:=zrz b r;rw[za7];split
  ·simp[ih];omega
  ·cases hq:za7 b r with
   |nil=>exact absurd hq (zhk b r)
   |cons y t=>
    rw[hq]at ih;simp at ih ⊢;omega
theorem z8h{xs:zgy}{k:Nat}(h:∀x∈xs,x.length<=k):(xs.map λx=>x.length+1).sum<=xs.length*(k+1):=by
 induction xs with
 |nil=>simp
 |cons x r ih=>
  have h1:=h x (by simp)
  have h2:=ih (λy hy=>h y (by simp[hy]))
  simp only[List.map_cons,List.sum_cons,List.length_cons,Nat.add_mul,Nat.one_mul];omega
theorem z4i{v:List UInt8}(h:zf2 v=true):z4h v=true/\(∀c∈v,c≠36):=by
 unfold zf2 at h;simp only[Bool.and_eq_true,decide_eq_true_eq,List.all_eq_true]at h;obtain⟨h4,hall⟩:=h
 have hpart:∀x∈za7 46 v,1<=x.length/\x.length<=3/\ ∀c∈x,figB c=true:=by
  intro x hx;have hp:=hall x hx;unfold zev at hp;have h1:=z1u (l:=x) (m:=999) (x:=(numI x 999).1) (by rw[<-hp])
  have h2:=zt9 hp;refine⟨?_,?_,λc hc=>?_⟩
  ·rcases Nat.eq_zero_or_pos x.length with h0|h0
   ·rw[List.length_eq_zero_iff]at h0;subst h0;rw[show (numI [] 999).2=false by decide]at hp
    cases hp
   ·exact h0
  ·rw[<-h1];exact zrw _ h2
  ·rw[<-h1]at hc;exact z6d _ c hc
 have hsum:=zrz 46 v;have hle:=z8h (k:=3) (λx hx=>(hpart x hx).2.1)
 have hmul:(za7 46 v).length*(3+1)<=4*4:=Nat.mul_le_mul h4 (Nat.le_refl _)
 have hchar:∀c∈v,c=46∨figB c=true:=λc hc=>by
  rcases zj2 46 v c hc with h|⟨x,hx,hcx⟩
  ·exact .inl h
  ·exact .inr ((hpart x hx).2.2 c hcx)
 have hfig:∀c:UInt8,figB c=true->zeu c=true/\c≠36:=λc hc=>by
  unfold figB at hc;unfold zeu;simp only[Bool.and_eq_true,decide_eq_true_eq]at hc ⊢;refine⟨by omega,?_⟩
  rintro rfl;simp at hc
 refine⟨zmt.2 ⟨List.all_eq_true.2 λc hc=>?_,?_,by omega⟩,λc hc=>?_⟩
 ·rcases hchar c hc with rfl|h
  ·decide
  ·exact(hfig c h).1
 ·rcases Nat.eq_zero_or_pos v.length with h0|h0
  ·rw[List.length_eq_zero_iff]at h0;subst h0;have:=(hpart [] (by simp[za7])).1
   simp at this
  ·exact h0
 ·rcases hchar c hc with rfl|h
  ·decide
  ·exact(hfig c h).2
end Go.Qz
namespace Go.Qz
open Go.Proofs
end Go.Qz
namespace Go.Qz
open Go.Proofs
def zpl(k:Int):List UInt8:=if k==1 then [61]else if k==2 then [62,61]else if k==3 then [60]else []
def zm9(e:Ne):List UInt8:=e.name++(zpl e.kind++e.ver)
theorem zr0(k:Int):(zpl k).length<=2:=by
 unfold zpl;split
 ·simp
 ·split
  ·simp
  ·split<;>simp
theorem zxr{l:List UInt8}(h:l.all zeu=true):∀c∈l,c≠10:=by
 intro c hc e;subst e;have:=List.all_eq_true.1 h _ hc;revert this;decide
theorem z1y{l:List UInt8}(h:z4h l=true):(∀c∈l,c≠10)/\l.length<=80:=⟨zxr (zmt.1 h).1,(zmt.1 h).2.2⟩
theorem zxs{c:UInt8}(h:zf9 c=true):c≠10/\c≠32/\c≠60/\c≠61/\c≠62:=by
 refine⟨?_,?_,?_,?_,?_⟩<;>(rintro rfl;revert h;decide)
theorem zje{n:List UInt8}(h:zcv n=true):(∀c∈n,c≠10/\c≠32/\c≠60/\c≠61/\c≠62)/\n.length<=10:=⟨λc hc=>zxs ((zof h).1 c hc),(zof h).2⟩
theorem zk0{v:List UInt8}(h:zf2 v=true):(∀c∈v,c≠10)/\v.length<=80:=z1y (z4i h).1
theorem zvp{e:Ne}(h:zb5 e=true):zcv e.name=true/\((e.kind=0/\e.ver=[])∨((e.kind=1∨e.kind=2∨e.kind=3)/\zf2 e.ver=true)):=by
 unfold zb5 at h;rw[Bool.and_eq_true]at h;refine⟨h.1,?_⟩;have h2:=h.2;split at h2
 ·rename_i hk;exact .inl ⟨by simpa using hk,by simpa using h2⟩
 ·rename_i hk;rw[Bool.and_eq_true]at h2;unfold inI at h2;simp only[Bool.and_eq_true,decide_eq_true_eq]at h2;exact .inr ⟨by omega,h2.2⟩
theorem z1z(k:Int):∀c∈zpl k,c≠10:=by
 intro c hc;unfold zpl at hc;split at hc
 ·simp at hc;subst hc;decide
 ·split at hc
  ·simp at hc;rcases hc with rfl|rfl<;>decide
  ·split at hc
   ·simp at hc;subst hc;decide
   ·simp at hc
theorem zmu{e:Ne}(h:zb5 e=true):(∀c∈zm9 e,c≠10)/\(zm9 e).length<=92:=by
 obtain⟨hp,hv⟩:=zvp h;have h1:=zje hp
 have h3:(∀c∈e.ver,c≠10)/\e.ver.length<=80:=by
  rcases hv with⟨_,h0⟩|⟨_,h0⟩
  ·rw[h0];exact⟨by simp,by simp⟩
  ·exact zk0 h0
 have h2:=zr0 e.kind;unfold zm9;refine⟨λc hc=>?_,by simp only[List.length_append];omega⟩
 rcases List.mem_append.1 hc with hc|hc
 ·exact(h1.1 c hc).1
 ·rcases List.mem_append.1 hc with hc|hc
  ·exact z1z _ c hc
  ·exact h3.1 c hc
end Go.Qz
namespace Go.Qz
open Go.Proofs
end Go.Qz
namespace Go.Qz
open Go.Proofs
theorem z10(a:Int)(h0:0<=a)(h1:a<=1099511627776):C z77 [.ro (.int .i64 a)] []=some (.one (.ro (T (Lib.decDigits a.toNat))),[]):=by
 obtain⟨n,rfl⟩:=Int.eq_ofNat_of_zero_le h0;exact zvn n (by omega)
theorem z11(m l:List UInt8)(h:m.length+l.length<=zaf):
 C 79 [.ptr 5000 0,.ro (T l)] [(5000,[.bnil 108,.own (.bs 5 ⟨m.toArray⟩)])]=some (.tup [.ro (N l.length),.ro .nili],[(5000,[.selfp,.own (.bs 5 ⟨(m++l).toArray⟩)])]):=by
 refine zad Tryz.func79 Cv79 rfl ?_;have hc:=zn9 5000 (.own (.bs 5 ⟨m.toArray⟩)) (by decide)
 simp[hc,h]
theorem zr1(m l:List UInt8)(h:m.length+l.length<=zaf):
 C 79 [.ptr 5000 0,.ro (T l)] [(5000,[.selfp,.own (.bs 5 ⟨m.toArray⟩)])]=some (.tup [.ro (N l.length),.ro .nili],[(5000,[.selfp,.own (.bs 5 ⟨(m++l).toArray⟩)])]):=by
 refine zad Tryz.func79 Cv79 rfl ?_;have hc:=zmn 5000 (.own (.bs 5 ⟨m.toArray⟩)) (by decide)
 simp[hc,h]
theorem zvq(a:Int)(h0:0<=a)(h1:a<=1099511627776):C 126 [.ro (.int .i64 a)] []=some (.one (.ro (T (Lib.decDigits a.toNat))),[]):=by
 have h:=z58 a (by omega) (by omega)
 have:¬a<0:=by omega
 rw[Lib.itoa,if_neg this]at h;exact h
theorem z4j(n:Nat)(h1:n<=1099511627776):C 126 [.ro (N n)] []=some (.one (.ro (T (Lib.decDigits n))),[]):=zvq n (by omega) (by omega)
theorem zhl{a0:A}(ha:a0=.bnil 108∨a0=.selfp)(m l:List UInt8)(h:m.length+l.length<=zaf):
 C 79 [.ptr 5000 0,.ro (T l)] [(5000,[a0,.own (.bs 5 ⟨m.toArray⟩)])]=some (.tup [.ro (N l.length),.ro .nili],[(5000,[.selfp,.own (.bs 5 ⟨(m++l).toArray⟩)])]):=by
 rcases ha with rfl|rfl
 ·exact z11 m l h
 ·exact zr1 m l h
theorem zub(a0:A)(m:List UInt8):C 82 [.ptr 5000 0] [(5000,[a0,.own (.bs 5 ⟨m.toArray⟩)])]=some (.one (.ro (T m)),[(5000,[a0,.dead])]):=z1l 5000 a0 ⟨m.toArray⟩ (by decide)
end Go.Qz
namespace Go.Qz
open Go.Proofs
end Go.Qz
namespace Go.Qz
open Go.Proofs
theorem z12(k:Int):C ya5 [.ro (I k)] []=some (.one (.ro (T (zpl k))),[]):=by
 refine zad Tryz.func128 ya7 rfl ?_;unfold zpl;cases h1:k==1
 ·cases h2:k==2
  ·cases h3:k==3
   ·simp[h1,h2,h3]
   ·simp[h1,h2,h3]
  ·simp[h1,h2]
 ·simp[h1]
theorem z4k(e:Ne)(h:neSz e):C yat [.ro (NeD e)] []=some (.one (.ro (T (zm9 e))),[]):=by
 refine zad Tryz.func122 yav rfl ?_;have h1:=z12 e.kind;have h2:=zr0 e.kind;have h3:=h.1;have h4:=h.2;unfold zm9;generalize zpl e.kind=s at *;have z1:e.name.length+s.length<=zag:=by unfold zag;omega
 have z2:e.name.length+s.length+e.ver.length<=zag:=by unfold zag;omega
 have z3:e.name.length+(s.length+e.ver.length)<=zag:=by unfold zag;omega
 simp[h1,z1,z2,z3]
theorem zuc(e:Ne)(h:neSz e)(hok:zb5 e=true):C Fn80 [.ro (NeD e)] []=some (.one (.ro (T (zm9 e))),[]):=by
 refine zad Tryz.func80 Cv80 rfl ?_;have h1:=zoe e h;rw[hok]at h1;have hv:=(zvp hok).2;have h3:=h.1;have h4:=h.2;obtain⟨n,k,v⟩:=e;simp only at hv h3 h4;have z1:n.length+1<=zag:=by unfold zag;omega
 have z2:n.length+2<=zag:=by unfold zag;omega
 have z3:n.length+1+v.length<=zag:=by unfold zag;omega
 have z4:n.length+2+v.length<=zag:=by unfold zag;omega
 have z5:n.length+(v.length+1)<=zag:=by unfold zag;omega
 have z6:n.length+(v.length+1+1)<=zag:=by unfold zag;omega
 unfold zm9 zpl;rcases hv with⟨rfl,rfl⟩|⟨rfl|rfl|rfl,_⟩<;>simp[h1,z1,z2,z3,z4,z5,z6]
end Go.Qz
namespace Go.Qz
open Go.Proofs
structure En where
 path:List UInt8
 kind:Int
 mode:Int
 text:List UInt8
abbrev ED(e:En):D:=.agg [T e.path,I e.kind,I e.mode,T e.text]
abbrev ES(es:List En):D:=.sl 4 (es.map ED)
def zud(b:UInt8):Bool:=zeu b||b==10
def z13(l:List UInt8):Bool:=decide (l.length<=80)&&l.all zud
def zho(e:En):Bool:=zfm e.path&&(decide (0<=e.mode)&&(decide (e.mode<=7)&&
 (if e.kind==1 then e.text==[]else if e.kind==2 then z13 e.text else if e.kind==3 then e.mode==0&&zfm e.text else false)))
theorem zue(l:List UInt8):C ybq [.ro (T l)] []=some (.one (.ro (.bool (z13 l))),[]):=by
 refine zad Tryz.func146 ybs rfl ?_;unfold z13;by_cases hs:l.length<=80
 ·have hs':¬(80:Int)<l.length:=by omega
  simp[hs']
  refine zam (λm e=> ∃i,m=l.length-i/\i<=l.length/\e.size=24/\e.get 0=.one (.ro (T l))/\e.get 8=.one (.ro (N l.length))/\e.get 9=.one (.ro (N i))/\
   (l.drop i).all zud=l.all zud) ?_ l.length _ ⟨0,rfl,Nat.zero_le _,by simp,by simp,by simp,by simp,rfl⟩
  rintro m e ⟨i,rfl,hi,hsz,h0,h8,h9,hr⟩ ih;rcases Nat.lt_or_ge i l.length with hlt|hge
  ·have hd:l.drop i=l[i]::l.drop (i+1):=List.drop_eq_getElem_cons hlt;have hwi:IntKind.i64.wrap ((i:Int)+1)=((i+1:Nat):Int):=zah (by omega)
   rw[hd,List.all_cons]at hr;have hf:zud l[i]=(zeu l[i]||l[i]==10):=rfl
   rw[hf]at hr;have hpl:=zrs l[i]
   cases hp:zeu l[i]with
   |false=>
    rw[hp]at hr hpl
    cases hq:l[i]==10 with
    |false=>
     rw[hq]at hr;simp[hpl,hsz,h0,h8,h9,hlt,hq,hs,<-hr]
    |true=>
     rw[hq]at hr;simp[hpl,hsz,h0,h8,h9,hlt,hwi,hq];exact ih _ _ (by omega) ⟨i+1,rfl,by omega,by simp[hsz],by simp[h0],by simp[h8],by simp,by simpa using hr⟩
   |true=>
    rw[hp]at hr hpl;simp[hpl,hsz,h0,h8,h9,hlt,hwi];exact ih _ _ (by omega) ⟨i+1,rfl,by omega,by simp[hsz],by simp[h0],by simp[h8],by simp,by simpa using hr⟩
  ·obtain rfl:i=l.length:=by omega
   rw[List.drop_length,List.all_nil]at hr;simp[hsz,h8,h9,hs,<-hr]
 ·have hs':80<l.length:=by omega
  simp[hs',hs]
theorem z14(l:List UInt8)(hl:l.length<=140737488351232):C yb2 [.ro (T l)] []=some (.one (.ro (.bool (z13 l))),[]):=by
 refine zad Tryz.func150 yb4 rfl ?_;unfold z13;rw[Bool.and_comm];simp
 refine zam (λm e=> ∃i,m=l.length-i/\i<=l.length/\e.size=25/\e.get 0=.one (.ro (T l))/\e.get 3=.one (.ro (N i))/\
  (l.drop i).all zud=l.all zud) ?_ l.length _ ⟨0,rfl,Nat.zero_le _,by simp,by simp,by simp,rfl⟩
 rintro m e ⟨i,rfl,hi,hsz,h0,h3,hr⟩ ih;rcases Nat.lt_or_ge i l.length with hlt|hge
 ·have hd:l.drop i=l[i]::l.drop (i+1):=List.drop_eq_getElem_cons hlt;have hwi:IntKind.i64.wrap ((i:Int)+1)=((i+1:Nat):Int):=zah (by omega)
  have hwb:IntKind.i64.wrap (l[i].toNat:Int)=l[i].toNat:=by have:=l[i].toNat_lt;exact wrap64 (by omega) (by omega)
  rw[hd,List.all_cons]at hr;have hf:zud l[i]=(zeu l[i]||l[i]==10):=rfl
  rw[hf]at hr;have hpl:=zj0 l[i].toNat 32 126;rw[z30]at hpl
  cases hq:l[i]==10 with
  |true=>
   rw[hq,Bool.or_true,Bool.true_and]at hr;simp[hsz,h0,h3,hlt,hwi,hq];exact ih _ _ (by omega) ⟨i+1,rfl,by omega,by simp[hsz],by simp[h0],by simp,hr⟩
  |false=>
   rw[hq,Bool.or_false]at hr
   cases hp:zeu l[i]with
   |false=>
    rw[hp]at hr hpl;simp[hpl,hsz,h0,h3,hlt,hwb,hq,<-hr]
   |true=>
    rw[hp,Bool.true_and]at hr;rw[hp]at hpl;simp[hpl,hsz,h0,h3,hlt,hwb,hwi,hq];exact ih _ _ (by omega) ⟨i+1,rfl,by omega,by simp[hsz],by simp[h0],by simp,hr⟩
 ·obtain rfl:i=l.length:=by omega
  rw[List.drop_length,List.all_nil]at hr;simp[hsz,h0,h3,<-hr]
def enSz(e:En):Prop:=e.path.length<=1048576/\e.text.length<=1048576
theorem zxt(e:En)(hl:enSz e):C z92 [.ro (ED e)] []=some (.one (.ro (.bool (zho e))),[]):=by
 refine zad Tryz.func105 z94 rfl ?_;have h1:=zmq e.path (by have:=hl.1;omega)
 have h2:=zmq e.text (by have:=hl.2;omega)
 have h3:=zue e.text;unfold zho
 cases hp:zfm e.path with
 |false=>rw[hp]at h1;simp[h1]
 |true=>
  rw[hp]at h1;by_cases hm:e.mode<0
  ·have hm':¬0<=e.mode:=by omega
   simp[h1,hm,hm']
  ·have hm':0<=e.mode:=by omega
   by_cases hm7:7<e.mode
   ·have hm8:¬e.mode<=7:=by omega
    simp[h1,hm,hm',hm7,hm8]
   ·have hm8:e.mode<=7:=by omega
    cases k1:e.kind==1 with
    |true=>simp[h1,hm,hm',hm7,hm8,k1]
    |false=>
     cases k2:e.kind==2 with
     |true=>simp[h1,hm,hm',hm7,hm8,k1,k2,h3]
     |false=>
      cases k3:e.kind==3 with
      |true=>cases k0:e.mode==0<;>simp[h1,hm,hm',hm7,hm8,k1,k2,k3,k0,h2]
      |false=>simp[h1,hm,hm',hm7,hm8,k1,k2,k3]
theorem zxu(e:En)(hl:enSz e):C yak [.ro (ED e)] []=some (.one (.ro (.bool (zho e))),[]):=by
 refine zad Tryz.func111 yam rfl ?_;have h1:=zru e.path hl.1;have h2:=zru e.text hl.2;have h3:=z14 e.text (by have:=hl.2;omega)
 have h4:=zj0 e.mode 0 7;have h5:inI e.mode 0 7=(decide (0<=e.mode)&&decide (e.mode<=7)):=rfl;rw[h5]at h4;unfold zho
 cases hp:zfm e.path with
 |false=>rw[hp]at h1;simp[h1]
 |true=>
  rw[hp]at h1;rw[<-Bool.and_assoc (decide (0<=e.mode))];generalize hin:(decide (0<=e.mode)&&decide (e.mode<=7))=inb at *
  cases k1:e.kind==1 with
  |true=>cases inb<;>simp[h1,k1,h4]
  |false=>
   cases k2:e.kind==2 with
   |true=>cases inb<;>simp[h1,k1,k2,h3,h4]
   |false=>
    cases k3:e.kind==3 with
    |true=>
     cases k0:e.mode==0 with
     |false=>cases inb<;>simp[h1,k1,k2,k3,k0]
     |true=>
      have:e.mode=0:=by simpa using k0
      rw[this]at hin;subst hin;simp[h1,k1,k2,k3,k0,h2]
    |false=>cases inb<;>simp[h1,k1,k2,k3]
end Go.Qz
namespace Go.Qz
open Go.Proofs
def cmpT(p q:List UInt8):Int:=if zbp p q then-1 else if p==q then 0 else 1
theorem zvr(p:List UInt8):C ydi [.ro (T p)] []=some (.one (.ro (.bool false)),[]):=by
 refine zad Tryz.func215 ydk rfl ?_;simp
theorem zxv(p q:List UInt8):C yc9 [.ro (T p),.ro (T q)] []=some (.one (.ro (I (cmpT p q))),[]):=by
 refine zad Tryz.func205 ydb rfl ?_;unfold cmpT
 cases h1:zbp p q with
 |true=>simp[zvr,h1]
 |false=>cases h2:p==q<;>simp[zvr,h1,h2]
theorem zr2(a b:En):C ycs [.ro (ED a),.ro (ED b)] []=some (.one (.ro (I (cmpT a.path b.path))),[]):=by
 refine zad Tryz.func184 ycu rfl ?_;simp[zxv]
theorem z6g(p q:List UInt8):decide (cmpT p q<0)=zbp p q:=by
 unfold cmpT
 cases h1:zbp p q with
 |true=>simp
 |false=>cases h2:p==q<;>simp
theorem z6h(p q:List UInt8)(h:zbp p q=false):(cmpT p q==0)=(p==q):=by
 unfold cmpT;rw[h];cases h2:p==q<;>simp
def zkt(es:List En)(p:List UInt8):Bool:=match es[zcm En.path p es]? with
 |some e=>e.path==p
 |none=>false
theorem z15(es:List En)(x:En)(hn:es.length<=1048576)(ha:zbr En.path es=true):
 C ycp [.ro (ES es),.ro (ED x),.fn 184 []] []=some (.tup [.ro (N (zcm En.path x.path es)),.ro (.bool (zkt es x.path))],[]):=by
 refine zad Tryz.func183 ycr rfl ?_;simp
 refine zam (λm e=> ∃i j,m=j-i/\i<=j/\j<=es.length/\(∀k (h:k<es.length),k<i->zbp es[k].path x.path=true)/\(∀k (h:k<es.length),j<=k->zbp es[k].path x.path=false)/\e.size=49/\
  e.get 0=.one (.ro (ES es))/\e.get 2=.one (.fn 184 [])/\e.get 4=.one (.ptr 4 0)/\e.box 4=some [.ro (T x.path),.ro (I x.kind),.ro (I x.mode),.ro (T x.text)]/\e.get 8=.one (.ro (N es.length))/\e.get 9=.one (.ro (N i))/\e.get 10=.one (.ro (N j)))
  ?_ es.length _ ⟨0,es.length,rfl,Nat.zero_le _,Nat.le_refl _,by omega,by omega,by simp,by simp,by simp,by simp,by simp,by simp,by simp,by simp⟩
 rintro m e ⟨i,j,rfl,hij,hj,hlo,hhi,hsz,h0,h2,h4,hb,h8,h9,h10⟩ ih;rcases Nat.lt_or_ge i j with hlt|hge
 ·have hw:IntKind.i64.wrap ((i:Int)+j)=((i+j:Nat):Int):=by rw[wrap64 (by omega) (by omega)];omega
  have hu:IntKind.u64.wrap ((i+j:Nat):Int)=((i+j:Nat):Int):=by
   unfold IntKind.wrap;simp[IntKind.bits,IntKind.signed];omega
  obtain⟨h,hh⟩:∃h,h=(i+j)/2:=⟨_,rfl⟩;have hm:(2:Int)^min 1 IntKind.u64.bits=2:=by decide
  have hf:((i+j:Nat):Int).fdiv (2^min 1 IntKind.u64.bits)=(h:Int):=by
   rw[hm,Int.fdiv_eq_ediv_of_nonneg _ (by omega)]
   omega
  have hh1:i<=h:=by omega
  have hh2:h<j:=by omega
  have hh3:h<1048576:=by omega
  generalize i+j=s at *;have hwh:IntKind.i64.wrap (h:Int)=h:=wrap64 (by omega) (by omega)
  have hwh1:IntKind.i64.wrap ((h:Int)+1)=((h+1:Nat):Int):=zah (by omega)
  have hhl:h<es.length:=by omega
  have hb2:=zr2 es[h] x;have hc:=z6g es[h].path x.path;have hij':(i:Int)<j:=by omega
  generalize cmpT es[h].path x.path=c at *
  cases hp:zbp es[h].path x.path with
  |true=>
   have hc':c<0:=by rw[hp]at hc;simpa using hc
   simp[hsz,h0,h2,h4,hb,h9,h10,hij',hw,hu,hf,hwh,hwh1,hhl,hb2,hc'];refine ih _ _ (by omega) ⟨h+1,j,rfl,by omega,hj,λk hk hk1=>?_,hhi,by simp[hsz],by simp[h0],by simp[h2],by simp[h4],by simp[hb],by simp[h8],by simp,by simp[h10]⟩
   rcases Nat.lt_or_ge k h with h' |h'
   ·exact ze2 (zsl ha k h hhl h') hp
   ·obtain rfl:k=h:=by omega
    exact hp
  |false=>
   have hc':¬c<0:=by rw[hp]at hc;simpa using hc
   simp[hsz,h0,h2,h4,hb,h9,h10,hij',hw,hu,hf,hwh,hhl,hb2,hc'];refine ih _ _ (by omega) ⟨i,h,rfl,by omega,by omega,hlo,λk hk hk1=>?_,by simp[hsz],by simp[h0],by simp[h2],by simp[h4],by simp[hb],by simp[h8],by simp[h9],by simp⟩
   rcases Nat.lt_or_ge h k with h' |h'
   ·cases hq:zbp es[k].path x.path with
    |false=>rfl
    |true=>have:=ze2 (zsl ha h k hk h') hq;rw[hp]at this;cases this
   ·obtain rfl:k=h:=by omega
    exact hp
 ·obtain rfl:i=j:=by omega
  have hbl:=z2m (f:=En.path) (p:=x.path) i hj hlo hhi;unfold zkt;rw[hbl];rcases Nat.lt_or_ge i es.length with hil|hil
  ·have hb2:=zr2 es[i] x;have hc:=z6h es[i].path x.path (hhi i hil (Nat.le_refl _));generalize cmpT es[i].path x.path=c at *;simp[hsz,h0,h2,h4,hb,h8,h9,h10,hil,hb2,hc]
  ·obtain rfl:i=es.length:=by omega
   simp[hsz,h0,h2,h4,hb,h8,h9,h10]
theorem zr3(es:List En)(p:List UInt8)(hn:es.length<=1048576)(ha:zbr En.path es=true):
 C ybw [.ro (ES es),.ro (T p)] []=some (.tup [.ro (N (zcm En.path p es)),.ro (.bool (zkt es p))],[]):=by
 refine zad Tryz.func148 yby rfl ?_;have h:=z15 es ⟨p,0,0,[]⟩ hn ha;simp[h]
theorem z6i(es:List En)(p:List UInt8)(hn:es.length<=1048576):
 C yb5 [.ro (ES es),.ro (T p)] []=some (.tup [.ro (N (zcm En.path p es)),.ro (.bool (zkt es p))],[]):=by
 refine zad Tryz.func151 yb7 rfl ?_;simp
 refine zam (λm e=> ∃k,m=es.length-k/\k<=es.length/\e.size=36/\e.get 0=.one (.ro (ES es))/\e.get 1=.one (.ro (T p))/\e.get 6=.one (.ro (N k))/\k+zcm En.path p (es.drop k)=zcm En.path p es)
  ?_ es.length _ ⟨0,rfl,Nat.zero_le _,by simp,by simp,by simp,by simp,by simp⟩
 rintro m e ⟨k,rfl,hk,hsz,h0,h1,h6,hr⟩ ih;rcases Nat.lt_or_ge k es.length with hlt|hge
 ·have hd:es.drop k=es[k]::es.drop (k+1):=List.drop_eq_getElem_cons hlt;have hwk:IntKind.i64.wrap ((k:Int)+1)=((k+1:Nat):Int):=zah (by omega)
  rw[hd,zcm]at hr
  cases hp:zbp es[k].path p with
  |true=>
   rw[hp,if_pos rfl]at hr;simp[hsz,h0,h1,h6,hlt,hp,hwk];exact ih _ _ (by omega) ⟨k+1,rfl,by omega,by simp[hsz],by simp[h0],by simp[h1],by simp,by omega⟩
  |false=>
   rw[hp]at hr;simp only[Bool.false_eq_true,if_false,Nat.add_zero]at hr;unfold zkt;rw[<-hr];simp[hsz,h0,h1,h6,hlt,hp]
 ·obtain rfl:k=es.length:=by omega
  rw[List.drop_length,zcm,Nat.add_zero]at hr;unfold zkt;rw[<-hr];simp[hsz,h0,h1,h6]
def zna(es:List En)(p:List UInt8):Bool:=zkt es p&&(match es[zcm En.path p es]? with
 |some e=>e.kind==1
 |none=>false)
theorem zvs{es:List En}{p:List UInt8}(h:zkt es p=true):zcm En.path p es<es.length:=by
 unfold zkt at h;rcases Nat.lt_or_ge (zcm En.path p es) es.length with h' |h'
 ·exact h'
 ·rw[List.getElem?_eq_none h']at h;cases h
theorem z4l(es:List En)(p:List UInt8)(hn:es.length<=1048576):C yan [.ro (ES es),.ro (T p)] []=some (.one (.ro (.bool (p==[]||zna es p))),[]):=by
 refine zad Tryz.func112 yap rfl ?_;have h:=z6i es p hn
 cases hp:p==[]with
 |true=>simp[h,hp]
 |false=>
  unfold zna
  cases ht:zkt es p with
  |false=>rw[ht]at h;simp[h,hp]
  |true=>
   have hl:=zvs ht;rw[ht]at h;generalize zcm En.path p es=k at *;simp[h,hp,hl]
theorem znb(es:List En)(p:List UInt8)(hn:es.length<=1048576)(ha:zbr En.path es=true)(hp0:zfm p=true)(hl:p.length<=1048576):
 C z95 [.ro (ES es),.ro (T p)] []=some (.one (.ro (.bool (upL p==[]||zna es (upL p)))),[]):=by
 refine zad Tryz.func106 z97 rfl ?_;have hup:=z1t p hl;rw[hp0,if_pos rfl]at hup;generalize upL p=u at *;have h:=zr3 es u hn ha
 cases hp:u==[]with
 |true=>simp[hup,hp]
 |false=>
  unfold zna
  cases ht:zkt es u with
  |false=>rw[ht]at h;simp[hup,h,hp]
  |true=>
   have hl:=zvs ht;rw[ht]at h;generalize zcm En.path u es=k at *;simp[hup,h,hp,hl]
end Go.Qz
namespace Go.Qz
open Go.Proofs
def zmv(es:List En)(i:Nat)(e:En):Bool:=i==0||(match es[i-1]? with
 |some d=>zbp d.path e.path
 |none=>false)
def zcw(es:List En)(i:Nat):Bool:=match es[i]? with
 |some e=>zho e&&zmv es i e
 |none=>true
def zew(es:List En)(i:Nat):Bool:=match es[i]? with
 |some e=>upL e.path==[]||zna (es.take i) (upL e.path)
 |none=>true
def zc2(es:List En):Bool:=decide (es.length<=16)&&(List.range es.length).all λi=>zcw es i&&zew es i
theorem zj3{es:List En}{i:Nat}(hi:i<es.length)(h:(zcw es i&&zew es i)=false):zc2 es=false:=by
 cases hq:zc2 es with
 |false=>rfl
 |true=>
  unfold zc2 at hq;rw[Bool.and_eq_true,List.all_eq_true]at hq;have:=hq.2 i (List.mem_range.2 hi);rw[h]at this;cases this
theorem zmw{es:List En}(hn:es.length<=16)(h:∀i,i<es.length->(zcw es i&&zew es i)=true):zc2 es=true:=by
 unfold zc2;rw[Bool.and_eq_true,List.all_eq_true];exact⟨by simpa using hn,λi hi=>h i (List.mem_range.1 hi)⟩
theorem z8i{es:List En}:(∀i,i<es.length->zcw es i=true)->zbr En.path es=true:=by
 induction es with
 |nil=>intro _;rfl
 |cons x r ih=>
  intro h;unfold zbr;rw[Bool.and_eq_true];refine⟨?_,ih (λi hi=>?_)⟩
  ·cases r with
   |nil=>rfl
   |cons y t=>
    have:=h 1 (by simp)
    unfold zcw at this;simp[zmv]at this;exact this.2
  ·have h1:=h (i+1) (by simpa using hi)
   unfold zcw at h1 ⊢;rw[List.getElem?_cons_succ]at h1
   cases hq:r[i]? with
   |none=>rfl
   |some e=>
    rw[hq]at h1;simp only[Bool.and_eq_true]at h1 ⊢;refine⟨h1.1,?_⟩;have h2:=h1.2;unfold zmv at h2 ⊢
    cases i with
    |zero=>rfl
    |succ i=>simpa using h2
theorem z16{es:List En}(n:Nat)(h:∀i,i<n->zcw es i=true):∀i,i<(es.take n).length->zcw (es.take n) i=true:=by
 intro i hi;have hin:i<n:=by rw[List.length_take]at hi;omega
 have:=h i hin;unfold zcw at this ⊢;rw[List.getElem?_take_of_lt hin]
 cases hq:es[i]? with
 |none=>rfl
 |some e=>
  rw[hq]at this;simp only[Bool.and_eq_true]at this ⊢;refine⟨this.1,?_⟩;have h2:=this.2;unfold zmv at h2 ⊢;rw[List.getElem?_take_of_lt (by omega)]
  exact h2
theorem zvt(l:List UInt8):∀k,k<=l.length->upN l k=[]∨zbp (upN l k) l=true
 |0,_=>.inl rfl
 |k+1,h=>by
  rw[upN];split
  ·refine .inr ?_;have h2:=zuq (l.take k) (l.drop k) (by intro h3;have:=congrArg List.length h3;simp at this;omega)
   rw[List.take_append_drop]at h2;exact h2
  ·exact zvt l k (by omega)
theorem z4m(l:List UInt8)(h:upL l≠[]):zbp (upL l) l=true:=(zvt l l.length (Nat.le_refl _)).resolve_left h
theorem zxw{es:List En}{p:List UInt8}(i:Nat)(h:zcm En.path p es<=i):zcm En.path p (es.take i)=zcm En.path p es:=by
 induction es generalizing i with
 |nil=>simp[zcm]
 |cons x r ih=>
  cases i with
  |zero=>rw[List.take_zero];exact(Nat.le_zero.1 h).symm▸rfl
  |succ i=>
   rw[List.take_succ_cons,zcm,zcm];rw[zcm]at h;split
   ·rename_i hx;rw[if_pos hx]at h;rw[ih i (by omega)]
   ·rfl
theorem z4n{es:List En}{p:List UInt8}{i:Nat}(hi:i<es.length)(hl:zbp p es[i].path=true):zna (es.take i) p=zna es p:=by
 have hb:zcm En.path p es<=i:=by
  rcases Nat.lt_or_ge i (zcm En.path p es)with h|h
  ·have h1:=zom (f:=En.path) (p:=p) i hi h;rw[zv1 hl]at h1;cases h1
  ·exact h
 unfold zna zkt;rw[zxw i hb];rcases Nat.lt_or_ge (zcm En.path p es) i with h|h
 ·rw[List.getElem?_take_of_lt h]
 ·obtain h:zcm En.path p es=i:=by omega
  rw[h];have h1:(es.take i)[i]? =none:=List.getElem?_eq_none (by rw[List.length_take];omega)
  rw[h1,List.getElem?_eq_getElem hi]
  have hne:(es[i].path==p)=false:=by
   rw[beq_eq_false_iff_ne];intro h;rw[h,zok]at hl;cases hl
  simp[hne]
theorem z6j{es:List En}{i:Nat}(hi:i<es.length):zew es i=(upL es[i].path==[]||zna es (upL es[i].path)):=by
 unfold zew;rw[List.getElem?_eq_getElem hi];by_cases h:upL es[i].path=[]
 ·simp[h]
 ·rw[<-z4n hi (z4m _ h)]
end Go.Qz
namespace Go.Qz
open Go.Proofs
theorem zog(es:List En)(hb:∀e∈es,enSz e)(hn0:es.length<=140737488351232):C Fn59 [.ro (ES es)] []=some (.one (.ro (.bool (zc2 es))),[]):=by
 refine zad Tryz.func59 Cv59 rfl ?_;by_cases hn:es.length<=16
 ·have hn':¬(16:Int)<es.length:=by omega
  simp[hn']
  refine zam (λm e=> ∃i,m=es.length-i/\i<=es.length/\e.size=43/\e.get 0=.one (.ro (ES es))/\e.get 8=.one (.ro (ES es))/\e.get 9=.one (.ro (N es.length))/\e.get 10=.one (.ro (N i))/\(∀k,k<i->(zcw es k&&zew es k)=true))
   ?_ es.length _ ⟨0,rfl,Nat.zero_le _,by simp,by simp,by simp,by simp,by simp,by omega⟩
  rintro m e ⟨i,rfl,hi,hsz,h0,h8,h9,h10,hr⟩ ih;rcases Nat.lt_or_ge i es.length with hlt|hge
  ·have hwi:IntKind.i64.wrap ((i:Int)+1)=((i+1:Nat):Int):=zah (by omega)
   have hsz1:=hb _ (List.getElem_mem hlt);have hok:=zxt es[i] hsz1;have hbad:=zj3 hlt;have hff:zcw es i=(zho es[i]&&zmv es i es[i]):=by unfold zcw;rw[List.getElem?_eq_getElem hlt]
   have hpp:zew es i=(upL es[i].path==[]||zna (es.take i) (upL es[i].path)):=by unfold zew;rw[List.getElem?_eq_getElem hlt]
   cases he:zho es[i]with
   |false=>
    rw[he]at hok hff;have:=hbad (by rw[hff];rfl)
    simp[hsz,h0,h8,h9,h10,hlt,hok,this]
   |true=>
    have hpo:zfm es[i].path=true:=by unfold zho at he;rw[Bool.and_eq_true]at he;exact he.1
    have hasc:zbr En.path (es.take i)=true:=z8i (z16 i (λk hk=>by have:=hr k hk;rw[Bool.and_eq_true]at this;exact this.1))
    have hplace:=znb (es.take i) es[i].path (by rw[List.length_take];omega) hasc hpo hsz1.1
    rw[<-hpp]at hplace;simp only[ES,List.map_take]at hplace;rw[he,Bool.true_and]at hff;rw[he]at hok;have hil:i<=es.length:=by omega
    have next:(zcw es i&&zew es i)=true-> ∀k,k<i+1->(zcw es k&&zew es k)=true:=λh k hk=>by
     rcases Nat.lt_or_ge k i with h' |h'
     ·exact hr k h'
     ·obtain rfl:k=i:=by omega
      exact h
    rw[hff]at hbad next
    rcases Nat.eq_zero_or_pos i with h00|hpos
    ·subst h00;have ho:zmv es 0 es[0]=true:=rfl;rw[ho,Bool.true_and]at hbad next
     cases hp:zew es 0 with
     |false=>
      rw[hp]at hplace;have:=hbad hp;simp at hplace;simp[hsz,h0,h8,h9,h10,hlt,hok,hplace,this]
     |true=>
      rw[hp]at hplace;simp at hplace;simp[hsz,h0,h8,h9,h10,hlt,hok,hplace];exact ih _ _ (by omega) ⟨1,rfl,by omega,by simp[hsz],by simp[h0],by simp[h8],by simp[h9],by simp,next hp⟩
    ·obtain⟨j,hji⟩:∃j,j=i-1:=⟨_,rfl⟩;have hj:j<es.length:=by omega
     have ho:zmv es i es[i]=zbp es[j].path es[i].path:=by
      unfold zmv;have:(i==0)=false:=by rw[beq_eq_false_iff_ne];omega
      rw[this,<-hji];simp[hj]
     have hwj:IntKind.i64.wrap ((i:Int)-1)=(j:Int):=by rw[wrap64 (by omega) (by omega)];omega
     rw[ho]at hbad next
     clear hji
     cases hl:zbp es[j].path es[i].path with
     |false=>
      have:=hbad (by rw[hl];rfl)
      simp[hsz,h0,h8,h9,h10,hj,hlt,hpos,hok,hwj,hl,this]
     |true=>
      rw[hl,Bool.true_and]at hbad next
      cases hp:zew es i with
      |false=>
       rw[hp]at hplace;have:=hbad hp;simp[hsz,h0,h8,h9,h10,hj,hil,hlt,hpos,hok,hwj,hl,hplace,this]
      |true=>
       rw[hp]at hplace;simp[hsz,h0,h8,h9,h10,hj,hil,hlt,hpos,hok,hwj,hwi,hl,hplace];exact ih _ _ (by omega) ⟨i+1,rfl,by omega,by simp[hsz],by simp[h0],by simp[h8],by simp[h9],by simp,next hp⟩
  ·obtain rfl:i=es.length:=by omega
   have:=zmw hn hr;simp[hsz,h9,h10,this]
 ·have hn':(16:Int)<es.length:=by omega
  have:zc2 es=false:=by unfold zc2;simp[hn]
  simp[hn',this]
theorem zxx(es:List En)(hb:∀e∈es,enSz e)(hn:es.length<=1048576):C Fn63 [.ro (ES es)] []=some (.one (.ro (.bool (zc2 es))),[]):=by
 refine zad Tryz.func63 Cv63 rfl ?_;simp
 refine zam (λm e=> ∃i,m=es.length-i/\i<=es.length/\e.size=53/\e.get 0=.one (.ro (ES es))/\e.get 3=.one (.ro (N i))/\(∀k,k<i->zcw es k=true))
  ?_ es.length _ ⟨0,rfl,Nat.zero_le _,by simp,by simp,by simp,by omega⟩
 rintro m e ⟨i,rfl,hi,hsz,h0,h3,hr⟩ ih;rcases Nat.lt_or_ge i es.length with hlt|hge
 ·have hwi:IntKind.i64.wrap ((i:Int)+1)=((i+1:Nat):Int):=zah (by omega)
  have hsz1:=hb _ (List.getElem_mem hlt);have hok:=zxu es[i] hsz1;have hbad:=zj3 hlt;have hff:zcw es i=(zho es[i]&&zmv es i es[i]):=by unfold zcw;rw[List.getElem?_eq_getElem hlt]
  have next:zcw es i=true-> ∀k,k<i+1->zcw es k=true:=λh k hk=>by
   rcases Nat.lt_or_ge k i with h' |h'
   ·exact hr k h'
   ·obtain rfl:k=i:=by omega
    exact h
  cases he:zho es[i]with
  |false=>
   rw[he]at hok hff;have:=hbad (by rw[hff];rfl)
   simp[hsz,h0,h3,hlt,hok,this]
  |true=>
   rw[he]at hok;rw[he,Bool.true_and]at hff;rw[hff]at hbad next
   rcases Nat.eq_zero_or_pos i with h00|hpos
   ·subst h00;simp[hsz,h0,h3,hlt,hok];exact ih _ _ (by omega) ⟨1,rfl,by omega,by simp[hsz],by simp[h0],by simp,next rfl⟩
   ·obtain⟨j,hji⟩:∃j,j=i-1:=⟨_,rfl⟩;have hj:j<es.length:=by omega
    have ho:zmv es i es[i]=zbp es[j].path es[i].path:=by
     unfold zmv;have:(i==0)=false:=by rw[beq_eq_false_iff_ne];omega
     rw[this,<-hji];simp[hj]
    have hwj:IntKind.i64.wrap ((i:Int)-1)=(j:Int):=by rw[wrap64 (by omega) (by omega)];omega
    rw[ho]at hbad next
    clear hji
    cases hl:zbp es[j].path es[i].path with
    |false=>
     have:=hbad (by rw[hl];rfl)
     simp[hsz,h0,h3,hj,hlt,hpos,hok,hwj,hl,this]
    |true=>
     simp[hsz,h0,h3,hj,hlt,hpos,hok,hwj,hwi,hl];exact ih _ _ (by omega) ⟨i+1,rfl,by omega,by simp[hsz],by simp[h0],by simp,next hl⟩
 ·obtain rfl:i=es.length:=by omega
  simp[hsz,h0,h3];clear ih h3
  refine zam (λm e=> ∃i,m=es.length-i/\i<=es.length/\e.size=53/\e.get 0=.one (.ro (ES es))/\e.get 4=.one (.ro (N i))/\(∀k,k<i->zew es k=true))
   ?_ es.length _ ⟨0,rfl,Nat.zero_le _,by simp[hsz],by simp[h0],by simp,by omega⟩
  clear hsz h0;rintro m e ⟨i,rfl,hi,hsz,h0,h4,hq⟩ ih;rcases Nat.lt_or_ge i es.length with hlt|hge
  ·have hwi:IntKind.i64.wrap ((i:Int)+1)=((i+1:Nat):Int):=zah (by omega)
   have hsz1:=hb _ (List.getElem_mem hlt);have hup:=z6a es[i].path (by have:=hsz1.1;omega)
   have hdir:=z4l es (upL es[i].path) hn;rw[<-z6j hlt]at hdir;have hbad:=zj3 hlt;rw[hr i hlt,Bool.true_and]at hbad;generalize upL es[i].path=u at *
   cases hp:zew es i with
   |false=>
    rw[hp]at hdir;have:=hbad hp;simp[hsz,h0,h4,hlt,hup,hdir,this]
   |true=>
    rw[hp]at hdir;simp[hsz,h0,h4,hlt,hup,hdir,hwi];refine ih _ _ (by omega) ⟨i+1,rfl,by omega,by simp[hsz],by simp[h0],by simp,λk hk=>?_⟩
    rcases Nat.lt_or_ge k i with h' |h'
    ·exact hq k h'
    ·obtain rfl:k=i:=by omega
     exact hp
  ·obtain rfl:i=es.length:=by omega
   by_cases hn16:es.length<=16
   ·have:=zmw hn16 (λk hk=>by rw[hr k hk,hq k hk];rfl)
    simp[hsz,h0,h4,hn16,this]
   ·have:zc2 es=false:=by unfold zc2;simp[hn16]
    simp[hsz,h0,h4,hn16,this]
end Go.Qz
namespace Go.Qz
open Go.Proofs
abbrev ydl:List UInt8:=[108,105,110,107]
abbrev wDir:List UInt8:=[100,105,114]
abbrev ydm:List UInt8:=[102,105,108,101]
end Go.Qz
namespace Go.Qz
open Go.Proofs
def zpm(e:En):List UInt8:=
 if e.kind==1 then wDir++[32]++Lib.decDigits e.mode.toNat++[32]++e.path++[10]
 else if e.kind==3 then ydl++[32]++e.path++[32]++e.text++[10]
 else ydm++[32]++Lib.decDigits e.mode.toNat++[32]++e.path++[32]++Lib.decDigits e.text.length++[10]++e.text++[10]
def zbx:List En->List UInt8
 | []=>[]
 |e::r=>zpm e++zbx r
def zr4(e:En):Prop:=0<=e.mode/\e.mode<=7
theorem dec7(n:Nat)(h:n<=9999999):(Lib.decDigits n).length<=7:=zms 6 n (by omega)
theorem zr5(e:En)(h:enSz e)(hm:zr4 e):(zpm e).length<=2097252:=by
 have h1:=h.1;have h2:=h.2;have h3:=dec7 e.mode.toNat (by have:=hm.2;omega)
 have h4:=dec7 e.text.length (by omega)
 unfold zpm;split
 ·simp;omega
 ·split
  ·simp;omega
  ·simp;omega
theorem z17(e:En)(h:enSz e)(hm:zr4 e):C ybe [.ro (ED e)] []=some (.one (.ro (T (zpm e))),[]):=by
 refine zad Tryz.func131 ybg rfl ?_;have h1:=h.1;have h2:=h.2;have d1:=z10 e.mode hm.1 (by have:=hm.2;omega)
 have d2:=zvn e.text.length (by omega)
 have h3:=dec7 e.mode.toNat (by have:=hm.2;omega)
 have h4:=dec7 e.text.length (by omega)
 unfold zpm;generalize Lib.decDigits e.mode.toNat=dm at *;generalize Lib.decDigits e.text.length=dt at *
 cases k1:e.kind==1 with
 |true=>
  have z0:4+dm.length<=zag:=by unfold zag;omega
  have z1:dm.length+1+1+1+1+1<=zag:=by unfold zag;omega
  have z2:dm.length+1+1+1+1+1+e.path.length<=zag:=by unfold zag;omega
  have z3:dm.length+(e.path.length+1)+1+1+1+1+1<=zag:=by unfold zag;omega
  simp[k1,d1,z0,z1,z2,z3] --$a
 |false=>
  cases k3:e.kind==3 with
  |true=>
   have z0:5+e.path.length<=zag:=by unfold zag;omega
   have z1:e.path.length+1+1+1+1+1+1<=zag:=by unfold zag;omega
   have z2:e.path.length+1+1+1+1+1+1+e.text.length<=zag:=by unfold zag;omega
   have z3:e.path.length+(e.text.length+1)+1+1+1+1+1+1<=zag:=by unfold zag;omega
   simp[k1,k3,z0,z1,z2,z3] --$b
  |false=>
   have z0:5+dm.length<=zag:=by unfold zag;omega
   have z1:dm.length+1+1+1+1+1+1<=zag:=by unfold zag;omega
   have z2:dm.length+1+1+1+1+1+1+e.path.length<=zag:=by unfold zag;omega
   have z3:dm.length+(e.path.length+1)+1+1+1+1+1+1<=zag:=by unfold zag;omega
   have z4:dm.length+(e.path.length+1+1)+1+1+1+1+1+dt.length<=zag:=by unfold zag;omega
   have z5:dm.length+(e.path.length+(dt.length+1)+1)+1+1+1+1+1+1<=zag:=by unfold zag;omega
   have z6:dm.length+(e.path.length+(dt.length+1+1)+1)+1+1+1+1+1+e.text.length<=zag:=by unfold zag;omega
   have z7:dm.length+(e.path.length+(dt.length+(e.text.length+1)+1)+1)+1+1+1+1+1+1<=zag:=by unfold zag;omega
   simp[k1,k3,d1,d2,z0,z1,z2,z3,z4,z5,z6,z7] --$c
theorem zoh:∀(a b:List En),zbx (a++b)=zbx a++zbx b
 | [],b=>rfl
 |e::r,b=>by rw[List.cons_append,zbx,zbx,zoh r b,List.append_assoc]
theorem zd6:∀(es:List En),(∀e∈es,enSz e/\zr4 e)->(zbx es).length<=es.length*2097252
 | [],_=>by simp[zbx]
 |e::r,h=>by
  have h1:=zr5 e (h e (by simp)).1 (h e (by simp)).2
  have h2:=zd6 r (λx hx=>h x (by simp[hx]))
  simp only[zbx,List.length_append,List.length_cons];omega
theorem zxy(es:List En)(h:∀e∈es,enSz e/\zr4 e)(hn:es.length<=1000):C Fn90 [.ro (ES es)] []=some (.one (.ro (T (zbx es))),[]):=by
 refine zad Tryz.func90 Cv90 rfl ?_;simp;refine zam (λm e=> ∃i,m=es.length-i/\i<=es.length/\e.size=19/\e.get 0=.one (.ro (ES es))/\e.get 3=.one (.ro (T (zbx (es.take i))))/\e.get 4=.one (.ro (N i))) ?_ es.length _ ⟨0,rfl,Nat.zero_le _,by simp,by simp,by simp[zbx],by simp⟩
 rintro m e ⟨i,rfl,hi,hsz,h0,h3,h4⟩ ih;rcases Nat.lt_or_ge i es.length with hlt|hge
 ·have hwi:IntKind.i64.wrap ((i:Int)+1)=((i+1:Nat):Int):=zah (by omega)
  have he:=h _ (List.getElem_mem hlt);have hl:=z17 es[i] he.1 he.2;have h1:=zr5 es[i] he.1 he.2;have h2:=zd6 (es.take i) (λx hx=>h x (List.mem_of_mem_take hx))
  have h5:(es.take i).length*2097252<=1000*2097252:=Nat.mul_le_mul_right _ (by rw[List.length_take];omega)
  have ht:es.take (i+1)=es.take i++[es[i]]:=by rw[List.take_succ_eq_append_getElem hlt]
  have hnx:zbx (es.take (i+1))=zbx (es.take i)++zpm es[i]:=by rw[ht,zoh];simp[zbx]
  generalize zbx (es.take i)=p at *;generalize zpm es[i]=q at *;have hm:p.length+q.length<=zag:=by unfold zag;omega
  simp[hsz,h0,h3,h4,hlt,hl,hm,hwi];exact ih _ _ (by omega) ⟨i+1,rfl,by omega,by simp[hsz],by simp[h0],by simp[hnx],by simp⟩
 ·obtain rfl:i=es.length:=by omega
  rw[List.take_length]at h3;simp[hsz,h0,h3,h4]
end Go.Qz
namespace Go.Qz
open Go.Proofs
end Go.Qz
namespace Go.Qz
open Go.Proofs
end Go.Qz
namespace Go.Qz
open Go.Proofs
end Go.Qz
namespace Go.Qz
open Go.Proofs
theorem zbo{es:List En}(h:zc2 es=true):es.length<=16/\ ∀e∈es,zho e=true:=by
 unfold zc2 at h;rw[Bool.and_eq_true,List.all_eq_true]at h;refine⟨by simpa using h.1,λe he=>?_⟩
 obtain⟨i,hi,rfl⟩:=List.mem_iff_getElem.1 he;have h1:=h.2 i (List.mem_range.2 hi);rw[Bool.and_eq_true]at h1;have h2:=h1.1;unfold zcw at h2;rw[List.getElem?_eq_getElem hi]at h2;simp only[Bool.and_eq_true]at h2;exact h2.1
theorem zd7{e:En}(h:zho e=true):zr4 e:=by
 unfold zho at h;simp only[Bool.and_eq_true,decide_eq_true_eq]at h;exact⟨h.2.1,h.2.2.1⟩
end Go.Qz
