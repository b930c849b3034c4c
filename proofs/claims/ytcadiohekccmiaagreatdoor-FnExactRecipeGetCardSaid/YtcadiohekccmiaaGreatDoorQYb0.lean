import Derived.Test.YtcadiohekccmiaaGreatDoorQx0
import Derived.Test.YtcadiohekccmiaaGreatDoorQYa0
import Derived.Test.YtcadiohekccmiaaGreatDoorQy0
namespace Go.Qz
open Go.Proofs
abbrev za2:=List (List UInt8)
abbrev SS(xs:za2):D:=.sl 1 (xs.map T)
abbrev I(n:Int):D:=.int .i64 n
abbrev N(n:Nat):D:=.int .i64 (n:Int)
@[simp] theorem ylk(xs:za2):flats (xs.map T)=true:=by
  induction xs with
  |nil=>rfl
  |cons a r ih=>simp[flats,D.flat,ih]
end Go.Qz
namespace Go.Qz
open Go.Proofs
def zcy(b:UInt8):Bool:=decide (32<=b.toNat)&&decide (b.toNat<=126)
def zze(l:List UInt8):Bool:=decide (l.length<=80)&&l.all zcy
def inI(n a b:Int):Bool:=decide (a<=n)&&decide (n<=b)
theorem zme(b:UInt8):C ykb [.ro (.int .u8 b.toNat)] []=some (.one (.ro (.bool (zcy b))),[]):=by
 refine zae Tryz.func177 ykd rfl ?_;unfold zcy;by_cases h:32<=b.toNat<;>simp[h]
theorem zlm(n a b:Int):C yjj [.ro (I n),.ro (I a),.ro (I b)] []=some (.one (.ro (.bool (inI n a b))),[]):=by
 refine zae Tryz.func158 yjl rfl ?_;unfold inI;by_cases h:a<=n<;>simp[h]
theorem z8y(b:UInt8):inI b.toNat 32 126=zcy b:=by
 unfold inI zcy;congr 1
 ·simp
 ·simp
theorem zua(l:List UInt8):C yi0 [.ro (T l)] []=some (.one (.ro (.bool (zze l))),[]):=by
 refine zae Tryz.func150 yi2 rfl ?_;unfold zze;by_cases hs:l.length<=80
 ·have hs':¬(80:Int)<l.length:=by omega
  simp[hs']
  refine zai (λm e=> ∃i,m=l.length-i/\i<=l.length/\e.size=18/\e.get 0=.one (.ro (T l))/\e.get 8=.one (.ro (N l.length))/\e.get 9=.one (.ro (N i))/\
   (l.drop i).all zcy=l.all zcy) ?_ l.length _ ⟨0,rfl,Nat.zero_le _,by simp,by simp,by simp,by simp,rfl⟩
  rintro m e ⟨i,rfl,hi,hsz,h0,h8,h9,hr⟩ ih;rcases Nat.lt_or_ge i l.length with hlt|hge
  ·have hd:l.drop i=l[i]::l.drop (i+1):=List.drop_eq_getElem_cons hlt;have hwi:IntKind.i64.wrap ((i:Int)+1)=((i+1:Nat):Int):=zad (by omega)
   rw[hd,List.all_cons]at hr
   cases hp:zcy l[i]with
   |false=>
    rw[hp]at hr;simp[zme,hsz,h0,h8,h9,hlt,hp,hs,<-hr]
   |true=>
    rw[hp,Bool.true_and]at hr;simp[zme,hsz,h0,h8,h9,hlt,hwi,hp];exact ih _ _ (by omega) ⟨i+1,rfl,by omega,by simp[hsz],by simp[h0],by simp[h8],by simp,hr⟩
  ·obtain rfl:i=l.length:=by omega
   rw[List.drop_length,List.all_nil]at hr;simp[hsz,h0,h8,h9,hs,<-hr]
 ·have hs':80<l.length:=by omega
  simp[hs',hs]
end Go.Qz
namespace Go.Qz
open Go.Proofs
def brk(b:UInt8):List UInt8->Option (List UInt8×List UInt8)
 | []=>none
 |c::r=>if c==b then some ([],r)else(brk b r).map λp=>(c::p.1,p.2)
theorem zxl{b:UInt8}:∀{d n r:List UInt8},brk b d=some (n,r)->d=n++b::r
 | [],n,r,h=>by cases h
 |c::d,n,r,h=>by
  unfold brk at h;split at h
  ·rename_i hc;cases h;have:c=b:=by simpa using hc
   rw[this];rfl
  ·obtain⟨p,hp,he⟩:=Option.map_eq_some_iff.1 h;cases he;rw[zxl (n:=p.1) (r:=p.2) hp];rfl
theorem zzf{b:UInt8}:∀{n:List UInt8} (r:List UInt8),(∀c∈n,c≠b)->brk b (n++b::r)=some (n,r)
 | [],r,_=>by simp[brk]
 |c::n,r,h=>by
  have hc:(c==b)=false:=by have:=h c (by simp);simpa using this
  rw[List.cons_append,brk,hc,zzf r (λb hb=>h b (by simp[hb]))]
  rfl
theorem zub(b:UInt8):∀d:List UInt8,(brk b d=none/\Lib.index d [b]= -1)∨ ∃n r,brk b d=some (n,r)/\Lib.index d [b]=n.length
 | []=>.inl ⟨rfl,by simp[Lib.index]⟩
 |c::r=>by
  have hb:(b==c)=(c==b):=Bool.beq_comm;unfold brk
  cases hc:c==b with
  |true=>
   refine .inr ⟨[],r,rfl,?_⟩;rw[hc]at hb;simp[Lib.index,List.isPrefixOf,hb]
  |false=>
   rw[hc]at hb
   have h1:Lib.index (c::r) [b]=if Lib.index r [b]== -1 then-1 else Lib.index r [b]+1:=by
    simp[Lib.index,List.isPrefixOf,hb]
   rcases zub b r with⟨x1,x2⟩|⟨n,q,x1,x2⟩
   ·refine .inl ⟨by rw[x1];rfl,by rw[h1,x2];rfl⟩
   ·refine .inr ⟨c::n,q,by rw[x1];rfl,?_⟩
    rw[h1,x2];have:((n.length:Int)== -1)=false:=by rw[beq_eq_false_iff_ne];omega
    rw[this];simp
theorem yb9(b:UInt8)(d:List UInt8):Lib.cut d [b]=(match brk b d with|some p=>(p.1,p.2,true)|none=>(d,[],false)):=by
 rcases zub b d with⟨x1,x2⟩|⟨n,r,x1,x2⟩
 ·rw[x1];simp[Lib.cut,x2]
 ·have ha:=zxl x1;rw[x1];simp only[Lib.cut,x2,if_pos (show (0:Int)<=n.length by omega),Int.toNat_natCast,List.length_singleton]
  rw[ha];simp
def cutP(b:UInt8):Nat->List UInt8->List UInt8->za2
 |_,pre,[]=>[pre]
 |0,pre,c::r=>[pre++c::r]
 |k+1,pre,c::r=>if c==b then pre::cutP b k [] r else cutP b (k+1) (pre++[c]) r
theorem z5k(b:UInt8)(pre s:List UInt8):cutP b 0 pre s=[pre++s]:=by cases s<;>simp[cutP]
theorem zzg(b:UInt8)(k:Nat):∀(s pre:List UInt8),cutP b (k+1) pre s=(match brk b s with|some p=>(pre++p.1)::cutP b k [] p.2|none=>[pre++s])
 | [],pre=>by simp[cutP,brk]
 |c::r,pre=>by
  rw[cutP,brk];split
  ·simp
  ·rw[zzg b k r]
   cases h:brk b r with
   |none=>simp
   |some p=>simp
end Go.Qz
namespace Go.Qz
open Go.Proofs
theorem zzh(s:List UInt8)(b:UInt8)(most:Nat)(m0:Int)(hm0:m0=most)(hs:s.length<=1048576)(hm:most<=2000000):
 C Fn67 [.ro (T s),.ro (.int .u8 b.toNat),.ro (.int .i64 m0)] []=some (.one (.own (SS (cutP b most [] s))),[]):=by
 subst hm0;refine zae Tryz.func67 Cv67 rfl ?_;simp
 refine zai (λm e=> ∃(out:za2) (pre rest:List UInt8) (i j:Nat),m=rest.length/\s.drop i=pre++rest/\j=i+pre.length/\j+rest.length=s.length/\out.length<=most/\out.length<=s.length/\out.length<=i/\e.size=43/\e.get 0=.one (.ro (T s))/\e.get 1=.one (.ro (.int .u8 b.toNat))/\e.get 2=.one (.ro (N most))/\e.get 7=.one (.own (SS out))/\
  e.get 8=.one (.ro (N i))/\e.get 9=.one (.ro (N j))/\out++cutP b (most-out.length) pre rest=cutP b most [] s)
  ?_ s.length _ ⟨[],[],s,0,0,rfl,rfl,rfl,by simp,by simp,by simp,by simp,by simp,by simp,by simp,by simp,by simp,by simp,by simp,by simp⟩
 rintro m e ⟨out,pre,rest,i,j,rfl,hd,hj,hjl,ho,hos,hoi,hsz,h0,h1,h2,h7,h8,h9,hr⟩ ih;have ha:out.length+1<=zag:=by simp[zag];omega
 have hil:i<=s.length:=by omega
 have hil':(i:Int)<=s.length:=by omega
 have fin:List.drop i (List.take s.length s)=pre++rest:=by rw[List.take_length];exact hd
 cases rest with
 |nil=>
  have hlt:¬j<s.length:=by simp at hjl;omega
  rw[cutP]at hr;simp at fin;simp[hsz,h0,h2,h7,h8,h9,hlt,ha,hil',hd,<-hr]
 |cons c r=>
  have hlt:j<s.length:=by simp at hjl;omega
  by_cases hmo:out.length<most
  ·have hget:s[j]=c:=by
    have h3:(s.drop i)[pre.length]? =some c:=by rw[hd];simp
    rw[List.getElem?_drop,<-hj,List.getElem?_eq_getElem hlt]at h3;exact Option.some.inj h3
   have hsl:List.drop i (List.take j s)=pre:=by
    rw[List.drop_take,hd,hj,Nat.add_sub_cancel_left,List.take_left]
   have hij:i<=j:=by omega
   have hjs:j<=s.length:=by omega
   have hij':(i:Int)<=j:=by omega
   have hwj:IntKind.i64.wrap ((j:Int)+1)=((j+1:Nat):Int):=zad (by omega)
   have hsd:s.drop (j+1)=r:=by
    have h3:(s.drop i).drop (pre.length+1)=r:=by rw[hd];simp
    rw[List.drop_drop]at h3;rw[<-h3];congr 1;omega
   have hk:most-out.length=(most-out.length-1)+1:=by omega
   rw[hk,cutP]at hr
   cases hcb:c==b with
   |true=>
    obtain rfl:c=b:=by simpa using hcb
    rw[if_pos hcb]at hr;simp[hsz,h0,h1,h2,h7,h8,h9,hlt,ha,hmo,hget,hij',hjs,hwj,hsl]
    exact ih _ _ (by simp) ⟨out++[pre],[],r,j+1,j+1,rfl,by simp[hsd],by simp,by simp at hjl ⊢;omega,by simp;omega,by simp;omega,by simp;omega,by simp[hsz],by simp[h0],by simp[h1],by simp[h2],by simp,by simp,by simp,by
     rw[<-hr];simp[show most-(out.length+1)=most-out.length-1 by omega]⟩
   |false=>
    have hne:¬c=b:=by simpa using hcb
    have hne':(c.toNat==b.toNat)=false:=by rw[beq_eq_false_iff_ne];exact λh=>hne (UInt8.toNat_inj.1 h)
    rw[if_neg (by simp[hcb])]at hr
    simp[hsz,h0,h1,h2,h7,h9,hlt,hmo,hget,hwj,hne'];refine ih r.length _ (by simp) ⟨out,pre++[c],r,i,j+1,rfl,by simp[hd],by simp;omega,by simp at hjl ⊢;omega,ho,hos,hoi,by simp[hsz],by simp[h0],by simp[h1],by simp[h2],by simp[h7],by simp[h8],by simp,?_⟩
    rw[<-hr,<-hk]
  ·have hmo':most-out.length=0:=by omega
   rw[hmo',cutP]at hr;simp[hsz,h0,h2,h7,h8,h9,hlt,ha,hmo,hil',hd,<-hr]
end Go.Qz
namespace Go.Qz
open Go.Proofs
def figB(b:UInt8):Bool:=decide (48<=b.toNat)&&decide (b.toNat<=57)
def goN:Nat->List UInt8->Option Nat
 |n,[]=>some n
 |n,c::r=>if figB c then goN (n*10+(c.toNat-48)) r else none
def zml(l:List UInt8):Bool:=match l with
 |c::_::_=>c==48
 |_=>false
def numS(l:List UInt8):Int:=match goN 0 l with
 |some n=>if decide (l.length<=6)&& !l.isEmpty&& !zml l then n else-1
 |none=> -1
def numI(l:List UInt8)(most:Nat):Nat×Bool:=if l.isEmpty||decide (9<l.length)||zml l then(0,false)else match goN 0 l with
 |some n=>if most<n then(0,false)else(n,true)
 |none=>(0,false)
def numV(o:Option Nat)(most:Nat):Nat×Bool:=match o with
 |some n=>if most<n then(0,false)else(n,true)
 |none=>(0,false)
theorem z5l{c:UInt8}(h:figB c=true):IntKind.u8.wrap ((c.toNat:Int)-48)=((c.toNat-48:Nat):Int)/\ ¬c.toNat<48/\ ¬57<c.toNat/\c.toNat-48<=9:=by
 unfold figB at h;simp only[Bool.and_eq_true,decide_eq_true_eq]at h;refine⟨?_,by omega,by omega,by omega⟩
 show ((c.toNat:Int)-48) % 256=_;omega
theorem z5m{c:UInt8}(h:figB c=false):c.toNat<48∨(¬c.toNat<48/\57<c.toNat):=by
 unfold figB at h;simp only[Bool.and_eq_false_iff,decide_eq_false_iff_not]at h;omega
theorem zoh(l:List UInt8)(most:Nat)(hlen:l.length<=9)(_:most<=1000000)(e:Env)(hsz:e.size=53)(h0:e.get 0=.one (.ro (T l)))(h1:e.get 1=.one (.ro (N most)))(h6:e.get 6=.one (.ro (N 0)))(h26:e.get 26=.one (.ro (N l.length)))(h27:e.get 27=.one (.ro (N 0))):
 Run cx q174l0.loop e [Fr.blk 0,Fr.seq q174c4,Fr.fn [(ResultVar.tmp 4,3),(ResultVar.tmp 5,4)] []]=some (.tup [.ro (N (numV (goN 0 l) most).1),.ro (.bool (numV (goN 0 l) most).2)],[]):=by
 refine zai (λm e=> ∃i n,m=l.length-i/\i<=l.length/\n<10^i/\e.size=53/\e.get 0=.one (.ro (T l))/\e.get 1=.one (.ro (N most))/\e.get 6=.one (.ro (N n))/\e.get 26=.one (.ro (N l.length))/\e.get 27=.one (.ro (N i))/\goN n (l.drop i)=goN 0 l)
  ?_ l.length _ ⟨0,0,rfl,Nat.zero_le _,by simp,hsz,h0,h1,h6,h26,h27,rfl⟩
 clear hsz h0 h1 h6 h26 h27;rintro m e ⟨i,n,rfl,hi,hn,hsz,h0,h1,h6,h26,h27,hr⟩ ih;rcases Nat.lt_or_ge i l.length with hlt|hge
 ·have hp:10^i<=10^8:=Nat.pow_le_pow_right (by omega) (by omega)
  have hp2:10^(i+1)=10^i*10:=Nat.pow_succ _ _;have hwi:IntKind.i64.wrap ((i:Int)+1)=((i+1:Nat):Int):=zad (by omega)
  have hd:l.drop i=l[i]::l.drop (i+1):=List.drop_eq_getElem_cons hlt;rw[hd,goN]at hr;obtain⟨c,hc⟩:∃c,l[i]=c:=⟨_,rfl⟩;rw[hc]at hr
  cases hf:figB c with
  |false=>
   rw[hf]at hr;simp only[Bool.false_eq_true,if_false]at hr;rcases z5m hf with h|⟨h,h'⟩
   ·simp[hsz,h0,h26,h27,hlt,hc,h,<-hr,numV]
   ·simp[hsz,h0,h26,h27,hlt,hc,h,h',<-hr,numV]
  |true=>
   rw[hf]at hr;simp only[if_true]at hr;obtain⟨g1,g2,g3,g4⟩:=z5l hf;generalize c.toNat-48=d at *;have hw1:IntKind.i64.wrap ((n:Int)*10)=((n*10:Nat):Int):=by rw[wrap64 (by omega) (by omega)];omega
   have hw2:IntKind.i64.wrap (d:Int)=d:=wrap64 (by omega) (by omega)
   have hw3:IntKind.i64.wrap (((n*10:Nat):Int)+(d:Int))=((n*10+d:Nat):Int):=by rw[wrap64 (by omega) (by omega)];omega
   have hlt2:n*10+d<10^(i+1):=by omega
   generalize n*10+d=q at *;generalize n*10=p at *;simp[hsz,h0,h6,h26,h27,hlt,hc,g1,g2,g3,hwi,hw1,hw2,hw3];exact ih _ _ (by omega) ⟨i+1,q,rfl,by omega,hlt2,by simp[hsz],by simp[h0],by simp[h1],by simp,by simp[h26],by simp,hr⟩
 ·obtain rfl:i=l.length:=by omega
  rw[List.drop_length,goN]at hr;by_cases hmn:most<n
  ·simp[hsz,h1,h6,h26,h27,hmn,<-hr,numV]
  ·simp[hsz,h1,h6,h26,h27,hmn,<-hr,numV]
theorem z5n(l:List UInt8)(most:Nat)(m0:Int)(hm0:m0=most)(hl:l.length<=1048576)(hm:most<=1000000):
 C yj2 [.ro (T l),.ro (.int .i64 m0)] []=some (.tup [.ro (N (numI l most).1),.ro (.bool (numI l most).2)],[]):=by
 subst hm0;refine zae Tryz.func174 yj4 rfl ?_;unfold numI
 cases l with
 |nil=>simp
 |cons c0 r0=>
  by_cases h9:9<r0.length+1
  ·have h9':(9:Int)<(r0.length:Int)+1:=by omega
   simp[h9,h9']
  ·have h9':¬(9:Int)<(r0.length:Int)+1:=by omega
   have hlead:zml (c0::r0)=(decide ((1:Int)<(r0.length:Int)+1)&&c0==48):=by
    cases r0 with
    |nil=>simp[zml]
    |cons b q=>simp[zml];omega
   cases hl0:zml (c0::r0)with
   |true=>
    rw[hl0]at hlead
    have h1:(1:Int)<(r0.length:Int)+1:=by
     by_cases h:(1:Int)<(r0.length:Int)+1
     ·exact h
     ·simp[h]at hlead
    have h2:(c0==48)=true:=by simpa [h1]using hlead.symm
    simp[h9,h9',h1,h2]
   |false=>
    rw[hl0]at hlead
    have hg:(if (List.isEmpty (c0::r0)||decide (9<List.length (c0::r0))||false)=true then((0:Nat),false)else match goN 0 (c0::r0)with
     |some n=>if most<n then(0,false)else(n,true)
     |none=>(0,false))=numV (goN 0 (c0::r0)) most:=by
     rw[if_neg (by simp;omega)]
     rfl
    rw[hg];have hlen:(c0::r0).length<=9:=by simp;omega
    by_cases h1:(1:Int)<(r0.length:Int)+1
    ·have h2:(c0==48)=false:=by simpa [h1]using hlead.symm
     simp[h9',h1,h2];exact zoh (c0::r0) most hlen hm _ (by simp) (by simp) (by simp) (by simp) (by simp) (by simp)
    ·simp[h9',h1];exact zoh (c0::r0) most hlen hm _ (by simp) (by simp) (by simp) (by simp) (by simp) (by simp)
end Go.Qz
namespace Go.Qz
open Go.Proofs
theorem z5o{l:List UInt8}(h:6<l.length):numS l= -1:=by
 unfold numS;split
 ·rw[show decide (l.length<=6)=false by simp;omega]
  simp
 ·rfl
theorem z8z(l:List UInt8)(hl:l.length<=1048576):C ykr [.ro (T l)] []=some (.one (.ro (I (numS l))),[]):=by
 refine zae Tryz.func184 ykt rfl ?_;simp
 refine zai (λm e=> ∃i n,m=l.length-i/\i<=l.length/\i<=6/\n<10^i/\e.size=47/\e.get 0=.one (.ro (T l))/\e.get 3=.one (.ro (N n))/\e.get 4=.one (.ro (N i))/\goN n (l.drop i)=goN 0 l)
  ?_ l.length _ ⟨0,0,rfl,Nat.zero_le _,by omega,by simp,by simp,by simp,by simp,by simp,rfl⟩
 rintro m e ⟨i,n,rfl,hi,hi6,hn,hsz,h0,h3,h4,hr⟩ ih;rcases Nat.lt_or_ge i l.length with hlt|hge
 ·have hp:10^i<=10^8:=Nat.pow_le_pow_right (by omega) (by omega)
  have hp2:10^(i+1)=10^i*10:=Nat.pow_succ _ _;have hwi:IntKind.i64.wrap ((i:Int)+1)=((i+1:Nat):Int):=zad (by omega)
  have hd:l.drop i=l[i]::l.drop (i+1):=List.drop_eq_getElem_cons hlt;rw[hd,goN]at hr;obtain⟨c,hc⟩:∃c,l[i]=c:=⟨_,rfl⟩;rw[hc]at hr
  cases hf:figB c with
  |false=>
   rw[hf]at hr;simp only[Bool.false_eq_true,if_false]at hr;have hnum:numS l= -1:=by unfold numS;rw[<-hr]
   rcases z5m hf with h|⟨h,h'⟩
   ·simp[hsz,h0,h4,hlt,hc,h,hnum]
   ·simp[hsz,h0,h4,hlt,hc,h,h',hnum]
  |true=>
   rw[hf]at hr;simp only[if_true]at hr;obtain⟨g1,g2,g3,g4⟩:=z5l hf;by_cases h6:6<=i
   ·have hnum:=z5o (l:=l) (by omega)
    have h6':(6:Int)<=i:=by omega
    simp[hsz,h0,h4,hlt,hc,g2,g3,h6',hnum]
   ·have h6':¬(6:Int)<=i:=by omega
    generalize c.toNat-48=d at *;have hw1:IntKind.i64.wrap ((n:Int)*10)=((n*10:Nat):Int):=by rw[wrap64 (by omega) (by omega)];omega
    have hw2:IntKind.i64.wrap (d:Int)=d:=wrap64 (by omega) (by omega)
    have hw3:IntKind.i64.wrap (((n*10:Nat):Int)+(d:Int))=((n*10+d:Nat):Int):=by rw[wrap64 (by omega) (by omega)];omega
    have hlt2:n*10+d<10^(i+1):=by omega
    generalize n*10+d=q at *;generalize n*10=p at *;simp[hsz,h0,h3,h4,hlt,hc,g1,g2,g3,h6',hwi,hw1,hw2,hw3];exact ih _ _ (by omega) ⟨i+1,q,rfl,by omega,by omega,hlt2,by simp[hsz],by simp[h0],by simp,by simp,hr⟩
 ·obtain rfl:i=l.length:=by omega
  rw[List.drop_length,goN]at hr;unfold numS;rw[<-hr];clear ih hr
  match l,hi6,hsz,h0,h3,h4 with
  | [],_,hsz,h0,h3,h4=>simp[hsz,h0,h4]
  | [c],_,hsz,h0,h3,h4=>simp[hsz,h0,h3,h4,zml]
  |c::b::r,hi6,hsz,h0,h3,h4=>
   simp only[List.length_cons]at hi6;have h1:(1:Int)<(r.length:Int)+1+1:=by omega
   have hne:((r.length:Int)+1+1==0)=false:=by rw[beq_eq_false_iff_ne];omega
   have h6:r.length+1+1<=6:=by omega
   cases hc:c==48 with
   |true=>simp[hsz,h0,h4,zml,h1,hne,hc,h6]
   |false=>simp[hsz,h0,h3,h4,zml,h1,hne,hc,h6]
end Go.Qz
namespace Go.Qz
open Go.Proofs
def idxL(n:List UInt8):za2->Nat->Int
 | [],_=> -1
 |x::r,i=>if n==x then(i:Int)else idxL n r (i+1)
theorem z80(n:List UInt8):∀(xs:za2) (i:Nat),decide (idxL n xs i≥0)=xs.contains n:=by
 intro xs
 induction xs with
 |nil=>intro i;rfl
 |cons x r ih=>
  intro i;rw[idxL,List.contains_cons]
  cases h:n==x with
  |true=>simp
  |false=>simp[ih]
theorem z81(xs:za2)(n:List UInt8)(hn:xs.length<=140737488351232):C yke [.ro (SS xs),.ro (T n)] []=some (.one (.ro (I (idxL n xs 0))),[]):=by
 refine zae Tryz.func178 ykg rfl ?_;simp
 refine zai (λm e=> ∃i,m=xs.length-i/\i<=xs.length/\e.size=19/\e.get 0=.one (.ro (SS xs))/\e.get 1=.one (.ro (T n))/\e.get 7=.one (.ro (N xs.length))/\e.get 8=.one (.ro (N i))/\
  idxL n (xs.drop i) i=idxL n xs 0) ?_ xs.length _ ⟨0,rfl,Nat.zero_le _,by simp,by simp,by simp,by simp,by simp,rfl⟩
 rintro m e ⟨i,rfl,hi,hsz,h0,h1,h7,h8,hr⟩ ih;rcases Nat.lt_or_ge i xs.length with hlt|hge
 ·have hd:xs.drop i=xs[i]::xs.drop (i+1):=List.drop_eq_getElem_cons hlt;have hwi:IntKind.i64.wrap ((i:Int)+1)=((i+1:Nat):Int):=zad (by omega)
  rw[hd,idxL]at hr
  cases hp:n==xs[i]with
  |true=>
   rw[hp,if_pos rfl]at hr;simp[hsz,h0,h1,h7,h8,hlt,hp,<-hr]
  |false=>
   rw[hp]at hr;simp only[Bool.false_eq_true,if_false]at hr;simp[hsz,h0,h1,h7,h8,hlt,hwi,hp];exact ih _ _ (by omega) ⟨i+1,rfl,by omega,by simp[hsz],by simp[h0],by simp[h1],by simp[h7],by simp,hr⟩
 ·obtain rfl:i=xs.length:=by omega
  rw[List.drop_length,idxL]at hr;simp[hsz,h7,h8,<-hr]
theorem zfg(xs:za2)(n:List UInt8)(hn:xs.length<=140737488351232):C yi4 [.ro (SS xs),.ro (T n)] []=some (.one (.ro (.bool (xs.contains n))),[]):=by
 refine zae Tryz.func152 yi6 rfl ?_;have h:=z81 xs n hn;have h2:=z80 n xs 0;generalize idxL n xs 0=q at *;rw[<-h2];simp[h]
end Go.Qz
namespace Go.Qz
open Go.Proofs
def zbr(b:UInt8):Bool:=(decide (97<=b.toNat)&&decide (b.toNat<=122))||(decide (48<=b.toNat)&&decide (b.toNat<=57))||b==46||b==95||b==45
def zia(l:List UInt8):Bool:=decide (l.length<=10)&& !(l==[46])&& !(l==[46,46])&&l.all zbr&& !l.isEmpty
theorem zg3(b:UInt8):C ykv [.ro (.int .u8 b.toNat)] []=some (.one (.ro (.bool (zbr b))),[]):=by
 refine zae Tryz.func195 ykx rfl ?_;unfold zbr;by_cases h1:97<=b.toNat<;>by_cases h2:b.toNat<=122<;>by_cases h3:48<=b.toNat<;>by_cases h4:b.toNat<=57<;>cases h5:b==46<;>cases h6:b==95<;>simp[h1,h2,h3,h4,h5,h6]
theorem zmf(l:List UInt8)(hl:l.length<=140737488351232):C yj5 [.ro (T l)] []=some (.one (.ro (.bool (l.all zbr&& !l.isEmpty))),[]):=by
 refine zae Tryz.func175 yj7 rfl ?_;simp
 refine zai (λm e=> ∃i,m=l.length-i/\i<=l.length/\e.size=17/\e.get 0=.one (.ro (T l))/\e.get 5=.one (.ro (N l.length))/\e.get 6=.one (.ro (N i))/\
  (l.drop i).all zbr=l.all zbr) ?_ l.length _ ⟨0,rfl,Nat.zero_le _,by simp,by simp,by simp,by simp,rfl⟩
 rintro m e ⟨i,rfl,hi,hsz,h0,h5,h6,hr⟩ ih;rcases Nat.lt_or_ge i l.length with hlt|hge
 ·have hd:l.drop i=l[i]::l.drop (i+1):=List.drop_eq_getElem_cons hlt;have hwi:IntKind.i64.wrap ((i:Int)+1)=((i+1:Nat):Int):=zad (by omega)
  rw[hd,List.all_cons]at hr
  cases hp:zbr l[i]with
  |false=>
   rw[hp]at hr;simp[zg3,hsz,h0,h5,h6,hlt,hp,<-hr]
  |true=>
   rw[hp,Bool.true_and]at hr;simp[zg3,hsz,h0,h5,h6,hlt,hwi,hp];exact ih _ _ (by omega) ⟨i+1,rfl,by omega,by simp[hsz],by simp[h0],by simp[h5],by simp,hr⟩
 ·obtain rfl:i=l.length:=by omega
  rw[List.drop_length,List.all_nil]at hr
  cases l with
  |nil=>simp[hsz,h0,h5,h6,<-hr]
  |cons c r=>simp[hsz,h0,h5,h6,<-hr]
theorem z5p(l:List UInt8)(hl:l.length<=140737488351232):C yir [.ro (T l)] []=some (.one (.ro (.bool (zia l))),[]):=by
 refine zae Tryz.func147 yit rfl ?_;have h:=zmf l hl;unfold zia;by_cases h1:l.length<=10
 ·cases h2:l==[46]
  ·cases h3:l==[46,46]<;>simp[h1,h2,h3,h]
  ·simp[h1,h2]
 ·simp[h1]
theorem zg4(b:UInt8)(l:List UInt8):zav b l≠[]:=by
 cases l with
 |nil=>simp[zav]
 |cons c r=>
  rw[zav];split
  ·simp
  ·split<;>simp
theorem zfh(b:UInt8):∀(l x:List UInt8),x∈zav b l->x.length<=l.length
 | [],x,h=>by simp[zav]at h;simp[h]
 |c::r,x,h=>by
  have ih:=zfh b r;rw[zav]at h;split at h
  ·rcases List.mem_cons.1 h with rfl|h
   ·simp
   ·have:=ih x h;simp;omega
  ·cases hq:zav b r with
   |nil=>exact absurd hq (zg4 b r)
   |cons y t=>
    rw[hq]at h ih;simp only at h;rcases List.mem_cons.1 h with rfl|h
    ·have:=ih y (by simp);simp;omega
    ·have:=ih x (by simp[h]);simp;omega
end Go.Qz
namespace Go.Qz
open Go.Proofs
theorem zdb(b:UInt8):C yjg [.ro (.int .u8 b.toNat)] []=some (.one (.ro (.bool (zbr b))),[]):=by
 refine zae Tryz.func157 yji rfl ?_;unfold zbr;by_cases h1:97<=b.toNat<;>by_cases h2:b.toNat<=122<;>by_cases h3:48<=b.toNat<;>by_cases h4:b.toNat<=57<;>cases h5:b==46<;>cases h6:b==95<;>simp[h1,h2,h3,h4,h5,h6]
def z82(l:List UInt8):Bool:=l.all zbr&&(inI l.length 1 10&& !(l==[46])&& !(l==[46,46]))
theorem z83(l:List UInt8):z82 l=zia l:=by
 unfold z82 zia inI
 cases l with
 |nil=>simp
 |cons c r=>
  have h1:(1:Int)<=((c::r).length:Nat):=by simp
  have h2:(((c::r).length:Nat):Int)<=10↔(c::r).length<=10:=by omega
  simp only[h1,decide_true,Bool.true_and,decide_eq_decide.2 h2,List.isEmpty_cons,Bool.not_false,Bool.and_true];rw[Bool.and_comm]
theorem z5q(l:List UInt8)(hl:l.length<=140737488351232):C yeg [.ro (T l)] []=some (.one (.ro (.bool (zia l))),[]):=by
 refine zae Tryz.func107 yg5 rfl ?_;rw[<-z83];simp
 refine zai (λm e=> ∃i,m=l.length-i/\i<=l.length/\e.size=26/\e.get 0=.one (.ro (T l))/\e.get 3=.one (.ro (N i))/\
  (l.drop i).all zbr=l.all zbr) ?_ l.length _ ⟨0,rfl,Nat.zero_le _,by simp,by simp,by simp,rfl⟩
 rintro m e ⟨i,rfl,hi,hsz,h0,h3,hr⟩ ih;rcases Nat.lt_or_ge i l.length with hlt|hge
 ·have hd:l.drop i=l[i]::l.drop (i+1):=List.drop_eq_getElem_cons hlt;have hwi:IntKind.i64.wrap ((i:Int)+1)=((i+1:Nat):Int):=zad (by omega)
  rw[hd,List.all_cons]at hr
  cases hp:zbr l[i]with
  |false=>
   rw[hp]at hr;simp[zdb,hsz,h0,h3,hlt,hp,z82,<-hr]
  |true=>
   rw[hp,Bool.true_and]at hr;simp[zdb,hsz,h0,h3,hlt,hwi,hp];exact ih _ _ (by omega) ⟨i+1,rfl,by omega,by simp[hsz],by simp[h0],by simp,hr⟩
 ·obtain rfl:i=l.length:=by omega
  rw[List.drop_length,List.all_nil]at hr;have hin:=zlm l.length 1 10;unfold z82;rw[<-hr]
  cases hq:inI l.length 1 10 with
  |false=>
   rw[hq]at hin;simp[hsz,h0,h3,hin]
  |true=>
   rw[hq]at hin;cases h1:l==[46]
   ·cases h2:l==[46,46]<;>simp[hsz,h0,h3,hin,h1,h2]
   ·simp[hsz,h0,h3,hin,h1]
theorem zxm(b:UInt8):∀(s pre:List UInt8) (k:Nat),s.length<=k->cutP b k pre s=(match zav b s with|x::r=>(pre++x)::r| []=>[])
 | [],pre,k,_=>by simp[cutP,zav]
 |c::r,pre,0,h=>by simp at h
 |c::r,pre,k+1,h=>by
  have ih1:=zxm b r [] k (by simpa using h)
  have ih2:=zxm b r (pre++[c]) (k+1) (by simp at h;omega)
  have hne:=zg4 b r;rw[cutP,zav,ih1,ih2]
  cases hq:zav b r with
  |nil=>exact absurd hq hne
  |cons y t=>
   cases hc:c==b with
   |true=>have:c=b:=by simpa using hc
          simp[this]
   |false=>have:¬c=b:=by simpa using hc
           simp[this]
theorem z84(b:UInt8)(s:List UInt8)(k:Nat)(h:s.length<=k):cutP b k [] s=zav b s:=by
 rw[zxm b s [] k h]
 cases hq:zav b s with
 |nil=>exact absurd hq (zg4 b s)
 |cons y t=>rfl
theorem zfi(b:UInt8):∀s:List UInt8,(zav b s).length<=s.length+1
 | []=>by simp[zav]
 |c::r=>by
  have ih:=zfi b r;rw[zav];split
  ·simp;omega
  ·cases hq:zav b r with
   |nil=>simp
   |cons y t=>rw[hq]at ih;simp at ih ⊢;omega
theorem zjz(s:List UInt8)(b:UInt8)(c:Int)(hc:c=b.toNat)(hs:s.length<=1048576):C Fn67 [.ro (T s),.ro (.int .u8 c),.ro (.int .i64 ((s.length:Int)+1))] []=some (.one (.own (SS (zav b s))),[]):=by
 subst hc;rw[zzh s b (s.length+1) _ (by omega) hs (by omega),z84 b s _ (by omega)]
end Go.Qz
namespace Go.Qz
open Go.Proofs
theorem zeb(n:Nat)(h:n<10):Lib.decDigits n=[UInt8.ofNat (48+n)]:=by rw[Lib.decDigits,dif_pos h]
theorem zgh(n:Nat)(h:10<=n):Lib.decDigits n=Lib.decDigits (n/10)++[UInt8.ofNat (48+n % 10)]:=by rw[Lib.decDigits,dif_neg (by omega)]
theorem zuc:∀(k n:Nat),n<10^(k+1)->(Lib.decDigits n).length<=k+1
 |0,n,h=>by rw[zeb n (by simpa using h)];simp
 |k+1,n,h=>by
  rcases Nat.lt_or_ge n 10 with h1|h1
  ·rw[zeb n h1];simp
  ·rw[zgh n h1,List.length_append];have:=zuc k (n/10) (by rw[Nat.pow_succ]at h;omega)
   simp only[List.length_singleton];omega
end Go.Qz
namespace Go.Qz
open Go.Proofs
theorem zxn(c:UInt8):∀(l:List UInt8) (a:Nat),goN a (l++[c])=(goN a l).bind λm=>if figB c then some (m*10+(c.toNat-48))else none
 | [],a=>by simp only[List.nil_append,goN,Option.bind_some]
 |b::l,a=>by
  rw[List.cons_append,goN,goN];split
  ·exact zxn c l _
  ·rfl
theorem yaw:∀(l:List UInt8) (a m:Nat),goN a l=some m->a<=m
 | [],a,m,h=>by cases h;exact Nat.le_refl _
 |b::l,a,m,h=>by
  unfold goN at h;split at h
  ·have:=yaw l _ m h;omega
  ·cases h
theorem zud(d:Nat)(h:d<10):figB (UInt8.ofNat (48+d))=true/\(UInt8.ofNat (48+d)).toNat=48+d:=by
 have h1:(UInt8.ofNat (48+d)).toNat=48+d:=by
  rw[UInt8.toNat_ofNat'];omega
 refine⟨?_,h1⟩;unfold figB;rw[h1];simp;omega
theorem yca(n:Nat):goN 0 (Lib.decDigits n)=some n:=by
 induction n using Nat.strongRecOn with
 |_ n ih=>
  rcases Nat.lt_or_ge n 10 with h|h
  ·rw[zeb n h,goN];obtain⟨h1,h2⟩:=zud n h;rw[if_pos h1,h2];simp[goN]
  ·rw[zgh n h,zxn,ih (n/10) (by omega)]
   obtain⟨h1,h2⟩:=zud (n % 10) (Nat.mod_lt _ (by omega))
   simp only[Option.bind_some];rw[if_pos h1,h2];congr 1;omega
theorem z85(n:Nat)(hn:0<n):∃c r,Lib.decDigits n=c::r/\(c==48)=false:=by
 induction n using Nat.strongRecOn with
 |_ n ih=>
  rcases Nat.lt_or_ge n 10 with h|h
  ·refine⟨_,[],zeb n h,?_⟩;obtain⟨h1,h2⟩:=zud n h;rw[beq_eq_false_iff_ne];intro e;rw[e]at h2;simp at h2;omega
  ·obtain⟨c,r,h1,h2⟩:=ih (n/10) (by omega) (by omega)
   rw[zgh n h,h1];exact⟨c,r++[UInt8.ofNat (48+n % 10)],rfl,h2⟩
theorem z86(n:Nat):zml (Lib.decDigits n)=false:=by
 rcases Nat.lt_or_ge n 10 with h|h
 ·rw[zeb n h];rfl
 ·obtain⟨c,r,h1,h2⟩:=z85 n (by omega)
  rw[h1]
  cases r with
  |nil=>rfl
  |cons b r=>exact h2
theorem ye0(n:Nat):Lib.decDigits n≠[]:=by
 rcases Nat.lt_or_ge n 10 with h|h
 ·rw[zeb n h];simp
 ·rw[zgh n h];simp
theorem ycb(n:Nat):∀b∈Lib.decDigits n,figB b=true:=by
 induction n using Nat.strongRecOn with
 |_ n ih=>
  rcases Nat.lt_or_ge n 10 with h|h
  ·rw[zeb n h];intro b hb;rw[List.mem_singleton]at hb;subst hb;exact(zud n h).1
  ·rw[zgh n h];intro b hb;rcases List.mem_append.1 hb with h1|h1
   ·exact ih (n/10) (by omega) b h1
   ·rw[List.mem_singleton]at h1;subst h1;exact(zud (n % 10) (Nat.mod_lt _ (by omega))).1
theorem zue(n:Nat)(h:n<=999):(Lib.decDigits n).length<=3:=zuc 2 n (by omega)
theorem z87{c:UInt8}(h:figB c=true):UInt8.ofNat (48+(c.toNat-48))=c/\c.toNat-48<10:=by
 unfold figB at h;simp only[Bool.and_eq_true,decide_eq_true_eq]at h;refine⟨?_,by omega⟩
 rw[show 48+(c.toNat-48)=c.toNat by omega]
 exact UInt8.ofNat_toNat
theorem zxo:∀(l:List UInt8) (a m:Nat),goN a l=some m-> ∀b∈l,figB b=true
 | [],_,_,_=> λb hb=>by simp at hb
 |c::l,a,m,h=>by
  unfold goN at h;split at h
  ·rename_i hc;intro b hb;rcases List.mem_cons.1 hb with rfl|hb
   ·exact hc
   ·exact zxo l _ m h b hb
  ·cases h
theorem ye1:∀(k:Nat) (l:List UInt8) (n:Nat),l.length<=k->l≠[]->zml l=false->goN 0 l=some n->Lib.decDigits n=l:=by
 intro k
 induction k with
 |zero=>
  intro l n hk hne;exact absurd (List.length_eq_zero_iff.1 (by omega)) hne
 |succ k ih=>
  intro l n hk hne hld hg;rcases List.eq_nil_or_concat l with rfl|⟨l',c,rfl⟩
  ·exact absurd rfl hne
  ·have hc:figB c=true:=zxo _ 0 n hg c (by simp)
   obtain⟨e1,e2⟩:=z87 hc;rw[List.concat_eq_append]at hg hld ⊢;rw[zxn]at hg
   cases l' with
   |nil=>
    simp only[goN,Option.bind_some,if_pos hc,Option.some.injEq]at hg;simp only[List.nil_append];rw[<-hg,zeb _ (by omega)]
    rw[show 48+(0*10+(c.toNat-48))=48+(c.toNat-48) by omega,e1]
   |cons x r=>
    cases hm:goN 0 (x::r)with
    |none=>rw[hm]at hg;cases hg
    |some m=>
     rw[hm]at hg;simp only[Option.bind_some,if_pos hc,Option.some.injEq]at hg
     have hx:(x==48)=false:=by
      cases r with
      |nil=>exact hld
      |cons y r=>exact hld
     have hl2:zml (x::r)=false:=by
      cases r with
      |nil=>rfl
      |cons y r=>exact hx
     have hih:=ih (x::r) m (by simp at hk ⊢;omega) (by simp) hl2 hm
     have hpos:1<=m:=by
      have hxf:figB x=true:=zxo _ 0 m hm x (by simp)
      unfold goN at hm;rw[if_pos hxf]at hm;have:=yaw r _ m hm
      have hne48:x.toNat≠48:=by
       intro e;have:x=48:=UInt8.toNat_inj.1 e;rw[this]at hx;simp at hx
      unfold figB at hxf;simp only[Bool.and_eq_true,decide_eq_true_eq]at hxf;omega
     rw[zgh n (by omega),<-hg,show (m*10+(c.toNat-48))/10=m by omega,show (m*10+(c.toNat-48)) % 10=c.toNat-48 by omega,hih,e1]
theorem z88(n:Nat)(h2:n<=999):numS (Lib.decDigits n)=n:=by
 have h3:=zue n h2
 have h4:(Lib.decDigits n).isEmpty=false:=by
  cases h:Lib.decDigits n with
  |nil=>exact absurd h (ye0 n)
  |cons c r=>rfl
 unfold numS;rw[yca,z86,h4];simp only;rw[if_pos (by simp;omega)]
theorem z5r{l:List UInt8}{m x:Nat}(h:numI l m=(x,true)):Lib.decDigits x=l:=by
 unfold numI at h;split at h
 ·cases h
 ·rename_i hc;simp only[Bool.or_eq_true,not_or,Bool.not_eq_true,List.isEmpty_eq_false_iff,decide_eq_false_iff_not]at hc;split at h
  ·rename_i n hn;split at h
   ·cases h
   ·cases h;exact ye1 l.length l _ (Nat.le_refl _) hc.1.1 hc.2 hn
  ·cases h
theorem zxp{l:List UInt8}{m:Nat}(_:(numI l m).2=true):(numI l m).1<=m:=by
 unfold numI;split
 ·simp
 ·split
  ·split
   ·simp
   ·simp only;omega
  ·simp
theorem ye2{l:List UInt8}{m x:Nat}(h:numI l m=(x,true))(hm:m<=999):numS l=x:=by
 have h1:=z5r h;have h2:x<=m:=by have:=zxp (l:=l) (m:=m) (by rw[h]);rw[h]at this;exact this
 rw[<-h1];exact z88 x (by omega)
theorem ye3{l:List UInt8}{m x:Nat}(h:numS l=x)(hm:x<=m)(_:m<=999):numI l m=(x,true):=by
 unfold numS at h;split at h
 ·rename_i n hn;split at h
  ·rename_i hc;have hnx:n=x:=by omega
   subst hnx;simp only[Bool.and_eq_true,decide_eq_true_eq,Bool.not_eq_true']at hc;unfold numI;rw[hn];have h9:¬9<l.length:=by omega
   rw[if_neg (by simp[hc.1.2,hc.2,h9])]
   simp only;rw[if_neg (by omega)]
  ·omega
 ·omega
end Go.Qz
namespace Go.Qz
open Go.Proofs
def lowB(b:UInt8):Bool:=decide (97<=b.toNat)&&decide (b.toNat<=122)
def zgi(b:UInt8):Bool:=lowB b||(decide (48<=b.toNat)&&decide (b.toNat<=57))
def za1:List UInt8->Bool
 | []=>false
 |c::r=>decide (r.length+1<=10)&&(lowB c&&(c::r).all zgi)
theorem zdj(l:List UInt8)(hn:l.length<=140737488351232):C Fn85 [.ro (T l)] []=some (.one (.ro (.bool (za1 l))),[]):=by
 refine zae Tryz.func85 Cv85 rfl ?_
 cases l with
 |nil=>simp[za1]
 |cons c r=>
  by_cases h1:10<r.length+1
  ·have:¬r.length+1<=10:=by omega
   have h1i:(10:Int)<(r.length:Int)+1:=by omega
   simp[za1,h1i,this]
  ·have h1':r.length+1<=10:=by omega
   have h1i:¬(10:Int)<(r.length:Int)+1:=by omega
   by_cases h2:c.toNat<97
   ·have:¬97<=c.toNat:=by omega
    simp[za1,lowB,h1i,h1',h2,this]
   ·have h2':97<=c.toNat:=by omega
    by_cases h3:122<c.toNat
    ·have:¬c.toNat<=122:=by omega
     simp[za1,lowB,h1i,h1',h2,h2',h3,this]
    ·have h3':c.toNat<=122:=by omega
     have hp:za1 (c::r)=(c::r).all zgi:=by simp[za1,lowB,h1',h2',h3']
     rw[hp];simp[h1i,h2,h3];generalize hl:c::r=l at *;have hlen:l.length=r.length+1:=by rw[<-hl];rfl
     have hc:(r.length:Int)+1=(l.length:Int):=by rw[hlen];rfl
     have hr0:(zgi c&&r.all zgi)=l.all zgi:=by rw[<-hl];rfl
     rw[hr0]
     refine zai (λm e=> ∃i,m=l.length-i/\i<=l.length/\e.size=49/\e.get 0=.one (.ro (T l))/\e.get 22=.one (.ro (N l.length))/\e.get 23=.one (.ro (N i))/\(l.drop i).all zgi=l.all zgi)
      ?_ l.length _ ⟨0,rfl,Nat.zero_le _,by simp,by simp,by simp[hc],by simp,rfl⟩
     clear hl hp hr0 hc hlen;rintro m e ⟨i,rfl,hi,hsz,h0,h22,h23,hr⟩ ih;rcases Nat.lt_or_ge i l.length with hlt|hge
     ·have hwi:IntKind.i64.wrap ((i:Int)+1)=((i+1:Nat):Int):=zad (by omega)
      have hd:l.drop i=l[i]::l.drop (i+1):=List.drop_eq_getElem_cons hlt;rw[hd,List.all_cons]at hr;have hb:zgi l[i]=(decide (97<=l[i].toNat)&&decide (l[i].toNat<=122)||(decide (48<=l[i].toNat)&&decide (l[i].toNat<=57))):=rfl
      rw[hb]at hr;by_cases hA:l[i].toNat<97
      ·have a1:¬97<=l[i].toNat:=by omega
       by_cases hC:l[i].toNat<48
       ·have c1:¬48<=l[i].toNat:=by omega
        simp[a1,c1]at hr;simp[hsz,h0,h22,h23,hlt,hA,hC,hr]
       ·have c1:48<=l[i].toNat:=by omega
        by_cases hD:57<l[i].toNat
        ·have d1:¬l[i].toNat<=57:=by omega
         simp[a1,c1,d1]at hr;simp[hsz,h0,h22,h23,hlt,hA,hC,hD,hr]
        ·have d1:l[i].toNat<=57:=by omega
         simp[a1,c1,d1]at hr;simp[hsz,h0,h22,h23,hlt,hA,hC,hD,hwi];exact ih _ _ (by omega) ⟨i+1,rfl,by omega,by simp[hsz],by simp[h0],by simp[h22],by simp,by simpa using hr⟩
      ·have a1:97<=l[i].toNat:=by omega
       by_cases hB:122<l[i].toNat
       ·have b1:¬l[i].toNat<=122:=by omega
        have c1:¬l[i].toNat<48:=by omega
        have d1:57<l[i].toNat:=by omega
        have d2:¬l[i].toNat<=57:=by omega
        simp[b1,d2]at hr;simp[hsz,h0,h22,h23,hlt,hA,hB,c1,d1,hr]
       ·have b1:l[i].toNat<=122:=by omega
        simp[a1,b1]at hr;simp[hsz,h0,h22,h23,hlt,hA,hB,hwi];exact ih _ _ (by omega) ⟨i+1,rfl,by omega,by simp[hsz],by simp[h0],by simp[h22],by simp,by simpa using hr⟩
     ·obtain rfl:i=l.length:=by omega
      rw[List.drop_length]at hr;simp at hr;simp[hsz,h22,h23];exact hr
def digB(b:UInt8):Bool:=decide (48<=b.toNat)&&decide (b.toNat<=57)
def sufS(i:Nat):List UInt8->Bool
 | []=>true
 |c::r=>(lowB c||(decide (i≠0)&&digB c))&&r.all zgi
def z5s(l:List UInt8):Bool:=sufS 0 l&&inI l.length 1 10
theorem z89(i:Nat)(hi:i≠0)(l:List UInt8):sufS i l=l.all zgi:=by
 cases l with
 |nil=>rfl
 |cons c r=>simp[sufS,hi,zgi,digB]
theorem zks(l:List UInt8):z5s l=za1 l:=by
 cases l with
 |nil=>rfl
 |cons c r=>
  have hp:(lowB c&&(c::r).all zgi)=(lowB c&&r.all zgi):=by
   cases h:lowB c<;>simp[zgi,h]
  show z5s (c::r)=(decide (r.length+1<=10)&&(lowB c&&(c::r).all zgi));rw[hp]
  have hin:inI ((c::r).length) 1 10=decide (r.length+1<=10):=by
   unfold inI;have:((1:Int)<=((c::r).length:Nat))=True:=by simp
   simp;exact⟨λh=>by omega,λh=>by omega⟩
  unfold z5s sufS;rw[hin,Bool.and_comm];simp
theorem zib(l:List UInt8)(hn:l.length<=140737488351232):C yei [.ro (T l)] []=some (.one (.ro (.bool (z5s l))),[]):=by
 refine zae Tryz.func109 yg9 rfl ?_;simp;unfold z5s
 refine zai (λm e=> ∃i,m=l.length-i/\i<=l.length/\e.size=42/\e.get 0=.one (.ro (T l))/\e.get 3=.one (.ro (N i))/\(sufS i (l.drop i)&&inI l.length 1 10)=(sufS 0 l&&inI l.length 1 10))
  ?_ l.length _ ⟨0,rfl,Nat.zero_le _,by simp,by simp,by simp,rfl⟩
 rintro m e ⟨i,rfl,hi,hsz,h0,h3,hr⟩ ih;rcases Nat.lt_or_ge i l.length with hlt|hge
 ·have hwi:IntKind.i64.wrap ((i:Int)+1)=((i+1:Nat):Int):=zad (by omega)
  have hd:l.drop i=l[i]::l.drop (i+1):=List.drop_eq_getElem_cons hlt;rw[hd,sufS]at hr;have hnx:sufS (i+1) (l.drop (i+1))=(l.drop (i+1)).all zgi:=z89 _ (by omega) _
  by_cases hA:97<=l[i].toNat
  ·by_cases hB:l[i].toNat<=122
   ·have hs:lowB l[i]=true:=by simp[lowB,hA,hB]
    rw[hs]at hr;simp only[Bool.true_or,Bool.true_and]at hr;simp[hsz,h0,h3,hlt,hA,hB,hwi];exact ih _ _ (by omega) ⟨i+1,rfl,by omega,by simp[hsz],by simp[h0],by simp,by rw[hnx];exact hr⟩
   ·have hs:lowB l[i]=false:=by simp[lowB,hB]
    have c1:¬l[i].toNat<48:=by omega
    have d1:57<l[i].toNat:=by omega
    have hg:digB l[i]=false:=by have:¬l[i].toNat<=57:=by omega
                                simp[digB,this]
    rw[hs,hg]at hr;simp only[Bool.false_or,Bool.and_false,Bool.false_and]at hr;by_cases hi0:i=0
    ·subst hi0;simp[hsz,h0,h3,hlt,hA,hB,<-hr]
    ·have hb0:(i==0)=false:=by simpa using hi0
     simp[hsz,h0,h3,hlt,hA,hB,hb0,c1,d1,<-hr]
  ·have hs:lowB l[i]=false:=by simp[lowB,hA]
   rw[hs]at hr;simp only[Bool.false_or]at hr;by_cases hi0:i=0
   ·subst hi0;simp at hr;simp[hsz,h0,h3,hlt,hA];exact hr
   ·have hb0:(i==0)=false:=by simpa using hi0
    simp only[ne_eq,hi0,not_false_eq_true,decide_true,Bool.true_and]at hr;by_cases hC:l[i].toNat<48
    ·have hg:digB l[i]=false:=by have:¬48<=l[i].toNat:=by omega
                                 simp[digB,this]
     rw[hg]at hr;simp only[Bool.false_and]at hr;simp[hsz,h0,h3,hlt,hA,hb0,hC,<-hr]
    ·by_cases hD:57<l[i].toNat
     ·have hg:digB l[i]=false:=by have:¬l[i].toNat<=57:=by omega
                                  simp[digB,this]
      rw[hg]at hr;simp only[Bool.false_and]at hr;simp[hsz,h0,h3,hlt,hA,hb0,hC,hD,<-hr]
     ·have hg:digB l[i]=true:=by
       have a1:48<=l[i].toNat:=by omega
       have a2:l[i].toNat<=57:=by omega
       simp[digB,a1,a2]
      rw[hg]at hr;simp only[Bool.true_and]at hr;simp[hsz,h0,h3,hlt,hA,hb0,hC,hD,hwi];exact ih _ _ (by omega) ⟨i+1,rfl,by omega,by simp[hsz],by simp[h0],by simp,by rw[hnx];exact hr⟩
 ·obtain rfl:i=l.length:=by omega
  rw[List.drop_length]at hr;have e0:sufS l.length ([]:List UInt8)=true:=rfl;rw[e0,Bool.true_and]at hr;have hin:=zlm l.length 1 10;simp[hsz,h0,h3,hin,<-hr]
end Go.Qz
namespace Go.Qz
open Go.Proofs
def zfv(l:List UInt8):Bool:=(numI l 999).2
def zfj(l:List UInt8):Bool:=decide ((zav 46 l).length<=4)&&(zav 46 l).all zfv
theorem z9a(l:List UInt8):zfv l=inI (numS l) 0 999:=by
 unfold zfv
 cases h:(numI l 999).2 with
 |true=>
  have h1:=ye2 (l:=l) (m:=999) (x:=(numI l 999).1) (by rw[<-h]) (by omega)
  have h2:=zxp h;rw[h1];unfold inI;rw[decide_eq_true (by omega),decide_eq_true (by omega)]
  rfl
 |false=>
  cases h2:inI (numS l) 0 999 with
  |false=>rfl
  |true=>
   unfold inI at h2;simp only[Bool.and_eq_true,decide_eq_true_eq]at h2;obtain⟨x,hx⟩:=Int.eq_ofNat_of_zero_le h2.1;rw[ye3 (m:=999) hx (by omega) (by omega)]at h
   cases h
def goV:Nat->za2->Bool
 |_,[]=>true
 |k,x::r=>if zfv x then(if k=4 then false else goV (k+1) r)else false
theorem yax:∀(xs:za2) (k:Nat),k<=4->goV k xs=(decide (k+xs.length<=4)&&xs.all zfv)
 | [],k,h=>by simp[goV,h]
 |x::r,k,h=>by
  rw[goV]
  cases hx:zfv x with
  |false=>simp[hx]
  |true=>
   by_cases h4:k=4
   ·have:¬k+(r.length+1)<=4:=by omega
    subst h4;rw[if_pos rfl,if_pos rfl,decide_eq_false (by simp)]
    rfl
   ·rw[if_pos rfl,if_neg h4,yax r (k+1) (by omega)]
    simp[hx,Nat.add_assoc,Nat.add_comm 1]
theorem ycc(l:List UInt8):goV 0 (zav 46 l)=zfj l:=by
 rw[yax _ _ (by omega)]
 simp[zfj]
abbrev IS(ns:List Nat):D:=.sl 1 (ns.map N)
def verN:List Nat->za2->List Nat×Bool
 |acc,[]=>(acc,true)
 |acc,x::r=>if (numI x 999).2=false then([],false)else if acc.length=4 then([],false)else verN (acc++[(numI x 999).1]) r
theorem z5t:∀(xs:za2) (acc:List Nat),(verN acc xs).2=goV acc.length xs
 | [],acc=>rfl
 |x::r,acc=>by
  rw[verN,goV];unfold zfv
  cases hx:(numI x 999).2 with
  |false=>simp
  |true=>
   by_cases h4:acc.length=4
   ·simp[h4]
   ·have:=z5t r (acc++[(numI x 999).1]);simp[h4,this]
def verL(l:List UInt8):List Nat:=(verN [] (zav 46 l)).1
theorem ycd(l:List UInt8):verN [] (zav 46 l)=(verL l,zfj l):=by
 unfold verL;have h:=z5t (zav 46 l) [];rw[List.length_nil]at h;rw[<-ycc,<-h]
theorem zo4(l:List UInt8)(hl:l.length<=1048576):C yio [.ro (T l)] []=some (.tup [.own (IS (verL l)),.ro (.bool (zfj l))],[]):=by
 refine zae Tryz.func146 yiq rfl ?_;have hs:=zxg ⟨l.toArray⟩ ⟨#[46]⟩;have h46:(⟨#[46]⟩:ByteArray).size=1:=rfl;have hl2:l.length<=9223372036854775807:=by omega
 have hmem:=zfh 46 l;have hok:=ycd l;generalize verL l=ns at *;generalize zfj l=ok at *;simp[hs,h46,hl2];refine zoc (λo ho=>?_)
 have o2:o.get 2=.one (.ptr 2 0):=by rw[ho];simp
 have o3:o.get 3=.one (.ptr 3 0):=by rw[ho];simp
 have o4:o.get 4=.one (.ptr 4 0):=by rw[ho];simp
 have os:o.size=28:=by rw[ho];simp
 have b2:o.box 2=some [.own (.sl 1 [])]:=by rw[ho];simp
 have b3:o.box 3=some [.ro (.bool false)]:=by rw[ho];simp
 have b4:o.box 4=some [.own (.sl 1 [])]:=by rw[ho];simp
 clear ho
 refine zob (λxs e=> ∃acc:List Nat,(∀x∈xs,x.length<=l.length)/\e.size=28/\e.get 2=.one (.ptr 9002 0)/\e.get 3=.one (.ptr 9003 0)/\e.get 4=.one (.ptr 9004 0)/\e.box 9002=some [.own (.sl 1 [])]/\e.box 9003=some [.ro (.bool false)]/\
  e.box 9004=some [.own (IS acc)]/\acc.length<=4/\verN acc xs=(ns,ok))
  ?_ _ _ ⟨[],hmem,by simp[os],by simp[o2],by simp[o3],by simp[o4],by simp[za0,b2],by simp[za0,b3],by simp[za0,b4],by simp,hok⟩
 rintro xs e ⟨acc,hx,es,e2,e3,e4,c2,c3,c4,hacc,hr⟩ ih
 cases xs with
 |nil=>
  rw[verN]at hr;cases hr;simp[o2,o3,o4,os,b2,b3,b4,c2,c3,c4,zdi]
 |cons x xs=>
  have hn:=z5n x 999 999 rfl (by have:=hx x (by simp);omega) (by omega)
  rw[verN]at hr;generalize numI x 999=v at *;obtain⟨n,b⟩:=v;simp only at hn hr
  cases b with
  |false=>
   simp only[if_true]at hr;cases hr;simp[o2,o3,b2,b3,es,e2,e3,e4,c2,c3,c4,hn,zdi,zb1,za0]
  |true=>
   simp only[Bool.true_eq_false,if_false]at hr;by_cases h4:acc.length=4
   ·rw[if_pos h4]at hr;cases hr;simp[o2,o3,b2,b3,es,e2,e3,e4,c2,c3,c4,hn,h4,zdi,zb1,za0]
   ·rw[if_neg h4]at hr;have hne:(acc.length==4)=false:=by rw[beq_eq_false_iff_ne];omega
    have ha:acc.length+1<=zag:=by simp[zag];omega
    simp[es,e4,c4,hn,hne,ha];refine ih _ _ (by simp) ⟨acc++[n],λy hy=>hx y (by simp[hy]),by simp[os],by simp[o2],by simp[o3],by simp[o4],by simp[zb1,za0,b2,c2],by simp[zb1,za0,b3,c3],by simp[zb1,za0,b4],by simp;omega,hr⟩
theorem zkt(l:List UInt8)(hl:l.length<=1048576):C Fn86 [.ro (T l)] []=some (.one (.ro (.bool (zfj l))),[]):=by
 refine zae Tryz.func86 Cv86 rfl ?_;simp[zo4 l hl]
end Go.Qz
namespace Go.Qz
open Go.Proofs
theorem z1j(l:List UInt8)(hl:l.length<=1048576):∃is:List Int,C yjp [.ro (T l)] []=some (.tup [.own (.sl 1 (is.map I)),.ro (.bool (zfj l))],[]):=by
 have hcut:=zjz l 46 46 rfl hl;have hwl:IntKind.i64.wrap ((l.length:Int)+1)=((l.length+1:Nat):Int):=zad (by omega)
 have hcnt:=zfi 46 l;have hmem:=zfh 46 l;have hv:zfj l=(decide ((zav 46 l).length<=4)&&(zav 46 l).all zfv):=rfl;generalize zav 46 l=xs at *
 have hfar:∃n,n<=xs.length/\(∀k (h:k<xs.length),k<n->zfv xs[k]=true)/\(∀h:n<xs.length,zfv xs[n]=false):=by
  clear hv hmem hcnt hcut
  induction xs with
  |nil=>exact⟨0,Nat.le_refl _,λk h=>by simp at h,λh=>by simp at h⟩
  |cons x r ih=>
   cases hx:zfv x with
   |false=>exact⟨0,Nat.zero_le _,λk h h2=>by omega,λh=>hx⟩
   |true=>
    obtain⟨n,h1,h2,h3⟩:=ih;refine⟨n+1,by simpa using h1,λk h hk=>?_,λh=>?_⟩
    ·cases k with
     |zero=>exact hx
     |succ k=>exact h2 k (by simpa using h) (by omega)
    ·exact h3 (by simpa using h)
 obtain⟨n,hn1,hn2,hn3⟩:=hfar
 obtain⟨pre,q0,q1,q2⟩:∃pre:Nat->List Int,pre 0=[]/\(∀i (h:i<xs.length),pre (i+1)=pre i++[numS xs[i]])/\ ∀i,i<=xs.length->(pre i).length=i:=
  ⟨λi=>(xs.take i).map numS,rfl,λi h=>by simp only[List.take_succ_eq_append_getElem h,List.map_append,List.map_cons,List.map_nil],λi h=>by simp only[List.length_map,List.length_take];omega⟩
 refine⟨pre n,?_⟩;refine zae Tryz.func160 yjr rfl ?_;simp[hwl,hcut]
 refine zai (λm e=> ∃i,m=xs.length-i/\i<=n/\e.size=37/\e.get 4=.one (.own (SS xs))/\e.get 5=.one (.own (.sl 1 ((pre i).map I)))/\e.get 6=.one (.ro (N i)))
  ?_ xs.length _ ⟨0,rfl,Nat.zero_le _,by simp,by simp,by simp[q0],by simp⟩
 rintro m e ⟨i,rfl,hi,hsz,h4,h5,h6⟩ ih;rcases Nat.lt_or_ge i xs.length with hlt|hge
 ·have hwi:IntKind.i64.wrap ((i:Int)+1)=((i+1:Nat):Int):=zad (by omega)
  have hnum:=z8z xs[i] (by have:=hmem _ (List.getElem_mem hlt);omega)
  have hin:=zlm (numS xs[i]) 0 999;rw[<-z9a]at hin;rcases Nat.lt_or_ge i n with hin2|hin2
  ·have ht:=q1 i hlt;rw[hn2 i hlt hin2]at hin;generalize numS xs[i]=q at *;have hlen:=q2 i (by omega)
   have ha:(pre i).length+1<=zag:=by rw[hlen];simp[zag];omega
   simp[hsz,h4,h5,h6,hlt,hwi,hnum,hin,ha];exact ih _ _ (by omega) ⟨i+1,rfl,by omega,by simp[hsz],by simp[h4],by simp[ht],by simp⟩
  ·obtain rfl:i=n:=by omega
   have hbad:=hn3 hlt;rw[hbad]at hin
   have hvf:zfj l=false:=by
    rw[hv]
    have:xs.all zfv=false:=by
     rw[List.all_eq_false];exact⟨xs[i],List.getElem_mem hlt,by rw[hbad];simp⟩
    rw[this];simp
   simp[hsz,h4,h5,h6,hlt,hnum,hin,hvf]
 ·have hil:i=xs.length:=by omega
  subst hil;have hnx:n=xs.length:=by omega
  have hall:xs.all zfv=true:=by
   rw[List.all_eq_true];intro x hx;obtain⟨k,hk,rfl⟩:=List.mem_iff_getElem.1 hx;exact hn2 k hk (by omega)
  rw[hall,Bool.and_true]at hv;rw[hnx];simp[hsz,h4,h5,h6,hv]
theorem zku(l:List UInt8)(hl:l.length<=1048576):C yhe [.ro (T l)] []=some (.one (.ro (.bool (zfj l))),[]):=by
 refine zae Tryz.func112 yhg rfl ?_;obtain⟨is,h⟩:=z1j l hl;simp[h]
structure Ne where
 name:List UInt8
 kind:Int
 ver:List UInt8
abbrev NeD(e:Ne):D:=.agg [T e.name,I e.kind,T e.ver]
abbrev NeS(es:List Ne):D:=.sl 3 (es.map NeD)
def neSz(e:Ne):Prop:=e.name.length<=1048576/\e.ver.length<=1048576
def za8(e:Ne):Bool:=za1 e.name&&(if e.kind==0 then e.ver==[]else inI e.kind 1 3&&zfj e.ver)
theorem zez(e:Ne)(h:neSz e):C Fn90 [.ro (NeD e)] []=some (.one (.ro (.bool (za8 e))),[]):=by
 refine zae Tryz.func90 Cv90 rfl ?_;have h1:=zdj e.name (by have:=h.1;omega)
 have h2:=zkt e.ver h.2;unfold za8
 cases hp:za1 e.name with
 |false=>rw[hp]at h1;simp[h1]
 |true=>
  rw[hp]at h1
  cases k0:e.kind==0 with
  |true=>simp[h1,k0]
  |false=>
   have k0':¬e.kind=0:=by simpa using k0
   cases k1:e.kind==1 with
   |true=>have:e.kind=1:=by simpa using k1
          simp[h1,h2,this,inI]
   |false=>
    have k1':¬e.kind=1:=by simpa using k1
    cases k2:e.kind==2 with
    |true=>have:e.kind=2:=by simpa using k2
           simp[h1,h2,this,inI]
    |false=>
     have k2':¬e.kind=2:=by simpa using k2
     cases k3:e.kind==3 with
     |true=>have:e.kind=3:=by simpa using k3
            simp[h1,h2,this,inI]
     |false=>
      have k3':¬e.kind=3:=by simpa using k3
      have hi:inI e.kind 1 3=false:=by
       unfold inI;simp only[Bool.and_eq_false_iff,decide_eq_false_iff_not];omega
      simp[h1,k0,k1,k2,k3,hi]
theorem zqc(e:Ne)(h:neSz e):C yjs [.ro (NeD e)] []=some (.one (.ro (.bool (za8 e))),[]):=by
 refine zae Tryz.func161 yju rfl ?_;have h1:=zib e.name (by have:=h.1;omega)
 rw[zks]at h1;have h2:=zku e.ver h.2;have h3:=zlm e.kind 1 3;unfold za8
 cases hp:za1 e.name with
 |false=>rw[hp]at h1;simp[h1]
 |true=>
  rw[hp]at h1
  cases k0:e.kind==0 with
  |true=>
   have hk:e.kind=0:=by simpa using k0
   have hi:inI e.kind 1 3=false:=by rw[hk];rfl
   rw[hi]at h3;cases hv:e.ver==[]<;>simp[h1,k0,hv,h3]
  |false=>
   cases hi:inI e.kind 1 3 with
   |false=>rw[hi]at h3;simp[h1,k0,h3]
   |true=>rw[hi]at h3;simp[h1,k0,h3,h2]
end Go.Qz
namespace Go.Qz
open Go.Proofs
theorem zoi(e:Ne):C ygq [.ro (NeD e)] []=some (.one (.ro (T e.name)),[]):=by
 refine zae Tryz.func102 ygs rfl ?_;simp
theorem zqd(es:List Ne)(h:∀e∈es,neSz e)(hn:es.length<=1048576):C Fn89 [.ro (NeS es),.fn 90 []] []=some (.one (.ro (.bool (es.all za8))),[]):=by
 refine zae Tryz.func89 Cv89 rfl ?_;simp
 refine zai (λm e=> ∃i,m=es.length-i/\i<=es.length/\e.size=18/\e.get 1=.one (.fn 90 [])/\e.get 7=.one (.ro (NeS es))/\e.get 8=.one (.ro (N es.length))/\e.get 9=.one (.ro (N i))/\
  (es.drop i).all za8=es.all za8) ?_ es.length _ ⟨0,rfl,Nat.zero_le _,by simp,by simp,by simp,by simp,by simp,rfl⟩
 rintro m e ⟨i,rfl,hi,hsz,h1,h7,h8,h9,hr⟩ ih;rcases Nat.lt_or_ge i es.length with hlt|hge
 ·have hd:es.drop i=es[i]::es.drop (i+1):=List.drop_eq_getElem_cons hlt;have hwi:IntKind.i64.wrap ((i:Int)+1)=((i+1:Nat):Int):=zad (by omega)
  have hfx:=zez es[i] (h _ (List.getElem_mem hlt));rw[hd,List.all_cons]at hr
  cases hp:za8 es[i]with
  |false=>
   rw[hp]at hr hfx;simp[hfx,hsz,h1,h7,h8,h9,hlt,<-hr]
  |true=>
   rw[hp]at hr hfx;rw[Bool.true_and]at hr;simp[hfx,hsz,h1,h7,h8,h9,hlt,hwi];exact ih _ _ (by omega) ⟨i+1,rfl,by omega,by simp[hsz],by simp[h1],by simp[h7],by simp[h8],by simp,hr⟩
 ·obtain rfl:i=es.length:=by omega
  rw[List.drop_length,List.all_nil]at hr;simp[hsz,h8,h9,<-hr]
def dupT:za2->za2->Bool
 |_,[]=>false
 |seen,x::r=>seen.contains x||dupT (seen++[x]) r
theorem zgj(xs:za2)(hn:xs.length<=2097152):C yhn [.ro (SS xs)] []=some (.one (.ro (.bool (dupT [] xs))),[]):=by
 refine zae Tryz.func115 yhp rfl ?_;simp
 refine zai (λm e=> ∃i,m=xs.length-i/\i<=xs.length/\e.size=25/\e.get 0=.one (.ro (SS xs))/\e.get 3=.one (.ro (N i))/\dupT (xs.take i) (xs.drop i)=dupT [] xs)
  ?_ xs.length _ ⟨0,rfl,Nat.zero_le _,by simp,by simp,by simp,rfl⟩
 rintro m e ⟨i,rfl,hi,hsz,h0,h3,hr⟩ ih;rcases Nat.lt_or_ge i xs.length with hlt|hge
 ·have hd:xs.drop i=xs[i]::xs.drop (i+1):=List.drop_eq_getElem_cons hlt;have hwi:IntKind.i64.wrap ((i:Int)+1)=((i+1:Nat):Int):=zad (by omega)
  rw[hd,dupT,<-List.take_succ_eq_append_getElem hlt]at hr;simp[hsz,h0,h3,hlt]
  refine zai (λm e=> ∃k,m=i-k/\k<=i/\e.size=25/\e.get 0=.one (.ro (SS xs))/\e.get 3=.one (.ro (N i))/\e.get 4=.one (.ro (N k))/\ ∀j (h:j<xs.length),j<k->(xs[j]==xs[i])=false)
   ?_ i _ ⟨0,rfl,Nat.zero_le _,by simp[hsz],by simp[h0],by simp[h3],by simp,by omega⟩
  clear hsz h0 h3;rintro m e ⟨k,rfl,hk,hsz,h0,h3,h4,hno⟩ ih2;rcases Nat.lt_or_ge k i with hlt2|hge2
  ·have hkx:k<xs.length:=by omega
   have hwk:IntKind.i64.wrap ((k:Int)+1)=((k+1:Nat):Int):=zad (by omega)
   have hki:(k:Int)<i:=by omega
   cases hq:xs[k]==xs[i]with
   |true=>
    have hc:(xs.take i).contains xs[i]=true:=by
     rw[List.contains_iff_mem];have:xs[k]=xs[i]:=by simpa using hq
     rw[<-this];exact List.mem_take_iff_getElem.2 ⟨k,by omega,rfl⟩
    rw[hc,Bool.true_or]at hr;simp[hsz,h0,h3,h4,hlt,hkx,hki,hq,<-hr]
   |false=>
    simp[hsz,h0,h3,h4,hlt,hkx,hki,hq,hwk];refine ih2 _ _ (by omega) ⟨k+1,rfl,by omega,by simp[hsz],by simp[h0],by simp[h3],by simp,λj h hj=>?_⟩
    rcases Nat.lt_or_ge j k with h' |h'
    ·exact hno j h h'
    ·obtain rfl:j=k:=by omega
     exact hq
  ·obtain rfl:k=i:=by omega
   have hc:(xs.take k).contains xs[k]=false:=by
    cases hq:(xs.take k).contains xs[k]with
    |false=>rfl
    |true=>
     rw[List.contains_iff_mem]at hq;obtain⟨j,hj,he⟩:=List.mem_take_iff_getElem.1 hq;have:=hno j (by omega) (by omega)
     rw[he]at this;simp at this
   rw[hc,Bool.false_or]at hr;simp[hsz,h3,h4,hwi];exact ih _ _ (by omega) ⟨k+1,rfl,by omega,by simp[hsz],by simp[h0],by simp,hr⟩
 ·obtain rfl:i=xs.length:=by omega
  rw[List.drop_length,dupT]at hr;simp[hsz,h0,h3,<-hr]
theorem zqe(es:List Ne)(h:∀e∈es,neSz e)(hn:es.length<=1048576):C yhk [.ro (NeS es)] []=some (.one (.ro (.bool (es.all za8&&decide (es.length<=6)))),[]):=by
 refine zae Tryz.func114 yhm rfl ?_;simp
 refine zai (λm e=> ∃i,m=es.length-i/\i<=es.length/\e.size=19/\e.get 0=.one (.ro (NeS es))/\e.get 3=.one (.ro (N i))/\
  (es.drop i).all za8=es.all za8) ?_ es.length _ ⟨0,rfl,Nat.zero_le _,by simp,by simp,by simp,rfl⟩
 rintro m e ⟨i,rfl,hi,hsz,h0,h3,hr⟩ ih;rcases Nat.lt_or_ge i es.length with hlt|hge
 ·have hd:es.drop i=es[i]::es.drop (i+1):=List.drop_eq_getElem_cons hlt;have hwi:IntKind.i64.wrap ((i:Int)+1)=((i+1:Nat):Int):=zad (by omega)
  have hfx:=zqc es[i] (h _ (List.getElem_mem hlt));rw[hd,List.all_cons]at hr
  cases hp:za8 es[i]with
  |false=>
   rw[hp]at hr hfx;simp[hfx,hsz,h0,h3,hlt,<-hr]
  |true=>
   rw[hp]at hr hfx;rw[Bool.true_and]at hr;simp[hfx,hsz,h0,h3,hlt,hwi];exact ih _ _ (by omega) ⟨i+1,rfl,by omega,by simp[hsz],by simp[h0],by simp,hr⟩
 ·obtain rfl:i=es.length:=by omega
  rw[List.drop_length,List.all_nil]at hr;simp[hsz,h0,h3,<-hr]
end Go.Qz
namespace Go.Qz
open Go.Proofs
abbrev Fl:=List UInt8×List UInt8
abbrev FD(f:Fl):D:=.agg [T f.1,T f.2]
abbrev FS(fs:List Fl):D:=.sl 2 (fs.map FD)
@[simp] theorem yfz(fs:List Fl):flats (fs.map FD)=true:=by
  induction fs with
  |nil=>rfl
  |cons a r ih=>simp[flats,D.flat,ih]
def cutB:List UInt8->Option (List UInt8×List UInt8)
 | []=>none
 |c::r=>if c==125 then some ([],r)else(cutB r).map λp=>(c::p.1,p.2)
theorem zg5:∀{d n r:List UInt8},cutB d=some (n,r)->d.length=n.length+1+r.length
 | [],n,r,h=>by cases h
 |c::d,n,r,h=>by
  unfold cutB at h;split at h
  ·cases h;simp;omega
  ·obtain⟨p,hp,he⟩:=Option.map_eq_some_iff.1 h;cases he;have:=zg5 hp;simp at this ⊢;omega
def zfk:List UInt8->Bool
 |a::b::_=>a==36&&b==123
 |_=>false
def zbg(var:List UInt8->Nat×List UInt8)(out:List UInt8)(text:List UInt8):Nat×List UInt8:=
 match text with
 | []=>if 80<out.length then(5,[])else(0,out)
 |c::r=>if zfk (c::r)then
   match h:cutB (r.drop 1)with
   |none=>(1,[])
   |some p=>if za1 p.1 then
    (if (var p.1).1=0 then(if 80<(out++(var p.1).2).length then(5,[])else zbg var (out++(var p.1).2) p.2)else((var p.1).1,[]))
    else(1,[])
  else zbg var (out++[c]) r
termination_by text.length
decreasing_by
 ·have:=zg5 h;simp only[List.length_drop,List.length_cons]at this ⊢;omega
 ·simp
section
variable{var:List UInt8->Nat×List UInt8}{out text:List UInt8}
theorem ze0:zbg var out []=if 80<out.length then(5,[])else(0,out):=by rw[zbg]
theorem zc5{c:UInt8}{r:List UInt8}(h:zfk (c::r)=false):zbg var out (c::r)=zbg var (out++[c]) r:=by rw[zbg];simp[h]
theorem zg6{a b:UInt8}{r:List UInt8}(h:zfk (a::b::r)=true)(hc:cutB r=none):zbg var out (a::b::r)=(1,[]):=by
 rw[zbg];simp only[h,if_true];split
 ·rfl
 ·rename_i p hp;have hp':cutB r=some p:=hp;rw[hc]at hp';cases hp'
theorem zfl{a b:UInt8}{r n rest:List UInt8}(h:zfk (a::b::r)=true)(hc:cutB r=some (n,rest)):zbg var out (a::b::r)=
 if za1 n then(if (var n).1=0 then(if 80<(out++(var n).2).length then(5,[])else zbg var (out++(var n).2) rest)else((var n).1,[]))else(1,[]):=by
 rw[zbg];simp only[h,if_true];split
 ·rename_i hp;have hp':cutB r=none:=hp;rw[hc]at hp';cases hp'
 ·rename_i p hp;have hp':cutB r=some p:=hp;rw[hc]at hp';cases hp';rfl
end
def idxN(n:List UInt8):List Fl->Nat->Int
 | [],_=> -1
 |f::r,i=>if f.1==n then i else idxN n r (i+1)
def zxq(n:List UInt8):List Fl->Option (List UInt8)
 | []=>none
 |f::r=>if f.1==n then some f.2 else zxq n r
theorem zrl(n:List UInt8):∀(fs:List Fl) (i:Nat),(idxN n fs i= -1/\zxq n fs=none)∨ ∃k,idxN n fs i=((i+k:Nat):Int)/\ ∃h:k<fs.length,zxq n fs=some fs[k].2/\fs[k].1=n
 | [],i=>.inl ⟨rfl,rfl⟩
 |f::r,i=>by
  unfold idxN zxq
  cases hf:f.1==n with
  |true=>exact .inr ⟨0,by simp,by simp,by simp,by simpa using hf⟩
  |false=>
   rcases zrl n r (i+1)with⟨h1,h2⟩|⟨k,h1,h,h2,h3⟩
   ·exact .inl ⟨by simpa using h1,by simpa using h2⟩
   ·refine .inr ⟨k+1,?_,by simpa using h,by simpa using h2,by simpa using h3⟩
    simp only[Bool.false_eq_true,if_false,h1];omega
def zcf(lets:List Fl):Nat->za2->List UInt8->Nat×List UInt8
 |0,_,_=>(4,[])
 |d+1,us,n=>match zxq n lets with
  |none=>(3,[])
  |some t=>if us.contains n then(4,[])else zbg (zcf lets d (us++[n])) [] t
structure Deep(lets:List Fl)(d:Nat)(us:za2):Prop where
 nodup:us.Nodup
 sub:∀x∈us,x∈lets.map (·.1)
 enough:lets.length+1<=d+us.length
theorem zkv{α:Type}[BEq α][LawfulBEq α]:∀{us l:List α},us.Nodup->(∀x∈us,x∈l)->us.length<=l.length
 | [],l,_,_=>Nat.zero_le _
 |a::us,l,hn,hs=>by
  rw[List.nodup_cons]at hn;have ha:=hs a List.mem_cons_self;have:=zkv (us:=us) (l:=l.erase a) hn.2 (λx hx=>(List.mem_erase_of_ne (λe=>by rw[e]at hx;exact hn.1 hx)).2 (hs x (List.mem_cons_of_mem _ hx)))
  rw[List.length_erase_of_mem ha]at this;have:=List.length_pos_of_mem ha;simp;omega
theorem Deep.pos{lets:List Fl}{d:Nat}{us:za2}(h:Deep lets d us):0<d:=by
 rcases Nat.eq_zero_or_pos d with rfl|h0
 ·have h1:=zkv h.nodup h.sub;have:=h.enough;simp at h1;omega
 ·exact h0
theorem Deep.next{lets:List Fl}{d:Nat}{us:za2}{n:List UInt8}(h:Deep lets (d+1) us)(hn:us.contains n=false)(hm:n∈lets.map (·.1)):Deep lets d (us++[n]) where
 nodup:=by
  rw[List.nodup_append];refine⟨h.nodup,by simp,λa ha b hb=>?_⟩
  simp at hb;subst hb;rintro rfl;simp at hn;exact hn ha
 sub:=λx hx=>by
  rcases List.mem_append.1 hx with h1|h1
  ·exact h.sub x h1
  ·simp at h1;subst h1;exact hm
 enough:=by have:=h.enough;simp;omega
end Go.Qz
namespace Go.Qz
open Go.Proofs
def z5u:Option (List UInt8×List UInt8)->V
 |none=>.tup [.ro (T []),.ro (T []),.ro (.bool false)]
 |some p=>.tup [.ro (T p.1),.ro (T p.2),.ro (.bool (za1 p.1))]
theorem z5v(a b:UInt8)(d:List UInt8)(hn:d.length<=1000000):C yhq [.ro (T (a::b::d))] []=some (z5u (cutB d),[]):=by
 refine zae Tryz.func116 yhs rfl ?_;simp;generalize ht:a::b::d=t at *;have hd0:t.drop 2=d:=by rw[<-ht];rfl
 have hlen:t.length=d.length+2:=by rw[<-ht];rfl
 refine zai (λm e=> ∃i,m=t.length-i/\2<=i/\i<=t.length/\e.size=27/\e.get 0=.one (.ro (T t))/\e.get 5=.one (.ro (N i))/\(cutB (t.drop i)).map (λp=>((t.take i).drop 2++p.1,p.2))=cutB d)
  ?_ (t.length-2) _ ⟨2,rfl,Nat.le_refl _,by omega,by simp,by simp,by simp,?_⟩
 ·rintro m e ⟨i,rfl,h2,hi,hsz,h0,h5,hr⟩ ih;rcases Nat.lt_or_ge i t.length with hlt|hge
  ·have hwi:IntKind.i64.wrap ((i:Int)+1)=((i+1:Nat):Int):=zad (by omega)
   have hd:t.drop i=t[i]::t.drop (i+1):=List.drop_eq_getElem_cons hlt;rw[hd,cutB]at hr
   cases hc:t[i]==125 with
   |true=>
    rw[hc]at hr;simp at hr;have hl:=zib ((t.take i).drop 2) (by simp;omega)
    rw[zks]at hl;have h3i:(0:Int)<=(i:Int)+1:=by omega
    have h4i:(i:Int)+1<=(t.length:Int):=by omega
    have h5i:((i:Int)+1).toNat=i+1:=by omega
    simp[hsz,h0,h5,hlt,hc,hwi,hl,<-hr,z5u,h2,hi,h3i,h4i,h5i]
   |false=>
    rw[hc]at hr;simp at hr;simp[hsz,h0,h5,hlt,hc,hwi];refine ih _ _ (by omega) ⟨i+1,rfl,by omega,by omega,by simp[hsz],by simp[h0],by simp,?_⟩
    rw[<-hr];have ht2:t.take (i+1)=t.take i++[t[i]]:=List.take_succ_eq_append_getElem hlt;rw[ht2,List.drop_append_of_le_length (by simp;omega)]
    cases cutB (t.drop (i+1))<;>simp
  ·obtain rfl:i=t.length:=by omega
   rw[List.drop_length]at hr;simp[cutB]at hr;simp[hsz,h0,h5,<-hr,z5u]
 ·rw[hd0];have:(t.take 2).drop 2=[]:=by rw[List.drop_eq_nil_iff];simp;omega
  rw[this];cases cutB d<;>simp
end Go.Qz
namespace Go.Qz
open Go.Proofs
theorem zzi(fs:List Fl)(n:List UInt8)(hn:fs.length<=1000000):C yht [.ro (FS fs),.ro (T n)] []=some (.one (.ro (I (idxN n fs 0))),[]):=by
 refine zae Tryz.func117 yhv rfl ?_;simp
 refine zai (λm e=> ∃i,m=fs.length-i/\i<=fs.length/\e.size=20/\e.get 0=.one (.ro (FS fs))/\e.get 1=.one (.ro (T n))/\e.get 5=.one (.ro (N i))/\idxN n (fs.drop i) i=idxN n fs 0)
  ?_ fs.length _ ⟨0,rfl,Nat.zero_le _,by simp,by simp,by simp,by simp,rfl⟩
 rintro m e ⟨i,rfl,hi,hsz,h0,h1,h5,hr⟩ ih;rcases Nat.lt_or_ge i fs.length with hlt|hge
 ·have hwi:IntKind.i64.wrap ((i:Int)+1)=((i+1:Nat):Int):=zad (by omega)
  have hd:fs.drop i=fs[i]::fs.drop (i+1):=List.drop_eq_getElem_cons hlt;rw[hd,idxN]at hr
  cases hc:fs[i].1==n with
  |true=>
   rw[hc]at hr;simp only[if_true]at hr;simp[hsz,h0,h1,h5,hlt,hc,<-hr]
  |false=>
   rw[hc]at hr;simp only[Bool.false_eq_true,if_false]at hr;simp[hsz,h0,h1,h5,hlt,hc,hwi];exact ih _ _ (by omega) ⟨i+1,rfl,by omega,by simp[hsz],by simp[h0],by simp[h1],by simp,hr⟩
 ·obtain rfl:i=fs.length:=by omega
  rw[List.drop_length,idxN]at hr;simp[hsz,h0,h5,<-hr]
def zcg(l:List UInt8):Bool:=l.all zcy&&inI l.length 1 80
theorem zqf(l:List UInt8)(hn:l.length<=140737488351232):C yek [.ro (T l)] []=some (.one (.ro (.bool (zcg l))),[]):=by
 refine zae Tryz.func111 yhd rfl ?_;simp;unfold zcg
 refine zai (λm e=> ∃i,m=l.length-i/\i<=l.length/\e.size=19/\e.get 0=.one (.ro (T l))/\e.get 3=.one (.ro (N i))/\((l.drop i).all zcy&&inI l.length 1 80)=(l.all zcy&&inI l.length 1 80))
  ?_ l.length _ ⟨0,rfl,Nat.zero_le _,by simp,by simp,by simp,rfl⟩
 rintro m e ⟨i,rfl,hi,hsz,h0,h3,hr⟩ ih;rcases Nat.lt_or_ge i l.length with hlt|hge
 ·have hwi:IntKind.i64.wrap ((i:Int)+1)=((i+1:Nat):Int):=zad (by omega)
  have hd:l.drop i=l[i]::l.drop (i+1):=List.drop_eq_getElem_cons hlt;have hin:=zlm l[i].toNat 32 126;have hw:IntKind.i64.wrap (l[i].toNat:Int)=(l[i].toNat:Int):=wrap64 (by omega) (by have:=l[i].toNat_lt;omega)
  rw[z8y]at hin;rw[hd,List.all_cons]at hr
  cases hc:zcy l[i]with
  |false=>
   rw[hc]at hin hr;simp only[Bool.false_and]at hr;simp[hsz,h0,h3,hlt,hin,hw,<-hr]
  |true=>
   rw[hc]at hin hr;simp only[Bool.true_and]at hr;simp[hsz,h0,h3,hlt,hin,hw,hwi];exact ih _ _ (by omega) ⟨i+1,rfl,by omega,by simp[hsz],by simp[h0],by simp,hr⟩
 ·obtain rfl:i=l.length:=by omega
  rw[List.drop_length]at hr;simp only[List.all_nil,Bool.true_and]at hr;have hin:=zlm l.length 1 80;simp[hsz,h0,h3,hin,<-hr]
def letB(f:Fl):Bool:=za1 f.1&&zcg f.2
def zhj(fs:List Fl):Bool:=fs.all letB&&decide (fs.length<=8)
theorem z5w(fs:List Fl)(hn:fs.length<=140737488351232)(hx:∀f∈fs,f.1.length<=140737488351232/\f.2.length<=140737488351232):C yhh [.ro (FS fs)] []=some (.one (.ro (.bool (zhj fs))),[]):=by
 refine zae Tryz.func113 yhj rfl ?_;simp;unfold zhj
 refine zai (λm e=> ∃i,m=fs.length-i/\i<=fs.length/\e.size=29/\e.get 0=.one (.ro (FS fs))/\e.get 3=.one (.ro (N i))/\((fs.drop i).all letB&&decide (fs.length<=8))=(fs.all letB&&decide (fs.length<=8)))
  ?_ fs.length _ ⟨0,rfl,Nat.zero_le _,by simp,by simp,by simp,rfl⟩
 rintro m e ⟨i,rfl,hi,hsz,h0,h3,hr⟩ ih;rcases Nat.lt_or_ge i fs.length with hlt|hge
 ·have hwi:IntKind.i64.wrap ((i:Int)+1)=((i+1:Nat):Int):=zad (by omega)
  have hd:fs.drop i=fs[i]::fs.drop (i+1):=List.drop_eq_getElem_cons hlt;obtain⟨x1,x2⟩:=hx _ (List.getElem_mem hlt);have hp:=zib fs[i].1 x1;rw[zks]at hp;have hl:=zqf fs[i].2 x2;rw[hd,List.all_cons]at hr;rw[show letB fs[i]=(za1 fs[i].1&&zcg fs[i].2)from rfl]at hr
  cases h1:za1 fs[i].1<;>cases h2:zcg fs[i].2<;>rw[h1]at hp<;>rw[h2]at hl<;>rw[h1,h2]at hr<;>simp only[Bool.false_and,Bool.true_and,Bool.and_false]at hr
  ·simp[hsz,h0,h3,hlt,hp,<-hr]
  ·simp[hsz,h0,h3,hlt,hp,<-hr]
  ·simp[hsz,h0,h3,hlt,hp,hl,<-hr]
  ·simp[hsz,h0,h3,hlt,hp,hl,hwi];exact ih _ _ (by omega) ⟨i+1,rfl,by omega,by simp[hsz],by simp[h0],by simp,hr⟩
 ·obtain rfl:i=fs.length:=by omega
  rw[List.drop_length]at hr;simp only[List.all_nil,Bool.true_and]at hr;simp[hsz,h0,h3,<-hr]
end Go.Qz
namespace Go.Qz
open Go.Proofs
structure Lets(lets:List Fl):Prop where
 len:lets.length<=8
 text:∀f∈lets,f.2.length<=80
theorem zix{t:List UInt8}(h:zfk t=true):∃r,t=36::123::r:=by
 match t,h with
 |a::b::r,h=>
  simp only[zfk,Bool.and_eq_true,beq_iff_eq]at h;exact⟨r,by rw[h.1,h.2]⟩
theorem zln(var:List UInt8->Nat×List UInt8):∀(k:Nat) (out text:List UInt8),text.length<=k->(zbg var out text).2.length<=80
 |k,out,[],_=>by rw[ze0];split<;>simp;omega
 |0,out,c::r,h=>by simp at h
 |k+1,out,c::r,h=>by
  cases hm:zfk (c::r)with
  |false=>
   rw[zc5 hm];exact zln var k _ _ (by simp at h;omega)
  |true=>
   obtain⟨q,hq⟩:=zix hm;rw[hq]at hm h ⊢
   cases hc:cutB q with
   |none=>rw[zg6 hm hc];simp
   |some p=>
    have:=zg5 (n:=p.1) (r:=p.2) hc;rw[zfl hm hc];split
    ·split
     ·split
      ·simp
      ·exact zln var k _ _ (by simp at h;omega)
     ·simp
    ·simp
theorem zuf(lets:List Fl):∀(d:Nat) (us:za2) (n:List UInt8),(zcf lets d us n).2.length<=80
 |0,_,_=>by simp[zcf]
 |d+1,us,n=>by
  unfold zcf;split
  ·simp
  ·split
   ·simp
   ·exact zln _ _ _ _ (Nat.le_refl _)
theorem zxr(lets:List Fl)(hl:Lets lets):∀(d:Nat) (us:za2) (text:List UInt8),Deep lets d us->text.length<=80->
 C Fn40 [.ro (FS lets),.ro (T text),.ro (SS us)] []=some (.tup [.ro (T (zbg (zcf lets d us) [] text).2),.ro (N (zbg (zcf lets d us) [] text).1)],[]):=by
 intro d
 induction d with
 |zero=>intro us text hd;exact absurd hd.pos (Nat.lt_irrefl 0)
 |succ d ihd=>
  intro us text hd ht
  have hul:us.length<=8:=by
   have:=zkv hd.nodup hd.sub;simp at this;exact Nat.le_trans this hl.len
  refine zae Tryz.func40 Cv40 rfl ?_;simp
  refine zai (λm e=> ∃out t,m=t.length/\t.length<=80/\out.length+t.length<=170/\e.size=89/\e.get 0=.one (.ro (FS lets))/\e.get 1=.one (.ro (T t))/\e.get 2=.one (.ro (SS us))/\e.get 8=.one (.ro (T out))/\
   zbg (zcf lets (d+1) us) out t=zbg (zcf lets (d+1) us) [] text)
   ?_ text.length _ ⟨[],text,rfl,ht,by simp;omega,by simp,by simp,by simp,by simp,by simp,rfl⟩
  rintro m e ⟨out,t,rfl,ht,hot,hsz,h0,h1,h2,h8,hr⟩ ih
  cases t with
  |nil=>
   rw[ze0]at hr;by_cases hlo:80<out.length
   ·rw[if_pos hlo]at hr;simp[hsz,h1,h8,hlo,<-hr]
   ·rw[if_neg hlo]at hr;simp[hsz,h1,h8,hlo,<-hr]
  |cons c r=>
   have hms:out.length+1<=zak:=by simp[zak];simp at hot;omega
   cases r with
   |nil=>
    rw[zc5 (by rfl)]at hr
    simp[hsz,h1,h8,hms];exact ih _ _ (by simp) ⟨out++[c],[],rfl,by simp,by simp at hot ⊢;omega,by simp[hsz],by simp[h0],by simp;rfl,by simp[h2],by simp,hr⟩
   |cons b q=>
    have f1:¬((q.length:Int)+1+1<2):=by omega
    have f2:(2:Int)<=(q.length:Int)+1+1:=by omega
    have f3:(1:Int)<=(q.length:Int)+1+1:=by omega
    cases hm:zfk (c::b::q)with
    |false=>
     rw[zc5 hm]at hr
     have hne:([c,b]==[36,123])=false:=by
      simp only[zfk]at hm;simpa using hm
     simp[hsz,h1,h8,hms,hne,f1,f2,f3];exact ih _ _ (by simp) ⟨out++[c],b::q,rfl,by simp at ht ⊢;omega,by simp at hot ⊢;omega,by simp[hsz],by simp[h0],by simp,by simp[h2],by simp,hr⟩
    |true=>
     obtain⟨q',hq'⟩:=zix hm;simp only[List.cons.injEq]at hq';obtain⟨rfl,rfl,rfl⟩:=hq';have hname:=z5v 36 123 q (by simp at ht;omega)
     cases hc:cutB q with
     |none=>
      rw[zg6 hm hc]at hr;rw[hc]at hname;simp only[z5u]at hname;have hlet:=zzi lets [] (by have:=hl.len;omega)
      simp[hsz,h0,h1,f1,f2,hname,hlet,<-hr]
     |some p=>
      obtain⟨n,rest⟩:=p;have hcl:=zg5 hc;rw[zfl hm hc]at hr;rw[hc]at hname;simp only[z5u]at hname;have hlet:=zzi lets n (by have:=hl.len;omega)
      cases hp:za1 n with
      |false=>
       rw[hp]at hname hr;simp only[Bool.false_eq_true,if_false]at hr;simp[hsz,h0,h1,f1,f2,hname,hlet,<-hr]
      |true=>
       rw[hp]at hname hr;simp only[if_true]at hr;rcases zrl n lets 0 with⟨x1,x2⟩|⟨k,x1,hk,x2,x3⟩
       ·rw[x1]at hlet;have hv:zcf lets (d+1) us n=(3,[]):=by rw[zcf,x2]
        rw[hv]at hr;simp at hr;simp[hsz,h0,h1,f1,f2,hname,hlet,<-hr]
       ·rw[x1]at hlet;simp at hlet;simp[hsz,h0,h1,f1,f2,hname,hlet]
        refine zai (λm e=> ∃i,m=us.length-i/\i<=us.length/\e.size=89/\e.get 0=.one (.ro (FS lets))/\e.get 2=.one (.ro (SS us))/\e.get 8=.one (.ro (T out))/\e.get 9=.one (.ro (T n))/\e.get 10=.one (.ro (T rest))/\e.get 12=.one (.ro (N k))/\e.get 13=.one (.ro (N i))/\
         (us.drop i).contains n=us.contains n) ?_ us.length _ ⟨0,rfl,Nat.zero_le _,by simp[hsz],by simp[h0],by simp[h2],by simp[h8],by simp,by simp,by simp,by simp,rfl⟩
        clear h0 h1 h2 h8 hsz;rintro m e' ⟨i,rfl,hi,hsz,h0,h2,h8,h9,h10,h12,h13,hcn⟩ ih2;rcases Nat.lt_or_ge i us.length with hlt|hge
        ·have hwi:IntKind.i64.wrap ((i:Int)+1)=((i+1:Nat):Int):=zad (by omega)
         have hd':us.drop i=us[i]::us.drop (i+1):=List.drop_eq_getElem_cons hlt;rw[hd',List.contains_cons]at hcn
         cases he:us[i]==n with
         |true=>
          have he':(n==us[i])=true:=by
           have:us[i]=n:=by simpa using he
           simp[this]
          rw[he',Bool.true_or]at hcn;have hv:zcf lets (d+1) us n=(4,[]):=by rw[zcf,x2];simp only;rw[if_pos hcn.symm]
          rw[hv]at hr;simp at hr;simp[hsz,h2,h9,h13,hlt,he,<-hr]
         |false=>
          have he':(n==us[i])=false:=by
           have:¬us[i]=n:=by simpa using he
           simpa using λh=>this h.symm
          rw[he',Bool.false_or]at hcn;simp[hsz,h2,h9,h13,hlt,he,hwi];exact ih2 _ _ (by omega) ⟨i+1,rfl,by omega,by simp[hsz],by simp[h0],by simp[h2],by simp[h8],by simp[h9],by simp[h10],by simp[h12],by simp,hcn⟩
        ·obtain rfl:i=us.length:=by omega
         rw[List.drop_length]at hcn;have hcn':us.contains n=false:=hcn.symm;have hv:zcf lets (d+1) us n=zbg (zcf lets d (us++[n])) [] lets[k].2:=by rw[zcf,x2];simp only;rw[if_neg (by rw[hcn'];simp)]
         have hrec:=ihd (us++[n]) lets[k].2 (hd.next hcn' (by rw[<-x3];exact List.mem_map_of_mem (List.getElem_mem hk))) (hl.text _ (List.getElem_mem hk))
         rw[<-hv,show SS (us++[n])=.sl 1 (us.map T++[T n]) by simp]at hrec
         have hvl:=zuf lets (d+1) us n;generalize hxv:zcf lets (d+1) us n=xv at *;obtain⟨code,s⟩:=xv;simp only at hrec hr hvl;have ha:us.length+1<=zag:=by simp[zag];omega
         have ha0:us.length<=zag:=by simp[zag];omega
         by_cases hcode:code=0
         ·subst hcode;simp only[if_true]at hr;have hms2:out.length+s.length<=zak:=by simp[zak];simp at hot;omega
          by_cases hlo:80<(out++s).length
          ·rw[if_pos hlo]at hr;have hlo':80<out.length+s.length:=by simpa using hlo
           have hloi:(80:Int)<(out.length:Int)+(s.length:Int):=by omega
           simp[hsz,h0,h2,h8,h9,h10,h12,h13,hk,ha,ha0,hrec,hms2,hloi,<-hr]
          ·rw[if_neg hlo]at hr;have hlo':¬80<out.length+s.length:=by simpa using hlo
           have hloi:¬(80:Int)<(out.length:Int)+(s.length:Int):=by omega
           simp[hsz,h0,h2,h8,h9,h10,h12,h13,hk,ha,ha0,hrec,hms2,hloi];exact ih _ _ (by simp only[List.length_cons];omega) ⟨out++s,rest,rfl,by simp at ht;omega,by simp at ht hot ⊢;omega,by simp[hsz],by simp[h0],by simp,by simp[h2],by simp,hr⟩
         ·rw[if_neg hcode]at hr;have hcb:(code==0)=false:=by simpa using hcode
          simp[hsz,h0,h2,h9,h12,h13,hk,ha,ha0,hrec,hcb,<-hr]
end Go.Qz
namespace Go.Qz
open Go.Proofs
theorem yay:∀d:List UInt8,Lib.cut d [125]=(match cutB d with|some p=>(p.1,p.2,true)|none=>(d,[],false))
 | []=>by simp[Lib.cut,Lib.index,cutB]
 |c::r=>by
  have ih:=yay r;unfold cutB
  cases hc:c==125 with
  |true=>
   have h1:Lib.index (c::r) [125]=0:=by
    have:(125==c)=true:=by
     have:c=125:=by simpa using hc
     simp[this]
    simp[Lib.index,List.isPrefixOf,this]
   simp[Lib.cut,h1]
  |false=>
   have hne:(125==c)=false:=by
    have:¬c=125:=by simpa using hc
    simpa using λh=>this h.symm
   have h1:Lib.index (c::r) [125]=if Lib.index r [125]== -1 then-1 else Lib.index r [125]+1:=by
    simp[Lib.index,List.isPrefixOf,hne]
   have hg:=Lib.index_ge r [125];simp only[Bool.false_eq_true,if_false]
   cases hb:cutB r with
   |none=>
    rw[hb]at ih;simp only[Lib.cut]at ih
    have hn:¬0<=Lib.index r [125]:=by
     intro h0;rw[if_pos h0]at ih;simp at ih
    have hm:Lib.index r [125]= -1:=by omega
    rw[hm]at h1;simp at h1;simp[Lib.cut,h1]
   |some p=>
    rw[hb]at ih;simp only[Lib.cut]at ih
    have hp:0<=Lib.index r [125]:=by
     rcases Int.lt_or_le (Lib.index r [125]) 0 with h0|h0
     ·rw[if_neg (by omega)]at ih
      simp at ih
     ·exact h0
    rw[if_pos hp]at ih
    have hm:(Lib.index r [125]== -1)=false:=by
     have:Lib.index r [125]≠ -1:=by omega
     simpa using this
    rw[hm]at h1;simp only[Bool.false_eq_true,if_false]at h1;have hp':0<=Lib.index r [125]+1:=by omega
    have ht:(Lib.index r [125]+1).toNat=(Lib.index r [125]).toNat+1:=by omega
    simp only[Prod.mk.injEq,List.length_singleton,and_true]at ih;simp only[Lib.cut,h1,if_pos hp',ht,List.length_singleton,Option.map_some];rw[List.take_succ_cons,ih.1,Nat.add_right_comm,List.drop_succ_cons,ih.2]
def refV:Option (List UInt8×List UInt8)->V
 |none=>.tup [.ro (T []),.ro (T []),.ro (.bool false)]
 |some p=>if za1 p.1 then .tup [.ro (T p.1),.ro (T p.2),.ro (.bool true)]else .tup [.ro (T []),.ro (T []),.ro (.bool false)]
theorem zug(d:List UInt8)(hn:d.length<=1000000):C yb4 [.ro (T (36::123::d)),.ro (T [36,123])] []=some (.one (.ro (.bool true)),[]):=by
 refine zae Tryz.func192 yb5 rfl ?_;have f2:(2:Int)<=(d.length:Int)+1+1:=by omega
 simp[f2]
theorem z9b(d:List UInt8)(hn:d.length<=1000000):C yla [.ro (T (36::123::d)),.ro (T [36,123])] []=some (.one (.ro (T d)),[]):=by
 refine zae Tryz.func217 ylc rfl ?_;have h:=zug d hn;have f2:(2:Int)<=(d.length:Int)+1+1:=by omega
 simp[h,f2]
theorem yce(d:List UInt8)(hn:d.length<=1000000):C yk1 [.ro (T (36::123::d)),.ro (T [36,123])] []=some (.one (.ro (T d)),[]):=by
 refine zae Tryz.func199 yk3 rfl ?_;have h:=z9b d hn;simp[h]
theorem zuh(d:List UInt8)(hn:d.length<=1000000):C yki [.ro (T (36::123::d))] []=some (refV (cutB d),[]):=by
 refine zae Tryz.func180 ykk rfl ?_;have h1:=yce d hn;have h2:=z5d d [125] (by omega)
 rw[yay]at h2
 cases hc:cutB d with
 |none=>
  rw[hc]at h2;simp only at h2;simp[h1,h2,refV]
 |some p=>
  have hl:=zg5 (n:=p.1) (r:=p.2) hc;rw[hc]at h2;simp only at h2;have h3:=zdj p.1 (by omega)
  unfold refV;cases hp:za1 p.1<;>rw[hp]at h3<;>simp[h1,h2,h3,hp]
end Go.Qz
namespace Go.Qz
open Go.Proofs
theorem z1k(f:Fl)(n:List UInt8)(c:Nat)(hc:c<10000)(hc2:5000<=c):C yk4 [.ro (FD f),.ptr c 0] [(c,[.ro (T n)])]=some (.one (.ro (.bool (f.1==n))),[(c,[.ro (T n)])]):=by
 refine zae Tryz.func200 yk6 rfl ?_;have h1:¬c=2:=by omega
 simp[hc,h1]
theorem zui(fs:List Fl)(n:List UInt8)(hn:fs.length<=1000000):C yes [.ro (FS fs),.fn 200 [.ptr 5100]] [(5100,[.ro (T n)])]=some (.one (.ro (I (idxN n fs 0))),[(5100,[.ro (T n)])]):=by
 refine zae Tryz.func179 yet rfl ?_;simp
 refine zai (λm e=> ∃i,m=fs.length-i/\i<=fs.length/\e.size=19/\e.get 0=.one (.ro (FS fs))/\e.get 1=.one (.fn 200 [.ptr 5100])/\e.box 5100=some [.ro (T n)]/\e.get 7=.one (.ro (N fs.length))/\e.get 8=.one (.ro (N i))/\idxN n (fs.drop i) i=idxN n fs 0)
  ?_ fs.length _ ⟨0,rfl,Nat.zero_le _,by simp,by simp,by simp,by simp,by simp,by simp,rfl⟩
 rintro m e ⟨i,rfl,hi,hsz,h0,h1,hb,h7,h8,hr⟩ ih;rcases Nat.lt_or_ge i fs.length with hlt|hge
 ·have hwi:IntKind.i64.wrap ((i:Int)+1)=((i+1:Nat):Int):=zad (by omega)
  have hd:fs.drop i=fs[i]::fs.drop (i+1):=List.drop_eq_getElem_cons hlt;have hv:=z1k fs[i] n 5001 (by decide) (by decide)
  rw[hd,idxN]at hr
  cases hc:fs[i].1==n with
  |true=>
   rw[hc]at hv hr;simp only[if_true]at hr;simp[hsz,h0,h1,hb,h7,h8,hlt,hv,<-hr]
  |false=>
   rw[hc]at hv hr;simp only[Bool.false_eq_true,if_false]at hr;simp[hsz,h0,h1,hb,h7,h8,hlt,hv,hwi];exact ih _ _ (by omega) ⟨i+1,rfl,by omega,by simp[hsz],by simp[h0],by simp[h1],by simp,by simp[h7],by simp,hr⟩
 ·obtain rfl:i=fs.length:=by omega
  rw[List.drop_length,idxN]at hr;simp[hsz,hb,h7,h8,<-hr]
end Go.Qz
namespace Go.Qz
open Go.Proofs
def errA(c:Nat):A:=if c=0 then .ro .nili else .ro (.iface 195 (.agg [N c]))
theorem zoj:errA 0=.ro .nili:=rfl
theorem zrm{c:Nat}(h:c≠0):errA c=.ro (.iface 195 (.agg [N c])):=if_neg h
def zzj(lets:List Fl)(d:Nat):Prop:=∀(us:za2) (text:List UInt8),Deep lets d us->text.length<=80->
 C yjd [.ptr 5000 0,.ro (T text)] [(5000,[.ro (FS lets),.own (SS us)])]=some (.tup [.ro (T (zbg (zcf lets d us) [] text).2),errA (zbg (zcf lets d us) [] text).1],[(5000,[.ro (FS lets),.own (SS us)])])
theorem zxs(lets:List Fl)(hl:Lets lets)(d:Nat)(hx:zzj lets d)(us:za2)(n:List UInt8)(hd:Deep lets (d+1) us)(_:n.length<=1000000):
 C ykl [.ptr 5000 0,.ro (T n)] [(5000,[.ro (FS lets),.own (SS us)])]=some (.tup [.ro (T (zcf lets (d+1) us n).2),errA (zcf lets (d+1) us n).1],[(5000,[.ro (FS lets),.own (SS us)])]):=by
 have hul:us.length<=8:=by
  have:=zkv hd.nodup hd.sub;simp at this;exact Nat.le_trans this hl.len
 refine zae Tryz.func181 ykn rfl ?_;have hix:=zui lets n (by have:=hl.len;omega)
 have hct:=zfg us n (by omega)
 rcases zrl n lets 0 with⟨x1,x2⟩|⟨k,x1,hk,x2,x3⟩
 ·have hv:zcf lets (d+1) us n=(3,[]):=by rw[zcf,x2]
  rw[x1]at hix;rw[hv];simp[hix,errA]
 ·rw[x1]at hix;simp at hix
  cases hc:us.contains n with
  |true=>
   have hv:zcf lets (d+1) us n=(4,[]):=by rw[zcf,x2];simp only;rw[if_pos hc]
   rw[hc]at hct;rw[hv];simp[hix,hct,errA]
  |false=>
   have hv:zcf lets (d+1) us n=zbg (zcf lets d (us++[n])) [] lets[k].2:=by rw[zcf,x2];simp only;rw[if_neg (by rw[hc];simp)]
   have hrec:=hx (us++[n]) lets[k].2 (hd.next hc (by rw[<-x3];exact List.mem_map_of_mem (List.getElem_mem hk))) (hl.text _ (List.getElem_mem hk))
   rw[show SS (us++[n])=.sl 1 (us.map T++[T n]) by simp,<-hv]at hrec
   rw[hc]at hct;have ha:us.length+1<=zag:=by simp[zag];omega
   have hw1:IntKind.i64.wrap (us.length:Int)=us.length:=wrap64 (by omega) (by omega)
   have hw3:(us.length:Int)<=us.length+1:=by omega
   generalize zcf lets (d+1) us n=xv at *;obtain⟨code,s⟩:=xv;simp only at hrec ⊢;by_cases hcode:code=0
   ·subst hcode;rw[zoj]at hrec ⊢;simp[hix,hct,hk,ha,hrec,hw1,hw3]
   ·rw[zrm hcode]at hrec ⊢;simp[hix,hct,hk,ha,hrec,hw1,hw3]
end Go.Qz
namespace Go.Qz
open Go.Proofs
theorem zuj:∀t:List UInt8,(Lib.index t [36,123]= -1/\ ∀var out,zbg var out t=if 80<(out++t).length then(5,[])else(0,out++t))∨
 ∃pre r,t=pre++36::123::r/\Lib.index t [36,123]=pre.length/\ ∀var out,zbg var out t=zbg var (out++pre) (36::123::r)
 | []=>.inl ⟨by rfl,λvar out=>by rw[ze0];simp⟩
 |c::r=>by
  cases hm:zfk (c::r)with
  |true=>
   obtain⟨q,hq⟩:=zix hm;rw[hq];exact .inr ⟨[],q,rfl,by simp[Lib.index,List.isPrefixOf],λvar out=>by simp⟩
  |false=>
   have hp:List.isPrefixOf [36,123] (c::r)=false:=by
    cases r with
    |nil=>simp[List.isPrefixOf]
    |cons b q=>
     simp only[zfk]at hm;have h1:(36==c)=(c==36):=Bool.beq_comm;have h2:(123==b)=(b==123):=Bool.beq_comm;simp[List.isPrefixOf,h1,h2,hm]
   have hi:Lib.index (c::r) [36,123]=if Lib.index r [36,123]== -1 then-1 else Lib.index r [36,123]+1:=by
    rw[Lib.index,hp];simp
   rcases zuj r with⟨h1,h2⟩|⟨pre,q,h1,h2,h3⟩
   ·refine .inl ⟨by rw[hi,h1];rfl,λvar out=>?_⟩
    rw[zc5 hm,h2];simp
   ·refine .inr ⟨c::pre,q,by rw[h1];rfl,?_,λvar out=>?_⟩
    ·rw[hi,h2];have:((pre.length:Int)== -1)=false:=by rw[beq_eq_false_iff_ne];omega
     rw[this];simp
    ·rw[zc5 hm,h3];simp
theorem z5x(lets:List Fl)(hl:Lets lets):∀d,zzj lets d:=by
 intro d
 induction d with
 |zero=>intro us text hd;exact absurd hd.pos (Nat.lt_irrefl 0)
 |succ d ihd=>
  intro us text hd ht;refine zae Tryz.func155 yjf rfl ?_;simp
  refine zai (λm e=> ∃out t,m=t.length/\t.length<=80/\out.length<=80/\e.size=60/\e.get 0=.one (.ptr 5000 0)/\e.get 1=.one (.ro (T t))/\e.get 6=.one (.ro (T out))/\e.box 5000=some [.ro (FS lets),.own (SS us)]/\
   zbg (zcf lets (d+1) us) out t=zbg (zcf lets (d+1) us) [] text)
   ?_ text.length _ ⟨[],text,rfl,ht,by simp,by simp,by simp,by simp,by simp,by simp,rfl⟩
  rintro m e ⟨out,t,rfl,ht,ho,hsz,h0,h1,h6,hb,hr⟩ ih;have hix:=z5b t [36,123] (by omega)
  rcases zuj t with⟨x1,x2⟩|⟨pre,r,x1,x2,x3⟩
  ·rw[x1]at hix;rw[x2]at hr;have hms:out.length+t.length<=zak:=by simp[zak];omega
   by_cases hlo:80<out.length+t.length
   ·rw[if_pos (by simpa using hlo)]at hr
    have hlo':(80:Int)<(out.length:Int)+t.length:=by omega
    simp[hsz,h1,h6,hb,hix,hms,hlo',<-hr,errA]
   ·rw[if_neg (by simpa using hlo)]at hr
    have hlo':¬(80:Int)<(out.length:Int)+t.length:=by omega
    simp[hsz,h1,h6,hb,hix,hms,hlo',<-hr,errA]
  ·subst x1;rw[x2]at hix;rw[x3]at hr;simp only[List.length_append,List.length_cons]at ht;have href:=zuh r (by omega)
   have hpl:(pre.length:Int)<=(pre.length:Int)+((r.length:Int)+1+1):=by omega
   have hp0:¬(pre.length:Int)<0:=by omega
   have hmk:zfk (36::123::r)=true:=rfl
   have hdt:List.drop pre.length (List.take (pre.length+(r.length+1+1)) (pre++36::123::r))=36::123::r:=by
    rw[List.take_of_length_le (by simp),List.drop_left]
   cases hc:cutB r with
   |none=>
    rw[zg6 hmk hc]at hr;rw[hc]at href;simp only[refV]at href;simp[hsz,h1,hb,hix,hp0,hpl,hdt,href,<-hr,errA]
   |some p=>
    obtain⟨n,rest⟩:=p;have hcl:=zg5 hc;rw[zfl hmk hc]at hr;rw[hc]at href;simp only[refV]at href
    cases hp:za1 n with
    |false=>
     rw[hp]at href hr;simp only[Bool.false_eq_true,if_false]at href hr;simp[hsz,h1,hb,hix,hp0,hpl,hdt,href,<-hr,errA]
    |true=>
     rw[hp]at href hr;simp only[if_true]at href hr;have hv:=zxs lets hl d ihd us n hd (by omega)
     have hvl:=zuf lets (d+1) us n;generalize hxe:zcf lets (d+1) us n=xv at hv hr hvl;obtain⟨code,s⟩:=xv;simp only at hv hr hvl;by_cases hcode:code=0
     ·subst hcode;simp only[if_true]at hr;rw[zoj]at hv;have hm1:pre.length+s.length<=zak:=by simp[zak];omega
      have hm2:out.length+(pre.length+s.length)<=zak:=by simp[zak];omega
      by_cases hlo:80<(out++pre++s).length
      ·rw[if_pos hlo]at hr;simp at hlo;have hlo':(80:Int)<(out.length:Int)+((pre.length:Int)+s.length):=by omega
       simp[hsz,h0,h1,h6,hb,hix,hp0,hpl,hdt,href,hv,hm1,hm2,hlo',<-hr,errA]
      ·rw[if_neg hlo]at hr;simp at hlo;have hlo':¬(80:Int)<(out.length:Int)+((pre.length:Int)+s.length):=by omega
       simp[hsz,h0,h1,h6,hb,hix,hp0,hpl,hdt,href,hv,hm1,hm2,hlo'];exact ih _ _ (by simp;omega) ⟨out++pre++s,rest,rfl,by omega,by simp;omega,by simp[hsz],by simp[h0],by simp,by simp,by simp,hr⟩
     ·rw[if_neg hcode]at hr;rw[zrm hcode]at hv;simp[hsz,h0,h1,hb,hix,hp0,hpl,hdt,href,hv,<-hr,errA,hcode]
end Go.Qz
namespace Go.Qz
open Go.Proofs
def ycf(l:List UInt8):Bool:=!l.isEmpty&&zze l
theorem ycg(l:List UInt8):ycf l=zcg l:=by
 unfold ycf zcg zze inI
 cases l with
 |nil=>simp
 |cons c r=>
  simp only[List.isEmpty_cons,Bool.not_false,Bool.true_and,List.length_cons];rw[Bool.and_comm,show decide ((1:Int)<=((r.length+1:Nat):Int))=true by simp,Bool.true_and]
  congr 1;rw[Bool.eq_iff_iff];simp;omega
theorem zok(l:List UInt8):C Fn96 [.ro (T l)] []=some (.one (.ro (.bool (zcg l))),[]):=by
 refine zae Tryz.func96 Cv96 rfl ?_;have h:=zua l;rw[<-ycg,ycf]
 cases l with
 |nil=>simp
 |cons c r=>simp[h]
theorem zzk(f:Fl)(hn:f.1.length<=140737488351232):C Fn88 [.ro (FD f)] []=some (.one (.ro (.bool (letB f))),[]):=by
 refine zae Tryz.func88 Cv88 rfl ?_;have h1:=zdj f.1 hn;have h2:=zok f.2;unfold letB;cases hp:za1 f.1<;>rw[hp]at h1<;>simp[h1,h2]
theorem z5y(f:Fl)(hn:f.1.length<=140737488351232):C yi7 [.ro (FD f)] []=some (.one (.ro (.bool (!letB f))),[]):=by
 refine zae Tryz.func153 yi9 rfl ?_;have h1:=zzk f hn;simp[h1]
def zmg:List Fl->Nat->Int
 | [],_=> -1
 |f::r,i=>if letB f then zmg r (i+1)else i
theorem zqg:∀(fs:List Fl) (i:Nat),decide (zmg fs i≥0)= !fs.all letB
 | [],i=>rfl
 |f::r,i=>by
  unfold zmg;cases h:letB f
  ·simp[h]
  ·rw[if_pos rfl,zqg r (i+1)];simp[h]
theorem zxt(fs:List Fl)(hn:fs.length<=2000000)(hx:∀f∈fs,f.1.length<=140737488351232):C yes [.ro (FS fs),.fn 153 []] []=some (.one (.ro (I (zmg fs 0))),[]):=by
 refine zae Tryz.func179 yet rfl ?_;simp
 refine zai (λm e=> ∃i,m=fs.length-i/\i<=fs.length/\e.size=19/\e.get 0=.one (.ro (FS fs))/\e.get 1=.one (.fn 153 [])/\e.get 7=.one (.ro (N fs.length))/\e.get 8=.one (.ro (N i))/\zmg (fs.drop i) i=zmg fs 0)
  ?_ fs.length _ ⟨0,rfl,Nat.zero_le _,by simp,by simp,by simp,by simp,by simp,rfl⟩
 rintro m e ⟨i,rfl,hi,hsz,h0,h1,h7,h8,hr⟩ ih;rcases Nat.lt_or_ge i fs.length with hlt|hge
 ·have hwi:IntKind.i64.wrap ((i:Int)+1)=((i+1:Nat):Int):=zad (by omega)
  have hd:fs.drop i=fs[i]::fs.drop (i+1):=List.drop_eq_getElem_cons hlt;have hv:=z5y fs[i] (hx _ (List.getElem_mem hlt));rw[hd,zmg]at hr
  cases hc:letB fs[i]with
  |false=>
   rw[hc]at hv hr;simp only[Bool.false_eq_true,if_false]at hr;simp[hsz,h0,h1,h7,h8,hlt,hv,<-hr]
  |true=>
   rw[hc]at hv hr;simp only[if_true]at hr;simp[hsz,h0,h1,h7,h8,hlt,hv,hwi];exact ih _ _ (by omega) ⟨i+1,rfl,by omega,by simp[hsz],by simp[h0],by simp[h1],by simp[h7],by simp,hr⟩
 ·obtain rfl:i=fs.length:=by omega
  rw[List.drop_length,zmg]at hr;simp[hsz,h7,h8,<-hr]
theorem zo5(fs:List Fl)(hn:fs.length<=2000000)(hx:∀f∈fs,f.1.length<=140737488351232):C yja [.ro (FS fs),.fn 153 []] []=some (.one (.ro (.bool (!fs.all letB))),[]):=by
 refine zae Tryz.func154 yjc rfl ?_;have h:=zxt fs hn hx;rw[<-zqg fs 0];simp[h]
def zeq(fs:List Fl)(l:List UInt8):Nat×List UInt8:=if zhj fs&&zcg l then zbg (zcf fs (fs.length+1) []) [] l else(1,[])
theorem zol{l:List UInt8}(h:zcg l=true):l.length<=80:=by
 unfold zcg inI at h;simp at h;omega
theorem zqh{fs:List Fl}(h:zhj fs=true):Lets fs:=by
 unfold zhj at h;simp only[Bool.and_eq_true,decide_eq_true_eq,List.all_eq_true]at h;refine⟨h.2,λf hf=>?_⟩
 have:=h.1 f hf;unfold letB at this;simp only[Bool.and_eq_true]at this;exact zol this.2
theorem zzl(fs:List Fl):Deep fs (fs.length+1) []:=⟨List.nodup_nil,λx hx=>by simp at hx,by simp⟩
theorem zlo(var:List UInt8->Nat×List UInt8):∀(k:Nat) (out text:List UInt8),text.length<=k->(zbg var out text).1≠0->(zbg var out text).2=[]
 |k,out,[],_=>by rw[ze0];split<;>simp
 |0,out,c::r,h=>by simp at h
 |k+1,out,c::r,h=>by
  cases hm:zfk (c::r)with
  |false=>
   rw[zc5 hm];exact zlo var k _ _ (by simp at h;omega)
  |true=>
   obtain⟨q,hq⟩:=zix hm;rw[hq]at hm h ⊢
   cases hc:cutB q with
   |none=>rw[zg6 hm hc];simp
   |some p=>
    have:=zg5 (n:=p.1) (r:=p.2) hc;rw[zfl hm hc];split
    ·split
     ·split
      ·simp
      ·exact zlo var k _ _ (by simp at h;omega)
     ·simp
    ·simp
theorem z1l(fs:List Fl)(l:List UInt8)(hn:fs.length<=2000000)(hx:∀f∈fs,f.1.length<=140737488351232/\f.2.length<=140737488351232)(_:l.length<=140737488351232):
 C yef [.ro (FS fs),.ro (T l)] []=some (.tup [.ro (T (zeq fs l).2),.ro (N (zeq fs l).1)],[]):=by
 refine zae Tryz.func106 yg3 rfl ?_;have h1:=zo5 fs hn (λf hf=>(hx f hf).1)
 have h2:=zok l;unfold zeq zhj;by_cases h8:fs.length<=8
 ·have h9:¬8<fs.length:=by omega
  cases hb:fs.all letB with
  |false=>rw[hb]at h1;simp[h1,h8,h9]
  |true=>
   cases hc:zcg l with
   |false=>rw[hb]at h1;rw[hc]at h2;simp[h1,h2,h8,h9]
   |true=>
    have hb':zhj fs=true:=by unfold zhj;rw[hb];simp[h8]
    have h3:=z5x fs (zqh hb') (fs.length+1) [] l (zzl fs) (zol hc);rw[show SS []=.sl 1 []from rfl]at h3
    rw[hb]at h1;rw[hc]at h2;have h4:=zlo (zcf fs (fs.length+1) []) l.length [] l (Nat.le_refl _);generalize zbg (zcf fs (fs.length+1) []) [] l=xv at *;obtain⟨code,s⟩:=xv;simp only at h3 h4;by_cases hcode:code=0
    ·subst hcode;rw[zoj]at h3;simp[h1,h2,h8,h9,h3]
    ·rw[zrm hcode]at h3;have h5:=h4 hcode;subst h5;have hce:=z8o code;simp[h1,h2,h8,h9,h3,hce]
 ·have h9:8<fs.length:=by omega
  simp[h8,h9]
end Go.Qz
namespace Go.Qz
open Go.Proofs
def clsB(s:List UInt8):Option (List UInt8):=match s.takeWhile zbr,s.dropWhile zbr with
 |_::_,c::q=>if c==93 then some q else none
 |_,_=>none
def clsR(r:List UInt8):Option (List UInt8):=match r with
 |c::s=>if c==33 then clsB s else clsB r
 | []=>none
theorem ych{p:UInt8->Bool}(s:List UInt8):(s.dropWhile p).length<=s.length:=by
 have h:=congrArg List.length (List.takeWhile_append_dropWhile (p:=p) (l:=s));rw[List.length_append]at h;omega
theorem zzm{s q:List UInt8}(h:clsB s=some q):q.length<s.length:=by
 unfold clsB at h;split at h
 ·rename_i a b c r h1 h2;split at h
  ·obtain rfl:=Option.some.inj h;have:=ych (p:=zbr) s;rw[h2]at this;simp at this;omega
  ·cases h
 ·cases h
theorem zrn{r q:List UInt8}(h:clsR r=some q):q.length<r.length:=by
 unfold clsR at h;split at h
 ·split at h
  ·have:=zzm h;simp;omega
  ·exact zzm h
 ·cases h
def zd1(l:List UInt8):Bool:=match l with
 | []=>true
 |c::r=>if c==91 then(match h:clsR r with
   |none=>false
   |some q=>zd1 q)
  else if c==42||c==63 then zd1 r else zbr c&&zd1 r
termination_by l.length
decreasing_by
 ·have:=zrn h;simp;omega
 ·simp
 ·simp
theorem zuk:zd1 []=true:=by rw[zd1]
theorem zom{r:List UInt8}:zd1 (91::r)=match clsR r with
 |none=>false
 |some q=>zd1 q:=by
 rw[zd1];simp only[beq_self_eq_true,if_true];split
 ·rename_i h;rw[h]
 ·rename_i q h;rw[h]
theorem zkw{c:UInt8}{r:List UInt8}(h:(c==91)=false)(h2:(c==42||c==63)=true):zd1 (c::r)=zd1 r:=by
 rw[zd1];simp[h,h2]
theorem zlp{c:UInt8}{r:List UInt8}(h:(c==91)=false)(h2:(c==42||c==63)=false):zd1 (c::r)=(zbr c&&zd1 r):=by
 rw[zd1];simp[h,h2]
def zi6(l:List UInt8):Bool:=zd1 l&& !l.isEmpty
def zic(g:List UInt8):Bool:=(decide ((zav 47 g).length<=5)&&(zav 47 g).all zi6)&&decide (g.length<=40)
theorem yaz(g:List UInt8)(f:Nat)(hf:f<=g.length):∃n,f<=n/\n<=g.length/\(∀k (h:k<g.length),f<=k->k<n->zbr g[k]=true)/\(∀h:n<g.length,zbr g[n]=false)/\
 ((g.drop f).takeWhile zbr).length=n-f/\(g.drop f).dropWhile zbr=g.drop n:=by
 obtain⟨s,hs⟩:∃s,g.drop f=s:=⟨_,rfl⟩
 induction s generalizing f with
 |nil=>
  have hl:=congrArg List.length hs;simp at hl;obtain rfl:f=g.length:=by omega
  refine⟨g.length,Nat.le_refl _,Nat.le_refl _,λk h h1 h2=>by omega,λh=>by omega,by simp,by simp⟩
 |cons c r ih=>
  have hlt:f<g.length:=by
   have hl:=congrArg List.length hs;simp at hl;omega
  have hd:=List.drop_eq_getElem_cons hlt;rw[hd]at hs;cases hs
  cases hc:zbr g[f]with
  |false=>
   refine⟨f,Nat.le_refl _,hf,λk h h1 h2=>by omega,λ_=>hc,?_,?_⟩
   ·rw[hd,List.takeWhile_cons,hc];simp
   ·rw[hd,List.dropWhile_cons,hc];simp
  |true=>
   obtain⟨n,h1,h2,h3,h4,h5,h6⟩:=ih (f+1) (by omega) rfl
   refine⟨n,by omega,h2,λk h k1 k2=>?_,h4,?_,?_⟩
   ·by_cases he:k=f
    ·subst he;exact hc
    ·exact h3 k h (by omega) k2
   ·rw[hd,List.takeWhile_cons,hc,if_pos rfl,List.length_cons,h5];omega
   ·rw[hd,List.dropWhile_cons,hc,if_pos rfl,h6]
def z1m(g:List UInt8)(f n:Nat):Option (List UInt8):=if f=n then none else match g[n]? with
 |some c=>if c==93 then some (g.drop (n+1))else none
 |none=>none
theorem z5z{g:List UInt8}{f n:Nat}(hfn:f<=n)(h5:((g.drop f).takeWhile zbr).length=n-f)(h6:(g.drop f).dropWhile zbr=g.drop n):clsB (g.drop f)=z1m g f n:=by
 unfold clsB z1m;rw[h6];by_cases he:f=n
 ·subst he;have h0:(g.drop f).takeWhile zbr=[]:=List.length_eq_zero_iff.1 (by rw[h5];omega)
  rw[h0,if_pos rfl]
 ·rw[if_neg he]
  cases ht:(g.drop f).takeWhile zbr with
  |nil=>rw[ht]at h5;simp at h5;omega
  |cons a b=>
   rcases Nat.lt_or_ge n g.length with hn|hn
   ·rw[List.drop_eq_getElem_cons hn,List.getElem?_eq_getElem hn]
   ·rw[List.drop_eq_nil_of_le hn,List.getElem?_eq_none hn]
theorem z50(r:List UInt8):∃f n,1<=f/\f<=n/\n<=(91::r).length/\(∀k (h:k<(91::r).length),f<=k->k<n->zbr (91::r)[k]=true)/\(∀h:n<(91::r).length,zbr (91::r)[n]=false)/\
 clsR r=z1m (91::r) f n/\(match r with
  |c::_=>f=if c==33 then 2 else 1
  | []=>f=1):=by
 cases r with
 |nil=>exact⟨1,1,by omega,by omega,by simp,λk h h1 h2=>by omega,λh=>by simp at h,rfl,rfl⟩
 |cons c s=>
  cases hc:c==33 with
  |true=>
   obtain⟨n,h1,h2,h3,h4,h5,h6⟩:=yaz (91::c::s) 2 (by simp)
   refine⟨2,n,by omega,h1,h2,h3,h4,?_,by simp[hc]⟩
   rw[<-z5z h1 h5 h6];simp[clsR,hc]
  |false=>
   obtain⟨n,h1,h2,h3,h4,h5,h6⟩:=yaz (91::c::s) 1 (by simp)
   refine⟨1,n,by omega,h1,h2,h3,h4,?_,by simp[hc]⟩
   rw[<-z5z h1 h5 h6];simp[clsR,hc]
theorem z52{r q:List UInt8}(h:clsR r=some q):∃p,r=p++q:=by
 obtain⟨f,n,h1,h2,h3,_,_,h6,_⟩:=z50 r;rw[h6]at h;unfold z1m at h;split at h
 ·cases h
 ·split at h
  ·split at h
   ·obtain rfl:=Option.some.inj h;refine⟨r.take n,?_⟩;simp
   ·cases h
  ·cases h
def clsN(r:List UInt8):Nat:=match clsR r with
 |none=>0
 |some q=>1+r.length-q.length
def z9c(g:List UInt8)(f n:Nat):Nat:=if f=n then 0 else match g[n]? with
 |some c=>if c==93 then n+1 else 0
 |none=>0
theorem yci{r:List UInt8}{f n:Nat}(_:n<=(91::r).length)(h:clsR r=z1m (91::r) f n):clsN r=z9c (91::r) f n:=by
 unfold clsN z9c;rw[h];unfold z1m;by_cases he:f=n
 ·simp[he]
 ·rw[if_neg he,if_neg he]
  cases hg:(91::r)[n]? with
  |none=>rfl
  |some c=>
   by_cases hc:c=93
   ·subst hc;have:=(List.getElem?_eq_some_iff.1 hg).1;simp at this ⊢;omega
   ·simp[hc]
theorem z9d(g:List UInt8)(f n:Nat)(hfn:f<=n)(hn:n<=g.length)(hgl:g.length<=1048577)(hin:∀k (h:k<g.length),f<=k->k<n->zbr g[k]=true)(hout:∀h:n<g.length,zbr g[n]=false)
 (e:Env) (hsz:e.size=43) (h0:e.get 0=.one (.ro (T g))) (h3:e.get 3=.one (.ro (N f))):Run cx q183c3 e [.fn [(.tmp 2,3)] []]=some (.one (.ro (N (z9c g f n))),[]):=by
 simp[hsz,h3];refine zai (λm e=> ∃k,m=n-k/\f<=k/\k<=n/\e.size=43/\e.get 0=.one (.ro (T g))/\e.get 3=.one (.ro (N k))/\e.get 4=.one (.ro (N f))) ?_ (n-f) _ ⟨f,rfl,Nat.le_refl _,hfn,by simp[hsz],by simp[h0],by simp[h3],by simp⟩
 clear hsz h0 h3;rintro m e ⟨k,rfl,hfk,hkn,hsz,h0,h3,h4⟩ ih;rcases Nat.lt_or_ge k n with hlt|hge
 ·have hkg:k<g.length:=by omega
  have hb:=hin k hkg hfk hlt;have hwk:IntKind.i64.wrap ((k:Int)+1)=((k+1:Nat):Int):=zad (by omega)
  simp[hsz,h0,h3,hkg,zdb,hb,hwk];exact ih _ _ (by omega) ⟨k+1,rfl,by omega,by omega,by simp[hsz],by simp[h0],by simp,by simp[h4]⟩
 ·obtain rfl:k=n:=by omega
  have hwk:IntKind.i64.wrap ((k:Int)+1)=((k+1:Nat):Int):=zad (by omega)
  unfold z9c;rcases Nat.lt_or_ge k g.length with hkg|hkg
  ·have hb:=hout hkg;have hne:(k==g.length)=false:=by rw[beq_eq_false_iff_ne];omega
   have hne':¬k=g.length:=by omega
   by_cases hf:f=k
   ·subst hf;simp[hsz,h0,h3,h4,hkg,zdb,hb]
   ·have hfk2:(k==f)=false:=by rw[beq_eq_false_iff_ne];omega
    have hfk3:¬k=f:=by omega
    cases hc:g[k]==93 with
    |true=>simp[hsz,h0,h3,h4,hkg,zdb,hb,hf,hfk2,hne,hc,hwk]
    |false=>simp[hsz,h0,h3,h4,hkg,zdb,hb,hf,hfk2,hne,hc]
  ·obtain rfl:k=g.length:=by omega
   by_cases hf:f=g.length
   ·subst hf;simp[hsz,h0,h3,h4]
   ·have hfk2:(g.length==f)=false:=by rw[beq_eq_false_iff_ne];omega
    have hfk3:¬g.length=f:=by omega
    simp[hsz,h0,h3,h4,hf,hfk2]
theorem z1n(r:List UInt8)(hr:r.length<=1048576):C yko [.ro (T (91::r))] []=some (.one (.ro (N (clsN r))),[]):=by
 refine zae Tryz.func183 ykq rfl ?_;obtain⟨f,n,h1,h2,h3,h4,h5,h6,h7⟩:=z50 r;rw[yci h3 h6];have go:=z9d (91::r) f n h2 h3 (by simp;omega) h4 h5
 cases r with
 |nil=>
  simp only at h7;subst h7;simp[-zw7];exact go _ (by simp) (by simp) (by simp)
 |cons c s=>
  simp only at h7;have hs1:(1:Int)<(s.length:Int)+1+1:=by omega
  cases hc:c==33 with
  |true=>
   rw[hc,if_pos rfl]at h7;subst h7;simp[hs1,hc,-zw7];exact go _ (by simp) (by simp) (by simp)
  |false=>
   rw[hc]at h7;simp only[Bool.false_eq_true,if_false]at h7;subst h7;simp[hs1,hc,-zw7];exact go _ (by simp) (by simp) (by simp)
theorem zul(l:List UInt8)(hl:l.length<=1048576):C yjm [.ro (T l)] []=some (.one (.ro (.bool (zi6 l))),[]):=by
 refine zae Tryz.func159 yjo rfl ?_;unfold zi6;simp;refine zai (λm e=> ∃i,m=l.length-i/\i<=l.length/\e.size=45/\e.get 0=.one (.ro (T l))/\e.get 3=.one (.ro (N i))/\zd1 (l.drop i)=zd1 l) ?_ l.length _ ⟨0,rfl,Nat.zero_le _,by simp,by simp,by simp,rfl⟩
 rintro m e ⟨i,rfl,hi,hsz,h0,h3,hr⟩ ih;rcases Nat.lt_or_ge i l.length with hlt|hge
 ·have hd:l.drop i=l[i]::l.drop (i+1):=List.drop_eq_getElem_cons hlt;have hwi:IntKind.i64.wrap ((i:Int)+1)=((i+1:Nat):Int):=zad (by omega)
  cases h91:l[i]==91 with
  |true=>
   have e91:l[i]=91:=by simpa using h91
   rw[hd,e91,zom]at hr;have hc:=z1n (l.drop (i+1)) (by simp;omega)
   rw[<-e91,<-hd]at hc;unfold clsN at hc;have hil:(i:Int)<=l.length:=by omega
   cases hq:clsR (l.drop (i+1))with
   |none=>
    rw[hq]at hc hr;simp only at hc hr;simp[hsz,h0,h3,hlt,h91,hil,hc,<-hr]
   |some q=>
    rw[hq]at hc hr;simp only at hc hr;have hql:=zrn hq;obtain⟨p,hp⟩:=z52 hq;have hpl:=congrArg List.length hp;simp only[List.length_drop,List.length_append]at hpl hc hql;obtain⟨n,hn⟩:∃n,1+(l.length-(i+1))-q.length=n+1:=⟨1+(l.length-(i+1))-q.length-1,by omega⟩
    rw[hn]at hc;have hin:i+n+1<=l.length:=by omega
    have hw1:IntKind.i64.wrap ((i:Int)+((n:Int)+1))=((i+n+1:Nat):Int):=by rw[wrap64 (by omega) (by omega)];omega
    have hw2:IntKind.i64.wrap (((i+n+1:Nat):Int)-1)=((i+n:Nat):Int):=by rw[wrap64 (by omega) (by omega)];omega
    have hw3:IntKind.i64.wrap (((i+n:Nat):Int)+1)=((i+n+1:Nat):Int):=zad (by omega)
    have hn0:((n:Int)+1==0)=false:=by rw[beq_eq_false_iff_ne];omega
    have hn0':¬(n:Int)+1=0:=by omega
    have hdrop:l.drop (i+n+1)=q:=by
     have:l.drop (i+n+1)=(l.drop (i+1)).drop n:=by rw[List.drop_drop];congr 1;omega
     rw[this,hp];have:n=p.length:=by omega
     rw[this,List.drop_left]
    generalize hj:i+n+1=j at *;generalize hj2:i+n=j2 at *;simp[hsz,h0,h3,hlt,h91,hil,hc,hw1,hw2,hw3,hn0];exact ih _ _ (by omega) ⟨j,rfl,by omega,by simp[hsz],by simp[h0],by simp,by rw[hdrop];exact hr⟩
  |false=>
   cases hany:(l[i]==42||l[i]==63)with
   |true=>
    rw[hd,zkw h91 hany]at hr
    cases h42:l[i]==42 with
    |true=>
     simp[hsz,h0,h3,hlt,h91,h42,hwi];exact ih _ _ (by omega) ⟨i+1,rfl,by omega,by simp[hsz],by simp[h0],by simp,hr⟩
    |false=>
     rw[h42,Bool.false_or]at hany;simp[hsz,h0,h3,hlt,h91,h42,hany,hwi];exact ih _ _ (by omega) ⟨i+1,rfl,by omega,by simp[hsz],by simp[h0],by simp,hr⟩
   |false=>
    rw[hd,zlp h91 hany]at hr;obtain⟨h42,h63⟩:=Bool.or_eq_false_iff.1 hany
    cases hb:zbr l[i]with
    |false=>
     rw[hb,Bool.false_and]at hr;simp[hsz,h0,h3,hlt,h91,h42,h63,zdb,hb,<-hr]
    |true=>
     rw[hb,Bool.true_and]at hr;simp[hsz,h0,h3,hlt,h91,h42,h63,zdb,hb,hwi];exact ih _ _ (by omega) ⟨i+1,rfl,by omega,by simp[hsz],by simp[h0],by simp,hr⟩
 ·obtain rfl:i=l.length:=by omega
  rw[List.drop_length,zuk]at hr
  cases l with
  |nil=>simp[hsz,h0,h3,<-hr]
  |cons c r=>simp[hsz,h0,h3,<-hr]
theorem z1o(g:List UInt8)(hg:g.length<=1048576):C yej [.ro (T g)] []=some (.one (.ro (.bool (zic g))),[]):=by
 refine zae Tryz.func110 yhb rfl ?_;have hcut:=zjz g 47 47 rfl hg;have hwl:IntKind.i64.wrap ((g.length:Int)+1)=((g.length+1:Nat):Int):=zad (by omega)
 have hcnt:=zfi 47 g;have hmem:=zfh 47 g;unfold zic;generalize zav 47 g=xs at *;simp[hwl,hcut]
 refine zai (λm e=> ∃i,m=xs.length-i/\i<=xs.length/\e.size=30/\e.get 0=.one (.ro (T g))/\e.get 3=.one (.own (SS xs))/\e.get 4=.one (.ro (N i))/\(xs.drop i).all zi6=xs.all zi6)
  ?_ xs.length _ ⟨0,rfl,Nat.zero_le _,by simp,by simp,by simp,by simp,rfl⟩
 rintro m e ⟨i,rfl,hi,hsz,h0,h3,h4,hr⟩ ih;rcases Nat.lt_or_ge i xs.length with hlt|hge
 ·have hd:xs.drop i=xs[i]::xs.drop (i+1):=List.drop_eq_getElem_cons hlt;have hwi:IntKind.i64.wrap ((i:Int)+1)=((i+1:Nat):Int):=zad (by omega)
  have hgl:=zul xs[i] (by have:=hmem _ (List.getElem_mem hlt);omega)
  rw[hd,List.all_cons]at hr
  cases hp:zi6 xs[i]with
  |false=>
   rw[hp]at hr hgl;simp[hsz,h3,h4,hlt,hgl,<-hr]
  |true=>
   rw[hp]at hr hgl;rw[Bool.true_and]at hr;simp[hsz,h3,h4,hlt,hgl,hwi];exact ih _ _ (by omega) ⟨i+1,rfl,by omega,by simp[hsz],by simp[h0],by simp[h3],by simp,hr⟩
 ·obtain rfl:i=xs.length:=by omega
  rw[List.drop_length,List.all_nil]at hr;by_cases h5:xs.length<=5
  ·by_cases h40:g.length<=40<;>simp[hsz,h0,h3,h4,<-hr,h5,h40]
  ·simp[hsz,h0,h3,h4,<-hr,h5]
end Go.Qz
namespace Go.Qz
open Go.Proofs
def Ends(Good:V×zar->Prop)(x:Option (V×zar)):Prop:=∃r,Good r/\x=some r
theorem Ends.of{Good:V×zar->Prop}{r:V×zar}(h:Good r):Ends Good (some r):=⟨r,h,rfl⟩
section
variable{c:Ctx}{a:zab}{ks:List Fr}
theorem ycj{Good:V×zar->Prop}(Inv:Nat->Env->Prop)(step:∀m e,Inv m e->(∀m' e',m' <m->Inv m' e' ->Ends Good (Run c (.loop a) e' ks))->Ends Good (Run c a e (.loop a::ks)))(m:Nat)(e:Env)(h:Inv m e):
 Ends Good (Run c (.loop a) e ks):=by
 induction m using Nat.strongRecOn generalizing e with
 |_ m ih=>
  rw[zyv];exact step m e h (λm' e' hm hi=>ih m' hm e' hi)
end
theorem yck{P:Program}{io:FuncId->List Nat}{X:zal}{f:FuncId}{us:List A}{bx:zar}{fn:Func}{q:QFn}{Good:V×zar->Prop}(hf:P.funcs[f]? =some fn)(hq:zap fn=some q)(hX:X f us bx=none)
 (h:Ends Good (Run ⟨P,io,zc3 P io X⟩ q.body (zaj q.n us bx) [.fn q.res bx])):Ends Good (zc3 P io X f us bx):=by
 obtain⟨r,h1,h2⟩:=h;exact⟨r,h1,zae hf hq hX h2⟩
end Go.Qz
namespace Go.Qz
open Go.Proofs
@[simp] theorem ye4:zbq Tryz.prog 176=some 1:=by kernel_rfl
@[simp] theorem yf0:zbq Tryz.prog 54=some 1:=by kernel_rfl
def zmm(b:List UInt8):List UInt8:=match b with
 |c::r=>if c==33 then r else c::r
 | []=>[]
def zro(b:List UInt8):Bool:=match b with
 |c::_=>c==33
 | []=>false
def zqi(b:List UInt8):Bool:=(zmm b).all zbr&& !(zmm b).isEmpty
theorem z1p(b:List UInt8)(hb:b.length<=1048576):C ylg [.ro (T b),.ro (T [33])] []=some (.tup [.ro (T (zmm b)),.ro (.bool (zro b))],[]):=by
 have hp:C yb4 [.ro (T b),.ro (T [33])] []=some (.one (.ro (.bool (zro b))),[]):=by
  refine zae Tryz.func192 yb5 rfl ?_
  cases b with
  |nil=>simp[zro]
  |cons c r=>
   have h1:(1:Int)<=(r.length:Int)+1:=by omega
   cases hc:c==33<;>simp[zro,h1,hc]
 refine zae Tryz.func225 yli rfl ?_
 cases b with
 |nil=>simp[hp,zro,zmm]
 |cons c r=>
  have h1:(1:Int)<=(r.length:Int)+1:=by omega
  simp only[zro]at hp;cases hc:c==33<;>rw[hc]at hp<;>simp[hp,zro,zmm,hc,h1]
theorem z53(b:List UInt8)(hb:b.length<=1048576):C yld [.ro (T b),.ro (T [33])] []=some (.tup [.ro (T (zmm b)),.ro (.bool (zro b))],[]):=by
 refine zae Tryz.func223 ylf rfl ?_;have h:=z1p b hb;simp[h]
theorem zum(b:List UInt8)(hb:b.length<=1048576):C yk7 [.ro (T b)] []=some (if zqi b then .tup [.own (.agg [.bool false,.hole]),.ro (.bool true)]else .tup [.ro (.agg [.bool false,.nilf]),.ro (.bool false)],[]):=by
 refine zae Tryz.func215 yk9 rfl ?_;have h1:=z53 b hb;have h2:=zmf (zmm b) (by unfold zmm;split<;>(try split)<;>simp_all<;>omega)
 have h3:((zmm b).all zbr&& !(zmm b).isEmpty)=zqi b:=rfl;rw[h3]at h2;generalize zmm b=m at *;generalize zro b=n at *;generalize zqi b=ok at *;cases ok<;>simp[h1,h2]
theorem zun:∀l:List UInt8,(Lib.indexByte l 93= -1/\ ∀c∈l,c≠93)∨ ∃p q,l=p++93::q/\(∀c∈p,c≠93)/\Lib.indexByte l 93=p.length
 | []=>.inl ⟨rfl,by simp⟩
 |c::l=>by
  rw[Lib.indexByte]
  cases hc:c==93 with
  |true=>
   have:c=93:=by simpa using hc
   subst this;exact .inr ⟨[],l,rfl,by simp,by simp⟩
  |false=>
   have hne:c≠93:=by simpa using hc
   rcases zun l with⟨h1,h2⟩|⟨p,q,h1,h2,h3⟩
   ·refine .inl ⟨by rw[h1];simp,λx hx=>?_⟩
    rcases List.mem_cons.1 hx with rfl|hx
    ·exact hne
    ·exact h2 x hx
   ·refine .inr ⟨c::p,q,by rw[h1];rfl,λx hx=>?_,?_⟩
    ·rcases List.mem_cons.1 hx with rfl|hx
     ·exact hne
     ·exact h2 x hx
    ·rw[h3];have:((p.length:Int)== -1)=false:=by rw[beq_eq_false_iff_ne];omega
     rw[this];simp
theorem zuo{s:List UInt8}(h:∀c∈s,c≠93):clsB s=none:=by
 unfold clsB;split
 ·rename_i a b c q h1 h2
  have hc:c∈s:=by
   rw[<-List.takeWhile_append_dropWhile (p:=zbr) (l:=s),h2];simp
  have:=h c hc;simp[this]
 ·rfl
theorem z54{r:List UInt8}(h:∀c∈r,c≠93):clsR r=none:=by
 unfold clsR;split
 ·split
  ·exact zuo (λc hc=>h c (List.mem_cons_of_mem _ hc))
  ·exact zuo h
 ·rfl
theorem ycl{b q:List UInt8}{x:UInt8}(h:b.all zbr=true)(hx:zbr x=false):(b++x::q).takeWhile zbr=b/\(b++x::q).dropWhile zbr=x::q:=by
 induction b with
 |nil=>simp[hx]
 |cons c r ih=>
  rw[List.all_cons,Bool.and_eq_true]at h;obtain⟨h1,h2⟩:=ih h.2;rw[List.cons_append,List.takeWhile_cons,List.dropWhile_cons,if_pos h.1,if_pos h.1,h1,h2];exact⟨rfl,rfl⟩
theorem ycm{b s:List UInt8}(h:b.all zbr=false)(h93:∀c∈b,c≠93):∃x q,(b++s).dropWhile zbr=x::q/\x≠93:=by
 induction b with
 |nil=>simp at h
 |cons c r ih=>
  rw[List.cons_append,List.dropWhile_cons]
  cases hc:zbr c with
  |false=>exact⟨c,r++s,by simp,h93 c (by simp)⟩
  |true=>
   rw[List.all_cons,hc,Bool.true_and]at h;obtain⟨x,q,h1,h2⟩:=ih h (λy hy=>h93 y (by simp[hy]))
   exact⟨x,q,by rw[if_pos rfl,h1],h2⟩
theorem zon{b q:List UInt8}(h93:∀c∈b,c≠93):clsB (b++93::q)=if b.all zbr&& !b.isEmpty then some q else none:=by
 unfold clsB
 cases ha:b.all zbr with
 |true=>
  obtain⟨h1,h2⟩:=ycl (q:=q) (x:=93) ha (by decide)
  rw[h1,h2]
  cases b with
  |nil=>rfl
  |cons c r=>simp
 |false=>
  obtain⟨x,q',h1,h2⟩:=ycm (s:=93::q) ha h93;rw[h1];rw[Bool.false_and];split
  ·rename_i a b c r e1 e2;cases e2;simp[h2]
  ·rfl
theorem z55{b q:List UInt8}(h93:∀c∈b,c≠93):clsR (b++93::q)=if zqi b then some q else none:=by
 cases b with
 |nil=>
  have e:clsB (93::q)=none:=zon (b:=[]) (by simp)
  show clsR (93::q)=none;simp only[clsR];rw[if_neg (by decide)]
  exact e
 |cons c r=>
  rw[List.cons_append];simp only[clsR,zqi,zmm];by_cases hc:(c==33)=true
  ·simp only[if_pos hc];exact zon (b:=r) (λy hy=>h93 y (by simp[hy]))
  ·simp only[if_neg hc];exact zon (b:=c::r) h93
def zzn(l:List UInt8)(r:V×zar):Prop:=∃ds:List D,r=(.tup [.own (.sl 2 ds),.ro (.bool (zi6 l))],[])
set_option maxHeartbeats 2000000 in
theorem zup(l:List UInt8)(hl:l.length<=1048576):Ends (zzn l) (C yky [.ro (T l)] []):=by
 refine yck Tryz.func196 yk0 rfl ?_;simp
 refine ycj (λm e=> ∃(u:List UInt8) (ds:List D),m=u.length/\ds.length+u.length<=l.length/\(u.length<l.length->0<ds.length)/\zd1 u=zd1 l/\e.size=59/\e.get 0=.one (.ro (T u))/\e.get 4=.one (.own (.sl 2 ds)))
  ?_ l.length _ ⟨l,[],rfl,by simp,by simp,rfl,by simp,by simp,by simp⟩
 rintro m e ⟨u,ds,rfl,hlen,hpos,hr,hsz,h0,h4⟩ ih;have hdl:ds.length<=1048576:=by omega
 cases u with
 |nil=>
  rw[zuk]at hr
  have hg:zi6 l=decide (0<ds.length):=by
   unfold zi6;rw[<-hr,Bool.true_and]
   cases l with
   |nil=>simp at hlen;simp[hlen]
   |cons c r=>simp at hpos;simp[hpos]
  have hgt:decide ((ds.length:Int)>0)=decide (0<ds.length):=by rw[decide_eq_decide];omega
  simp[hsz,h0,h4];refine .of ⟨ds,?_⟩;simp[hg]
 |cons c r=>
  simp only[List.length_cons]at hlen hpos;have ha:ds.length+1<=zag:=by simp[zag];omega
  have h1r:(1:Int)<=(r.length:Int)+1:=by omega
  have bad:zd1 (c::r)=false->zi6 l=false:=λh=>by unfold zi6;rw[<-hr,h];rfl
  have next:∀(q:List UInt8) (d:D) (e':Env),q.length<=r.length->zd1 (c::r)=zd1 q->e'.size=59->e'.get 0=.one (.ro (T q))->e'.get 4=.one (.own (.sl 2 (ds++[d])))->Ends (zzn l) (Run cx (.loop q196l0) e' [.blk 0,.seq q196c4,.fn [(.tmp 2,211),(.tmp 3,4)] []]):=by
   intro q d e' hq hgr k1 k2 k3;exact ih q.length e' (by simp;omega) ⟨q,ds++[d],rfl,by simp;omega,by simp,by rw[<-hgr];exact hr,k1,k2,k3⟩
  cases h42:c==42 with
  |true=>
   have hg:zd1 (c::r)=zd1 r:=zkw (by have:c=42:=by simpa using h42
                                     subst this;rfl) (by simp[h42])
   simp[hsz,h0,h4,h42,ha,h1r];exact next r (.agg [.bool true,.nilf]) _ (Nat.le_refl _) hg (by simp[hsz]) (by simp) (by simp)
  |false=>
   cases h63:c==63 with
   |true=>
    have hg:zd1 (c::r)=zd1 r:=zkw (by have:c=63:=by simpa using h63
                                      subst this;rfl) (by simp[h63])
    simp[hsz,h0,h4,h42,h63,ha,h1r];exact next r (.agg [.bool false,.clo 214 []]) _ (Nat.le_refl _) hg (by simp[hsz]) (by simp) (by simp)
   |false=>
    cases h91:c==91 with
    |true=>
     have e91:c=91:=by simpa using h91
     subst e91;rw[zom]at bad next
     have hix:C 209 [.ro (T (91::r)),.ro (.int .u8 93)] []=some (.one (.ro (.int .i64 (Lib.indexByte (91::r) 93))),[]):=z8n (91::r) 93;rcases zun r with⟨i1,i2⟩|⟨b,q,i1,i2,i3⟩
     ·have hi:Lib.indexByte (91::r) 93= -1:=by rw[Lib.indexByte,i1];rfl
      rw[hi]at hix;have hb:=bad (by rw[z54 i2])
      simp[hsz,h0,hix];exact .of ⟨[],by rw[hb]⟩
     ·subst i1
      have hi:Lib.indexByte (91::(b++93::q)) 93=(b.length:Int)+1:=by
       rw[Lib.indexByte,i3];have:((b.length:Int)== -1)=false:=by rw[beq_eq_false_iff_ne];omega
       rw[this];simp
      rw[hi]at hix;have hcl:=zum b (by simp at hlen;omega)
      rw[z55 i2]at bad next
      simp only[List.length_append,List.length_cons]at hlen;have n1:¬(b.length:Int)+1<0:=by omega
      have n2:(b.length:Int)+1<=(b.length:Int)+((q.length:Int)+1)+1:=by omega
      have n3:(1:Int)<=(b.length:Int)+1:=by omega
      have n6:(0:Int)<=(b.length:Int)+1:=by omega
      have n4:IntKind.i64.wrap ((b.length:Int)+1+1)=((b.length+2:Nat):Int):=by rw[wrap64 (by omega) (by omega)];omega
      have n5:((b.length+2:Nat):Int)<=(b.length:Int)+((q.length:Int)+1)+1:=by omega
      have d1:List.take b.length (b++93::q)=b:=by simp
      have d2:List.drop (b.length+2) (91::(b++93::q))=q:=by
       simp[List.drop_append]
      have d3:List.take (b.length+(q.length+1)) (b++93::q)=b++93::q:=by rw[List.take_of_length_le];simp
      cases hok:zqi b with
      |false=>
       rw[hok]at hcl bad;simp only[Bool.false_eq_true,if_false]at hcl bad;have hb:=bad trivial;simp[hsz,h0,hix,n1,n2,n3,n6,d1,hcl];exact .of ⟨[],by rw[hb]⟩
      |true=>
       rw[hok]at hcl next
       simp only[if_true]at hcl next
       generalize hk:b.length+2=k at *;simp[hsz,h0,h4,hix,n1,n2,n3,n6,n4,n5,d1,hcl,ha];exact next q (.agg [.bool false,.hole]) _ (by simp;omega) rfl (by simp[hsz]) (by simp[d3,d2]) (by simp)
    |false=>
     have hg:=zlp (c:=c) (r:=r) h91 (by simp[h42,h63])
     rw[hg]at bad next
     cases hb:zbr c with
     |false=>
      rw[hb,Bool.false_and]at bad;have hbb:=bad rfl;simp[hsz,h0,h42,h63,h91,zg3,hb];exact .of ⟨[],by rw[hbb]⟩
     |true=>
      rw[hb,Bool.true_and]at next
      simp[hsz,h0,h4,h42,h63,h91,zg3,hb,ha,h1r];exact next r (.agg [.bool false,.hole]) _ (Nat.le_refl _) rfl (by simp[hsz]) (by simp) (by simp)
end Go.Qz
namespace Go.Qz
open Go.Proofs
abbrev GnD(x:List UInt8):D:=.agg [.bool (x==[42,42]),.hole]
def glN:List D->za2->List D×Bool
 |acc,[]=>(acc,true)
 |acc,x::r=>if zi6 x=false then([],false)else if acc.length=5 then([],false)else glN (acc++[GnD x]) r
theorem ya0:∀(xs:za2) (acc:List D),acc.length<=5->(glN acc xs).2=(decide (acc.length+xs.length<=5)&&xs.all zi6)
 | [],acc,h=>by simp[glN,h]
 |x::r,acc,h=>by
  rw[glN]
  cases hx:zi6 x with
  |false=>simp[hx]
  |true=>
   by_cases h5:acc.length=5
   ·have:¬acc.length+(r.length+1)<=5:=by omega
    simp[h5];intro h;omega
   ·rw[if_neg (by simp),if_neg h5,ya0 r _ (by simp;omega)]
    simp[hx,Nat.add_assoc,Nat.add_comm 1]
def z1q(g:List UInt8):List D×Bool:=if g.length<=40 then glN [] (zav 47 g)else([],false)
theorem z9e(g:List UInt8):(z1q g).2=zic g:=by
 unfold z1q zic;by_cases h:g.length<=40
 ·rw[if_pos h,ya0 _ _ (by simp)]
  simp[h]
 ·rw[if_neg h];simp[h]
theorem zuq(g:List UInt8)(hg:g.length<=1048576):C yj8 [.ro (T g)] []=some (.tup [.own (.sl 2 (z1q g).1),.ro (.bool (z1q g).2)],[]):=by
 refine zae Tryz.func176 yka rfl ?_;unfold z1q;by_cases h40:g.length<=40
 ·have h40':¬(40:Int)<g.length:=by omega
  rw[if_pos h40];have hs:=zxg ⟨g.toArray⟩ ⟨#[47]⟩;have h47:(⟨#[47]⟩:ByteArray).size=1:=rfl;have hg2:g.length<=9223372036854775807:=by omega
  have hmem:=zfh 47 g;obtain⟨ns,ok,hok⟩:∃ns ok,glN [] (zav 47 g)=(ns,ok):=⟨_,_,rfl⟩;rw[hok];simp[h40',hs,h47,hg2];refine zoc (λo ho=>?_)
  have o2:o.get 2=.one (.ptr 2 0):=by rw[ho];simp
  have o3:o.get 3=.one (.ptr 3 0):=by rw[ho];simp
  have o4:o.get 4=.one (.ptr 4 0):=by rw[ho];simp
  have os:o.size=36:=by rw[ho];simp
  have b2:o.box 2=some [.own (.sl 2 [])]:=by rw[ho];simp
  have b3:o.box 3=some [.ro (.bool false)]:=by rw[ho];simp
  have b4:o.box 4=some [.own (.sl 2 [])]:=by rw[ho];simp
  clear ho
  refine zob (λxs e=> ∃acc:List D,(∀x∈xs,x.length<=g.length)/\e.size=36/\e.get 2=.one (.ptr 9002 0)/\e.get 3=.one (.ptr 9003 0)/\e.get 4=.one (.ptr 9004 0)/\e.box 9002=some [.own (.sl 2 [])]/\e.box 9003=some [.ro (.bool false)]/\
   e.box 9004=some [.own (.sl 2 acc)]/\acc.length<=5/\glN acc xs=(ns,ok))
   ?_ _ _ ⟨[],hmem,by simp[os],by simp[o2],by simp[o3],by simp[o4],by simp[za0,b2],by simp[za0,b3],by simp[za0,b4],by simp,hok⟩
  rintro xs e ⟨acc,hx,es,e2,e3,e4,c2,c3,c4,hacc,hr⟩ ih
  cases xs with
  |nil=>
   rw[glN]at hr;cases hr;simp[o2,o3,o4,os,b2,b3,b4,c2,c3,c4,zdi]
  |cons x xs=>
   obtain⟨_,⟨ds,rfl⟩,hp⟩:=zup x (by have:=hx x (by simp);omega)
   rw[glN]at hr
   cases hb:zi6 x with
   |false=>
    rw[hb]at hp hr;simp only[if_true]at hr;cases hr;simp[o2,o3,b2,b3,es,e2,e3,e4,c2,c3,c4,hp,zdi,zb1,za0]
   |true=>
    rw[hb]at hp hr;simp only[Bool.true_eq_false,if_false]at hr;by_cases h5:acc.length=5
    ·rw[if_pos h5]at hr;cases hr;simp[o2,o3,b2,b3,es,e2,e3,e4,c2,c3,c4,hp,h5,zdi,zb1,za0]
    ·rw[if_neg h5]at hr;have hne:(acc.length==5)=false:=by rw[beq_eq_false_iff_ne];omega
     have ha:acc.length+1<=zag:=by simp[zag];omega
     simp[es,e4,c4,hp,hne,ha];refine ih _ _ (by simp) ⟨acc++[GnD x],λy hy=>hx y (by simp[hy]),by simp[os],by simp[o2],by simp[o3],by simp[o4],by simp[zb1,za0,b2,c2],by simp[zb1,za0,b3,c3],by simp[zb1,za0,b4],by simp;omega,hr⟩
 ·have h40':(40:Int)<g.length:=by omega
  rw[if_neg h40];simp[h40']
theorem z1r(g:List UInt8)(hg:g.length<=1048576):C yix [.ro (T g)] []=some (.one (.ro (.bool (zic g))),[]):=by
 refine zae Tryz.func149 yiz rfl ?_;have h:=zuq g hg;rw[<-z9e];generalize z1q g=v at *;obtain⟨ns,ok⟩:=v;simp only at h;simp[h]
end Go.Qz
namespace Go.Qz
open Go.Proofs
theorem z56(es:List Fl)(f:FuncId)(hfo:zfn ioS f=false)(p:Fl->Bool)(hn:es.length<=2000000)(hf:∀x∈es,C f [.ro (FD x)] []=some (.one (.ro (.bool (p x))),[])):
 C Fn87 [.ro (FS es),.fn f []] []=some (.one (.ro (.bool (es.all p))),[]):=by
 have hfo1:=hfo;simp at hfo1;refine zae Tryz.func87 Cv87 rfl ?_;simp
 refine zai (λm e=> ∃i,m=es.length-i/\i<=es.length/\e.size=18/\e.get 1=.one (.fn f [])/\e.get 7=.one (.ro (FS es))/\e.get 8=.one (.ro (N es.length))/\e.get 9=.one (.ro (N i))/\
  (es.drop i).all p=es.all p) ?_ es.length _ ⟨0,rfl,Nat.zero_le _,by simp,by simp,by simp,by simp,by simp,rfl⟩
 rintro m e ⟨i,rfl,hi,hsz,h1,h7,h8,h9,hr⟩ ih;rcases Nat.lt_or_ge i es.length with hlt|hge
 ·have hd:es.drop i=es[i]::es.drop (i+1):=List.drop_eq_getElem_cons hlt;have hwi:IntKind.i64.wrap ((i:Int)+1)=((i+1:Nat):Int):=zad (by omega)
  have hfx:=hf es[i] (List.getElem_mem hlt);rw[hd,List.all_cons]at hr
  cases hp:p es[i]with
  |false=>
   rw[hp]at hr hfx;simp[hfx,hfo1,hsz,h1,h7,h8,h9,hlt,<-hr]
  |true=>
   rw[hp]at hr hfx;rw[Bool.true_and]at hr;simp[hfx,hfo1,hsz,h1,h7,h8,h9,hlt,hwi];exact ih _ _ (by omega) ⟨i+1,rfl,by omega,by simp[hsz],by simp[h1],by simp[h7],by simp[h8],by simp,hr⟩
 ·obtain rfl:i=es.length:=by omega
  rw[List.drop_length,List.all_nil]at hr;simp[hsz,h8,h9,<-hr]
theorem zur(es:List Fl)(f:FuncId)(hfo:zfn ioS f=false)(p:Fl->Bool)(hn:es.length<=2000000)(hf:∀x∈es,C f [.ro (FD x)] []=some (.one (.ro (.bool (p x))),[])):
 C Fn91 [.ro (FS es),.fn f []] []=some (.one (.ro (.bool (es.all p))),[]):=by
 have hfo1:=hfo;simp at hfo1;refine zae Tryz.func91 Cv91 rfl ?_;simp
 refine zai (λm e=> ∃i,m=es.length-i/\i<=es.length/\e.size=18/\e.get 1=.one (.fn f [])/\e.get 7=.one (.ro (FS es))/\e.get 8=.one (.ro (N es.length))/\e.get 9=.one (.ro (N i))/\
  (es.drop i).all p=es.all p) ?_ es.length _ ⟨0,rfl,Nat.zero_le _,by simp,by simp,by simp,by simp,by simp,rfl⟩
 rintro m e ⟨i,rfl,hi,hsz,h1,h7,h8,h9,hr⟩ ih;rcases Nat.lt_or_ge i es.length with hlt|hge
 ·have hd:es.drop i=es[i]::es.drop (i+1):=List.drop_eq_getElem_cons hlt;have hwi:IntKind.i64.wrap ((i:Int)+1)=((i+1:Nat):Int):=zad (by omega)
  have hfx:=hf es[i] (List.getElem_mem hlt);rw[hd,List.all_cons]at hr
  cases hp:p es[i]with
  |false=>
   rw[hp]at hr hfx;simp[hfx,hfo1,hsz,h1,h7,h8,h9,hlt,<-hr]
  |true=>
   rw[hp]at hr hfx;rw[Bool.true_and]at hr;simp[hfx,hfo1,hsz,h1,h7,h8,h9,hlt,hwi];exact ih _ _ (by omega) ⟨i+1,rfl,by omega,by simp[hsz],by simp[h1],by simp[h7],by simp[h8],by simp,hr⟩
 ·obtain rfl:i=es.length:=by omega
  rw[List.drop_length,List.all_nil]at hr;simp[hsz,h8,h9,<-hr]
theorem zxu(es:List Fl)(f:FuncId)(hfo:zfn ioS f=false)(p:Fl->Bool)(hn:es.length<=2000000)(hf:∀x∈es,C f [.ro (FD x)] []=some (.one (.ro (.bool (p x))),[])):
 C Fn93 [.ro (FS es),.fn f []] []=some (.one (.ro (.bool (es.all p))),[]):=by
 have hfo1:=hfo;simp at hfo1;refine zae Tryz.func93 Cv93 rfl ?_;simp
 refine zai (λm e=> ∃i,m=es.length-i/\i<=es.length/\e.size=18/\e.get 1=.one (.fn f [])/\e.get 7=.one (.ro (FS es))/\e.get 8=.one (.ro (N es.length))/\e.get 9=.one (.ro (N i))/\
  (es.drop i).all p=es.all p) ?_ es.length _ ⟨0,rfl,Nat.zero_le _,by simp,by simp,by simp,by simp,by simp,rfl⟩
 rintro m e ⟨i,rfl,hi,hsz,h1,h7,h8,h9,hr⟩ ih;rcases Nat.lt_or_ge i es.length with hlt|hge
 ·have hd:es.drop i=es[i]::es.drop (i+1):=List.drop_eq_getElem_cons hlt;have hwi:IntKind.i64.wrap ((i:Int)+1)=((i+1:Nat):Int):=zad (by omega)
  have hfx:=hf es[i] (List.getElem_mem hlt);rw[hd,List.all_cons]at hr
  cases hp:p es[i]with
  |false=>
   rw[hp]at hr hfx;simp[hfx,hfo1,hsz,h1,h7,h8,h9,hlt,<-hr]
  |true=>
   rw[hp]at hr hfx;rw[Bool.true_and]at hr;simp[hfx,hfo1,hsz,h1,h7,h8,h9,hlt,hwi];exact ih _ _ (by omega) ⟨i+1,rfl,by omega,by simp[hsz],by simp[h1],by simp[h7],by simp[h8],by simp,hr⟩
 ·obtain rfl:i=es.length:=by omega
  rw[List.drop_length,List.all_nil]at hr;simp[hsz,h8,h9,<-hr]
theorem z57(es:List (List UInt8))(f:FuncId)(hfo:zfn ioS f=false)(p:(List UInt8)->Bool)(hn:es.length<=2000000)(hf:∀x∈es,C f [.ro (T x)] []=some (.one (.ro (.bool (p x))),[])):
 C Fn95 [.ro (SS es),.fn f []] []=some (.one (.ro (.bool (es.all p))),[]):=by
 have hfo1:=hfo;simp at hfo1;refine zae Tryz.func95 Cv95 rfl ?_;simp
 refine zai (λm e=> ∃i,m=es.length-i/\i<=es.length/\e.size=18/\e.get 1=.one (.fn f [])/\e.get 7=.one (.ro (SS es))/\e.get 8=.one (.ro (N es.length))/\e.get 9=.one (.ro (N i))/\
  (es.drop i).all p=es.all p) ?_ es.length _ ⟨0,rfl,Nat.zero_le _,by simp,by simp,by simp,by simp,by simp,rfl⟩
 rintro m e ⟨i,rfl,hi,hsz,h1,h7,h8,h9,hr⟩ ih;rcases Nat.lt_or_ge i es.length with hlt|hge
 ·have hd:es.drop i=es[i]::es.drop (i+1):=List.drop_eq_getElem_cons hlt;have hwi:IntKind.i64.wrap ((i:Int)+1)=((i+1:Nat):Int):=zad (by omega)
  have hfx:=hf es[i] (List.getElem_mem hlt);rw[hd,List.all_cons]at hr
  cases hp:p es[i]with
  |false=>
   rw[hp]at hr hfx;simp[hfx,hfo1,hsz,h1,h7,h8,h9,hlt,<-hr]
  |true=>
   rw[hp]at hr hfx;rw[Bool.true_and]at hr;simp[hfx,hfo1,hsz,h1,h7,h8,h9,hlt,hwi];exact ih _ _ (by omega) ⟨i+1,rfl,by omega,by simp[hsz],by simp[h1],by simp[h7],by simp[h8],by simp,hr⟩
 ·obtain rfl:i=es.length:=by omega
  rw[List.drop_length,List.all_nil]at hr;simp[hsz,h8,h9,<-hr]
theorem zkx(xs:za2)(hn:xs.length<=1048576):C z8l [.ro (SS xs)] []=some (.one (.own (SS xs)),[]):=by
 cases xs with
 |nil=>exact z5c
 |cons x r=>
  show C z8l [.ro (.sl 1 (T x::r.map T))] []=some (.one (.own (.sl 1 (T x::r.map T))),[]);refine zae Tryz.func151 yb3 rfl ?_;have ha:r.length+1<=zag:=by simp at hn;simp[zag];omega
  simp[ha]
theorem zxv(es:List Fl)(f:FuncId)(hfo:zfn ioS f=false)(hn:es.length<=1048576)(more:za2)(hm:more.length<=2)(hf:∀x∈es,C f [.ro (FD x)] []=some (.one (.ro (T x.1)),[])):
 C ygk [.ro (FS es),.fn f [],.ro (SS more)] []=some (.one (.ro (.bool (dupT more (es.map λx=>x.1)))),[]):=by
 have hfo1:=hfo;simp at hfo1;refine zae Tryz.func100 ygm rfl ?_;have hc:=zkx more (by omega)
 simp[hc]
 refine zai (λm e=> ∃i seen,m=es.length-i/\i<=es.length/\seen.length=i+more.length/\e.size=30/\e.get 1=.one (.fn f [])/\e.get 7=.one (.own (SS seen))/\e.get 12=.one (.ro (FS es))/\e.get 13=.one (.ro (N es.length))/\e.get 14=.one (.ro (N i))/\
  dupT seen ((es.drop i).map λx=>x.1)=dupT more (es.map λx=>x.1)) ?_ es.length _ ⟨0,more,rfl,Nat.zero_le _,by simp,by simp,by simp,by simp,by simp,by simp,by simp,rfl⟩
 rintro m e ⟨i,seen,rfl,hi,hseen,hsz,h1,h7,h12,h13,h14,hr⟩ ih;rcases Nat.lt_or_ge i es.length with hlt|hge
 ·have hd:es.drop i=es[i]::es.drop (i+1):=List.drop_eq_getElem_cons hlt;have hwi:IntKind.i64.wrap ((i:Int)+1)=((i+1:Nat):Int):=zad (by omega)
  have hnm:=hf es[i] (List.getElem_mem hlt);have hct:=zfg seen es[i].1 (by omega)
  have ha:seen.length+1<=zag:=by simp[zag];omega
  rw[hd,List.map_cons,dupT]at hr
  cases hp:seen.contains es[i].1 with
  |true=>
   rw[hp]at hct hr;rw[Bool.true_or]at hr;simp[hfo1,hsz,h1,h7,h12,h13,h14,hlt,hnm,hct,<-hr]
  |false=>
   rw[hp]at hct hr;rw[Bool.false_or]at hr;simp[hfo1,hsz,h1,h7,h12,h13,h14,hlt,hwi,hnm,hct,ha];exact ih _ _ (by omega) ⟨i+1,seen++[es[i].1],rfl,by omega,by simp[hseen];omega,by simp[hsz],by simp[h1],by simp,by simp[h12],by simp[h13],by simp,hr⟩
 ·obtain rfl:i=es.length:=by omega
  rw[List.drop_length,List.map_nil,dupT]at hr;simp[hsz,h13,h14,<-hr]
theorem zo6(es:List Fl)(f:FuncId)(hfo:zfn ioS f=false)(hn:es.length<=1048576)(more:za2)(hm:more.length<=2)(hf:∀x∈es,C f [.ro (FD x)] []=some (.one (.ro (T x.1)),[])):
 C ygt [.ro (FS es),.fn f [],.ro (SS more)] []=some (.one (.ro (.bool (dupT more (es.map λx=>x.1)))),[]):=by
 have hfo1:=hfo;simp at hfo1;refine zae Tryz.func103 ygv rfl ?_;have hc:=zkx more (by omega)
 simp[hc]
 refine zai (λm e=> ∃i seen,m=es.length-i/\i<=es.length/\seen.length=i+more.length/\e.size=30/\e.get 1=.one (.fn f [])/\e.get 7=.one (.own (SS seen))/\e.get 12=.one (.ro (FS es))/\e.get 13=.one (.ro (N es.length))/\e.get 14=.one (.ro (N i))/\
  dupT seen ((es.drop i).map λx=>x.1)=dupT more (es.map λx=>x.1)) ?_ es.length _ ⟨0,more,rfl,Nat.zero_le _,by simp,by simp,by simp,by simp,by simp,by simp,by simp,rfl⟩
 rintro m e ⟨i,seen,rfl,hi,hseen,hsz,h1,h7,h12,h13,h14,hr⟩ ih;rcases Nat.lt_or_ge i es.length with hlt|hge
 ·have hd:es.drop i=es[i]::es.drop (i+1):=List.drop_eq_getElem_cons hlt;have hwi:IntKind.i64.wrap ((i:Int)+1)=((i+1:Nat):Int):=zad (by omega)
  have hnm:=hf es[i] (List.getElem_mem hlt);have hct:=zfg seen es[i].1 (by omega)
  have ha:seen.length+1<=zag:=by simp[zag];omega
  rw[hd,List.map_cons,dupT]at hr
  cases hp:seen.contains es[i].1 with
  |true=>
   rw[hp]at hct hr;rw[Bool.true_or]at hr;simp[hfo1,hsz,h1,h7,h12,h13,h14,hlt,hnm,hct,<-hr]
  |false=>
   rw[hp]at hct hr;rw[Bool.false_or]at hr;simp[hfo1,hsz,h1,h7,h12,h13,h14,hlt,hwi,hnm,hct,ha];exact ih _ _ (by omega) ⟨i+1,seen++[es[i].1],rfl,by omega,by simp[hseen];omega,by simp[hsz],by simp[h1],by simp,by simp[h12],by simp[h13],by simp,hr⟩
 ·obtain rfl:i=es.length:=by omega
  rw[List.drop_length,List.map_nil,dupT]at hr;simp[hsz,h13,h14,<-hr]
theorem zrp(es:List Fl)(f:FuncId)(hfo:zfn ioS f=false)(hn:es.length<=1048576)(more:za2)(hm:more.length<=2)(hf:∀x∈es,C f [.ro (FD x)] []=some (.one (.ro (T x.1)),[])):
 C ygw [.ro (FS es),.fn f [],.ro (SS more)] []=some (.one (.ro (.bool (dupT more (es.map λx=>x.1)))),[]):=by
 have hfo1:=hfo;simp at hfo1;refine zae Tryz.func104 ygy rfl ?_;have hc:=zkx more (by omega)
 simp[hc]
 refine zai (λm e=> ∃i seen,m=es.length-i/\i<=es.length/\seen.length=i+more.length/\e.size=30/\e.get 1=.one (.fn f [])/\e.get 7=.one (.own (SS seen))/\e.get 12=.one (.ro (FS es))/\e.get 13=.one (.ro (N es.length))/\e.get 14=.one (.ro (N i))/\
  dupT seen ((es.drop i).map λx=>x.1)=dupT more (es.map λx=>x.1)) ?_ es.length _ ⟨0,more,rfl,Nat.zero_le _,by simp,by simp,by simp,by simp,by simp,by simp,by simp,rfl⟩
 rintro m e ⟨i,seen,rfl,hi,hseen,hsz,h1,h7,h12,h13,h14,hr⟩ ih;rcases Nat.lt_or_ge i es.length with hlt|hge
 ·have hd:es.drop i=es[i]::es.drop (i+1):=List.drop_eq_getElem_cons hlt;have hwi:IntKind.i64.wrap ((i:Int)+1)=((i+1:Nat):Int):=zad (by omega)
  have hnm:=hf es[i] (List.getElem_mem hlt);have hct:=zfg seen es[i].1 (by omega)
  have ha:seen.length+1<=zag:=by simp[zag];omega
  rw[hd,List.map_cons,dupT]at hr
  cases hp:seen.contains es[i].1 with
  |true=>
   rw[hp]at hct hr;rw[Bool.true_or]at hr;simp[hfo1,hsz,h1,h7,h12,h13,h14,hlt,hnm,hct,<-hr]
  |false=>
   rw[hp]at hct hr;rw[Bool.false_or]at hr;simp[hfo1,hsz,h1,h7,h12,h13,h14,hlt,hwi,hnm,hct,ha];exact ih _ _ (by omega) ⟨i+1,seen++[es[i].1],rfl,by omega,by simp[hseen];omega,by simp[hsz],by simp[h1],by simp,by simp[h12],by simp[h13],by simp,hr⟩
 ·obtain rfl:i=es.length:=by omega
  rw[List.drop_length,List.map_nil,dupT]at hr;simp[hsz,h13,h14,<-hr]
theorem zqj(es:List Ne)(f:FuncId)(hfo:zfn ioS f=false)(hn:es.length<=1048576)(more:za2)(hm:more.length<=2)(hf:∀x∈es,C f [.ro (NeD x)] []=some (.one (.ro (T x.name)),[])):
 C ygn [.ro (NeS es),.fn f [],.ro (SS more)] []=some (.one (.ro (.bool (dupT more (es.map λx=>x.name)))),[]):=by
 have hfo1:=hfo;simp at hfo1;refine zae Tryz.func101 ygp rfl ?_;have hc:=zkx more (by omega)
 simp[hc]
 refine zai (λm e=> ∃i seen,m=es.length-i/\i<=es.length/\seen.length=i+more.length/\e.size=30/\e.get 1=.one (.fn f [])/\e.get 7=.one (.own (SS seen))/\e.get 12=.one (.ro (NeS es))/\e.get 13=.one (.ro (N es.length))/\e.get 14=.one (.ro (N i))/\
  dupT seen ((es.drop i).map λx=>x.name)=dupT more (es.map λx=>x.name)) ?_ es.length _ ⟨0,more,rfl,Nat.zero_le _,by simp,by simp,by simp,by simp,by simp,by simp,by simp,rfl⟩
 rintro m e ⟨i,seen,rfl,hi,hseen,hsz,h1,h7,h12,h13,h14,hr⟩ ih;rcases Nat.lt_or_ge i es.length with hlt|hge
 ·have hd:es.drop i=es[i]::es.drop (i+1):=List.drop_eq_getElem_cons hlt;have hwi:IntKind.i64.wrap ((i:Int)+1)=((i+1:Nat):Int):=zad (by omega)
  have hnm:=hf es[i] (List.getElem_mem hlt);have hct:=zfg seen es[i].name (by omega)
  have ha:seen.length+1<=zag:=by simp[zag];omega
  rw[hd,List.map_cons,dupT]at hr
  cases hp:seen.contains es[i].name with
  |true=>
   rw[hp]at hct hr;rw[Bool.true_or]at hr;simp[hfo1,hsz,h1,h7,h12,h13,h14,hlt,hnm,hct,<-hr]
  |false=>
   rw[hp]at hct hr;rw[Bool.false_or]at hr;simp[hfo1,hsz,h1,h7,h12,h13,h14,hlt,hwi,hnm,hct,ha];exact ih _ _ (by omega) ⟨i+1,seen++[es[i].name],rfl,by omega,by simp[hseen];omega,by simp[hsz],by simp[h1],by simp,by simp[h12],by simp[h13],by simp,hr⟩
 ·obtain rfl:i=es.length:=by omega
  rw[List.drop_length,List.map_nil,dupT]at hr;simp[hsz,h13,h14,<-hr]
end Go.Qz
namespace Go.Qz
open Go.Proofs
structure Rc where
 name:List UInt8
 ver:List UInt8
 lets:List Fl
 builds:List Ne
 runs:List Ne
 srcs:List Fl
 pcs:List Fl
 steps:za2
abbrev RcD(r:Rc):D:=.agg [T r.name,T r.ver,FS r.lets,NeS r.builds,NeS r.runs,FS r.srcs,FS r.pcs,SS r.steps]
def flSz(f:Fl):Prop:=f.1.length<=1048576/\f.2.length<=1048576
structure RcSz(r:Rc):Prop where
 name:r.name.length<=1048576
 ver:r.ver.length<=1048576
 lets:r.lets.length<=1048576
 builds:r.builds.length<=1048576
 runs:r.runs.length<=1048576
 srcs:r.srcs.length<=1048576
 pcs:r.pcs.length<=1048576
 steps:r.steps.length<=1048576
 letz:∀f∈r.lets,flSz f
 bld:∀e∈r.builds,neSz e
 run:∀e∈r.runs,neSz e
 src:∀f∈r.srcs,flSz f
 pc:∀f∈r.pcs,flSz f
 step:∀x∈r.steps,x.length<=1048576
def hexB(b:UInt8):Bool:=(decide (48<=b.toNat)&&decide (b.toNat<=57))||(decide (97<=b.toNat)&&decide (b.toNat<=102))
def zrq(l:List UInt8):Bool:=l.all hexB&&decide (l.length=16)
def zj0(f:Fl):Bool:=zia f.1&&zrq f.2
def pcOk(f:Fl):Bool:=za1 f.1&&zic f.2
theorem z9f(l:List UInt8)(_:l.length<=1048576):C yiu [.ro (T l)] []=some (.one (.ro (.bool (zrq l))),[]):=by
 refine zae Tryz.func148 yiw rfl ?_;unfold zrq;by_cases h16:l.length=16
 ·have h16':((l.length:Int)==16)=true:=by rw[beq_iff_eq];omega
  have h16'':(l.length==16)=true:=by rw[beq_iff_eq];exact h16
  simp[h16]
  refine zai (λm e=> ∃i,m=l.length-i/\i<=l.length/\e.size=35/\e.get 0=.one (.ro (T l))/\e.get 8=.one (.ro (N 16))/\e.get 9=.one (.ro (N i))/\(l.drop i).all hexB=l.all hexB) ?_ l.length _
   ⟨0,rfl,Nat.zero_le _,by simp,by simp,by simp,by simp,rfl⟩
  rintro m e ⟨i,rfl,hi,hsz,h0,h8,h9,hr⟩ ih;rcases Nat.lt_or_ge i l.length with hlt|hge
  ·have hd:l.drop i=l[i]::l.drop (i+1):=List.drop_eq_getElem_cons hlt;have hwi:IntKind.i64.wrap ((i:Int)+1)=((i+1:Nat):Int):=zad (by omega)
   have hl16:(i:Int)<16:=by omega
   rw[hd,List.all_cons]at hr;have hx:hexB l[i]=((decide (48<=l[i].toNat)&&decide (l[i].toNat<=57))||(decide (97<=l[i].toNat)&&decide (l[i].toNat<=102))):=rfl
   cases hp:hexB l[i]with
   |false=>
    rw[hp]at hr hx;by_cases a1:l[i].toNat<48
    ·have a3:l[i].toNat<97:=by omega
     simp[hsz,h0,h8,h9,hlt,hl16,a1,a3,<-hr]
    ·by_cases a2:57<l[i].toNat
     ·by_cases a3:l[i].toNat<97
      ·simp[hsz,h0,h8,h9,hlt,hl16,a1,a2,a3,<-hr]
      ·have a4:102<l[i].toNat:=by
        rcases Nat.lt_or_ge 102 l[i].toNat with h|h
        ·exact h
        ·simp[h,show 97<=l[i].toNat by omega]at hx
       simp[hsz,h0,h8,h9,hlt,hl16,a1,a2,a3,a4,<-hr]
     ·simp[show 48<=l[i].toNat by omega,show l[i].toNat<=57 by omega]at hx
   |true=>
    rw[hp,Bool.true_and]at hr;rw[hp]at hx;have fin:∀e':Env,e'.size=35->e'.get 0=.one (.ro (T l))->e'.get 8=.one (.ro (N 16))->e'.get 9=.one (.ro (N (i+1)))->_:=λe' k0 k1 k2 k3=>ih (l.length-(i+1)) e' (by omega) ⟨i+1,rfl,by omega,k0,k1,k2,k3,hr⟩
    by_cases a1:l[i].toNat<48
    ·simp[show ¬48<=l[i].toNat by omega,show ¬97<=l[i].toNat by omega]at hx
    ·by_cases a2:57<l[i].toNat
     ·have a5:97<=l[i].toNat/\l[i].toNat<=102:=by
       simp only[show ¬l[i].toNat<=57 by omega,decide_false,Bool.and_false,Bool.false_or]at hx
       simpa using hx.symm
      have a3:¬l[i].toNat<97:=by omega
      have a4:¬102<l[i].toNat:=by omega
      simp[hsz,h0,h8,h9,hlt,hl16,a1,a2,a3,a4,hwi];exact fin _ (by simp[hsz]) (by simp[h0]) (by simp[h8]) (by simp)
     ·simp[hsz,h0,h8,h9,hlt,hl16,a1,a2,hwi];exact fin _ (by simp[hsz]) (by simp[h0]) (by simp[h8]) (by simp)
  ·obtain rfl:i=l.length:=by omega
   rw[List.drop_length,List.all_nil]at hr;simp[hsz,h8,h9,h16,<-hr]
 ·have h16':(l.length==16)=false:=by rw[beq_eq_false_iff_ne];exact h16
  simp[h16,h16']
theorem z9g(l:List UInt8)(hl:l.length<=1048576):C yeh [.ro (T l)] []=some (.one (.ro (.bool (zrq l))),[]):=by
 refine zae Tryz.func108 yg7 rfl ?_;unfold zrq;simp
 refine zai (λm e=> ∃i,m=l.length-i/\i<=l.length/\e.size=36/\e.get 0=.one (.ro (T l))/\e.get 3=.one (.ro (N i))/\(l.drop i).all hexB=l.all hexB) ?_ l.length _
  ⟨0,rfl,Nat.zero_le _,by simp,by simp,by simp,rfl⟩
 rintro m e ⟨i,rfl,hi,hsz,h0,h3,hr⟩ ih;rcases Nat.lt_or_ge i l.length with hlt|hge
 ·have hd:l.drop i=l[i]::l.drop (i+1):=List.drop_eq_getElem_cons hlt;have hwi:IntKind.i64.wrap ((i:Int)+1)=((i+1:Nat):Int):=zad (by omega)
  rw[hd,List.all_cons]at hr;have hx:hexB l[i]=((decide (48<=l[i].toNat)&&decide (l[i].toNat<=57))||(decide (97<=l[i].toNat)&&decide (l[i].toNat<=102))):=rfl
  cases hp:hexB l[i]with
  |false=>
   rw[hp]at hr hx;by_cases a1:48<=l[i].toNat
   ·by_cases a2:l[i].toNat<=57
    ·simp[a1,a2]at hx
    ·by_cases a3:97<=l[i].toNat
     ·by_cases a4:l[i].toNat<=102
      ·simp[a3,a4]at hx
      ·simp[hsz,h0,h3,hlt,a1,a2,a3,a4,<-hr]
     ·simp[hsz,h0,h3,hlt,a1,a2,a3,<-hr]
   ·have a3:¬97<=l[i].toNat:=by omega
    simp[hsz,h0,h3,hlt,a1,a3,<-hr]
  |true=>
   rw[hp,Bool.true_and]at hr;rw[hp]at hx;have fin:∀e':Env,e'.size=36->e'.get 0=.one (.ro (T l))->e'.get 3=.one (.ro (N (i+1)))->_:=λe' k0 k1 k2=>ih (l.length-(i+1)) e' (by omega) ⟨i+1,rfl,by omega,k0,k1,k2,hr⟩
   by_cases a1:48<=l[i].toNat
   ·by_cases a2:l[i].toNat<=57
    ·simp[hsz,h0,h3,hlt,a1,a2,hwi];exact fin _ (by simp[hsz]) (by simp[h0]) (by simp)
    ·have a5:97<=l[i].toNat/\l[i].toNat<=102:=by
      simp only[a2,decide_false,Bool.and_false,Bool.false_or]at hx;simpa using hx.symm
     simp[hsz,h0,h3,hlt,a1,a2,a5,hwi];exact fin _ (by simp[hsz]) (by simp[h0]) (by simp)
   ·simp[a1,show ¬97<=l[i].toNat by omega]at hx
 ·obtain rfl:i=l.length:=by omega
  rw[List.drop_length,List.all_nil]at hr;by_cases h16:l.length=16<;>simp[hsz,h0,h3,h16,<-hr]
theorem z9h(f:Fl)(h:flSz f):C Fn92 [.ro (FD f)] []=some (.one (.ro (.bool (zj0 f))),[]):=by
 refine zae Tryz.func92 Cv92 rfl ?_;have h1:=z5p f.1 (by have:=h.1;omega)
 have h2:=z9f f.2 h.2;unfold zj0;cases hp:zia f.1<;>rw[hp]at h1<;>simp[h1,h2]
theorem ycn(f:Fl)(h:flSz f):C Fn94 [.ro (FD f)] []=some (.one (.ro (.bool (pcOk f))),[]):=by
 refine zae Tryz.func94 Cv94 rfl ?_;have h1:=zdj f.1 (by have:=h.1;omega)
 have h2:=z1r f.2 h.2;unfold pcOk;cases hp:za1 f.1<;>rw[hp]at h1<;>simp[h1,h2]
def zec(r:Rc):Bool:=(za1 r.name&&zfj r.ver&&decide (r.steps.length<=10))&&(decide (r.lets.length<=6)&&decide (r.builds.length<=6)&&decide (r.runs.length<=6)&&decide (r.srcs.length<=6)&&decide (r.pcs.length<=6))&&
 (r.lets.all letB&&r.builds.all za8&&r.runs.all za8&&r.srcs.all zj0&&r.pcs.all pcOk&&r.steps.all zcg)
theorem mx5(a b c d e:Nat):decide ((6:Int)<mxI (mxI (mxI (mxI (a:Int) b) c) d) e)= !(decide (a<=6)&&decide (b<=6)&&decide (c<=6)&&decide (d<=6)&&decide (e<=6)):=by
 rw[Bool.eq_iff_iff];simp only[decide_eq_true_eq,Bool.not_eq_true',Bool.and_eq_false_iff,decide_eq_false_iff_not];unfold mxI;constructor
 ·intro h;split at h<;>split at h<;>split at h<;>split at h<;>omega
 ·intro h;split<;>split<;>split<;>split<;>omega
theorem zrr(r:Rc)(h:RcSz r):C Fn35 [.ro (RcD r)] []=some (.one (.ro (.bool (zec r))),[]):=by
 refine zae Tryz.func35 Cv35 rfl ?_;have h1:=zdj r.name (by have:=h.name;omega)
 have h2:=zkt r.ver h.ver;have a1:=z56 r.lets 88 (by decide) letB (by have:=h.lets;omega) (λf hf=>zzk f (by have:=(h.letz f hf).1;omega))
 have a2:=zqd r.builds h.bld h.builds;have a3:=zqd r.runs h.run h.runs;have a4:=zur r.srcs 92 (by decide) zj0 (by have:=h.srcs;omega) (λf hf=>z9h f (h.src f hf))
 have a5:=zxu r.pcs 94 (by decide) pcOk (by have:=h.pcs;omega) (λf hf=>ycn f (h.pc f hf))
 have a6:=z57 r.steps 96 (by decide) zcg (by have:=h.steps;omega) (λx _=>zok x)
 have m5:=mx5 r.lets.length r.builds.length r.runs.length r.srcs.length r.pcs.length;unfold zec;generalize (decide (r.lets.length<=6)&&decide (r.builds.length<=6)&&decide (r.runs.length<=6)&&decide (r.srcs.length<=6)&&decide (r.pcs.length<=6))=few at *;generalize hmx:mxI (mxI (mxI (mxI (r.lets.length:Int) r.builds.length) r.runs.length) r.srcs.length) r.pcs.length=mx at *;generalize r.lets.all letB=b1 at *;generalize r.builds.all za8=b2 at *;generalize r.runs.all za8=b3 at *;generalize r.srcs.all zj0=b4 at *;generalize r.pcs.all pcOk=b5 at *;generalize r.steps.all zcg=b6 at *
 generalize za1 r.name=c1 at *;generalize zfj r.ver=c2 at *;cases c1
 ·simp[h1]
 cases c2
 ·simp[h1,h2]
 by_cases h10:r.steps.length<=10
 ·have h10':¬(10:Int)<r.steps.length:=by omega
  cases few with
  |false=>
   have m6:(6:Int)<mx:=by simpa using m5
   simp[h1,h2,h10,h10',hmx,m6]
  |true=>
   have m6:¬(6:Int)<mx:=by simpa using m5
   cases b1
   ·simp[h1,h2,h10,h10',hmx,m6,a1]
   cases b2
   ·simp[h1,h2,h10,h10',hmx,m6,a1,a2]
   cases b3
   ·simp[h1,h2,h10,h10',hmx,m6,a1,a2,a3]
   cases b4
   ·simp[h1,h2,h10,h10',hmx,m6,a1,a2,a3,a4]
   cases b5
   ·simp[h1,h2,h10,h10',hmx,m6,a1,a2,a3,a4,a5]
   simp[h1,h2,h10,h10',hmx,m6,a1,a2,a3,a4,a5,a6]
 ·have h10':(10:Int)<r.steps.length:=by omega
  simp[h1,h2,h10,h10']
def zdq(r:Rc):Bool:=dupT [[110,97,109,101],[118,101,114,115,105,111,110]] (r.lets.map λx=>x.1)||dupT [] (r.builds.map λx=>x.name)||dupT [r.name] (r.runs.map λx=>x.name)||dupT [] (r.srcs.map λx=>x.1)||dupT [r.name] (r.pcs.map λx=>x.1)
theorem zo7(r:Rc)(h:RcSz r):C Fn36 [.ro (RcD r)] []=some (.one (.ro (.bool (zdq r))),[]):=by
 refine zae Tryz.func36 Cv36 rfl ?_;have n1:∀f:Fl,C Fn97 [.ro (FD f)] []=some (.one (.ro (T f.1)),[]):=λf=>zae Tryz.func97 Cv97 rfl (by simp)
 have n2:∀f:Fl,C Fn98 [.ro (FD f)] []=some (.one (.ro (T f.1)),[]):=λf=>zae Tryz.func98 Cv98 rfl (by simp)
 have n3:∀f:Fl,C Fn99 [.ro (FD f)] []=some (.one (.ro (T f.1)),[]):=λf=>zae Tryz.func99 Cv99 rfl (by simp)
 have t1:=zxv r.lets 97 (by decide) h.lets [[110,97,109,101],[118,101,114,115,105,111,110]] (by simp) (λf _=>n1 f)
 have t2:=zqj r.builds 102 (by decide) h.builds [] (by simp) (λf _=>zoi f)
 have t3:=zqj r.runs 102 (by decide) h.runs [r.name] (by simp) (λf _=>zoi f)
 have t4:=zo6 r.srcs 98 (by decide) h.srcs [] (by simp) (λf _=>n2 f)
 have t5:=zrp r.pcs 99 (by decide) h.pcs [r.name] (by simp) (λf _=>n3 f)
 rw[show SS []=.sl 1 []from rfl]at t2 t4
 rw[show SS [r.name]=.sl 1 [T r.name]from rfl]at t3 t5
 rw[show SS [[110,97,109,101],[118,101,114,115,105,111,110]]=.sl 1 [T [110,97,109,101],T [118,101,114,115,105,111,110]]from rfl]at t1
 unfold zdq;generalize dupT [[110,97,109,101],[118,101,114,115,105,111,110]] (r.lets.map λx=>x.1)=b1 at *
 generalize dupT [] (r.builds.map λx=>x.name)=b2 at *
 generalize dupT [r.name] (r.runs.map λx=>x.name)=b3 at *
 generalize dupT [] (r.srcs.map λx=>x.1)=b4 at *
 generalize dupT [r.name] (r.pcs.map λx=>x.1)=b5 at *
 cases b1
 ·cases b2
  ·cases b3
   ·cases b4
    ·simp[t1,t2,t3,t4,t5]
    ·simp[t1,t2,t3,t4]
   ·simp[t1,t2,t3]
  ·simp[t1,t2]
 ·simp[t1]
end Go.Qz
namespace Go.Qz
open Go.Proofs
theorem z9i(r:Rc):(r.srcs.all zj0&&(r.pcs.all pcOk&&(r.steps.all zcg&&((decide (r.lets.length<=6)&&decide (r.srcs.length<=6)&&decide (r.pcs.length<=6)&&decide (r.steps.length<=10))&&
 (za1 r.name&&zfj r.ver&&zhj r.lets&&(r.builds.all za8&&decide (r.builds.length<=6))&&(r.runs.all za8&&decide (r.runs.length<=6)))))))=zec r:=by
 unfold zec zhj;rw[Bool.eq_iff_iff];simp only[Bool.and_eq_true,decide_eq_true_eq];constructor
 ·rintro⟨a1,a2,a3,⟨⟨⟨a4,a5⟩,a6⟩,a7⟩,⟨⟨⟨b1,b2⟩,b3,b4⟩,b5,b6⟩,b7,b8⟩;exact⟨⟨⟨⟨b1,b2⟩,a7⟩,⟨⟨⟨a4,b6⟩,b8⟩,a5⟩,a6⟩,⟨⟨⟨⟨b3,b5⟩,b7⟩,a1⟩,a2⟩,a3⟩
 ·rintro⟨⟨⟨⟨b1,b2⟩,a7⟩,⟨⟨⟨a4,b6⟩,b8⟩,a5⟩,a6⟩,⟨⟨⟨⟨b3,b5⟩,b7⟩,a1⟩,a2⟩,a3⟩;exact⟨a1,a2,a3,⟨⟨⟨a4,a5⟩,a6⟩,a7⟩,⟨⟨⟨b1,b2⟩,b3,by omega⟩,b5,b6⟩,b7,b8⟩
abbrev RB1(r:Rc):List A:=[.ro (T r.name),.ro (T r.ver),.ro (FS r.lets),.ro (NeS r.builds),.ro (NeS r.runs),.ro (FS r.srcs),.ro (FS r.pcs),.ro (SS r.steps)]
set_option maxHeartbeats 4000000 in
theorem z58(r:Rc)(h:RcSz r):C Fn38 [.ro (RcD r)] []=some (.one (.ro (.bool (zec r))),[]):=by
 refine zae Tryz.func38 Cv38 rfl ?_;rw[<-z9i];have h1:=zib r.name (by have:=h.name;omega)
 rw[zks]at h1;have h2:=zku r.ver h.ver;have h3:=z5w r.lets (by have:=h.lets;omega) (λf hf=>⟨by have:=(h.letz f hf).1;omega,by have:=(h.letz f hf).2;omega⟩)
 have h4:=zqe r.builds h.bld h.builds;have h5:=zqe r.runs h.run h.runs
 have hsrc:∀i (hi:i<r.srcs.length),C yeg [.ro (T r.srcs[i].1)] []=some (.one (.ro (.bool (zia r.srcs[i].1))),[])/\C yeh [.ro (T r.srcs[i].2)] []=some (.one (.ro (.bool (zrq r.srcs[i].2))),[]):=λi hi=>by
  have:=h.src _ (List.getElem_mem hi);exact⟨z5q _ (by have:=this.1;omega),z9g _ this.2⟩
 have hpc:∀i (hi:i<r.pcs.length),C yei [.ro (T r.pcs[i].1)] []=some (.one (.ro (.bool (za1 r.pcs[i].1))),[])/\C yej [.ro (T r.pcs[i].2)] []=some (.one (.ro (.bool (zic r.pcs[i].2))),[]):=λi hi=>by
  have:=h.pc _ (List.getElem_mem hi);have k:=zib r.pcs[i].1 (by have:=this.1;omega)
  rw[zks]at k;exact⟨k,z1o _ this.2⟩
 have hst:∀i (hi:i<r.steps.length),C yek [.ro (T r.steps[i])] []=some (.one (.ro (.bool (zcg r.steps[i]))),[]):=λi hi=>zqf _ (by have:=h.step _ (List.getElem_mem hi);omega)
 have g1:=h.srcs;have g2:=h.pcs;have g3:=h.steps
 have rend:r.srcs.all zj0=true->r.pcs.all pcOk=true->r.steps.all zcg=true-> ∀e:Env,e.size=119->e.get 1=.one (.ptr 1 0)->e.box 1=some (RB1 r)->
  Run cx q38c6 e [.fn [(.tmp 2,4)] []]=some (.one (.ro (.bool ((decide (r.lets.length<=6)&&decide (r.srcs.length<=6)&&decide (r.pcs.length<=6)&&decide (r.steps.length<=10))&&
   (za1 r.name&&zfj r.ver&&zhj r.lets&&(r.builds.all za8&&decide (r.builds.length<=6))&&(r.runs.all za8&&decide (r.runs.length<=6)))))),[]):=by
  intro _ _ _ e hsz e1 b1;generalize (r.builds.all za8&&decide (r.builds.length<=6))=c4 at *;generalize (r.runs.all za8&&decide (r.runs.length<=6))=c5 at *;generalize zhj r.lets=c3 at *;generalize za1 r.name=c1 at *;generalize zfj r.ver=c2 at *;by_cases m1:r.lets.length<=6
  ·by_cases m2:r.srcs.length<=6
   ·by_cases m3:r.pcs.length<=6
    ·by_cases m4:r.steps.length<=10
     ·cases c1
      ·simp[hsz,e1,b1,m1,m2,m3,m4,h1]
      cases c2
      ·simp[hsz,e1,b1,m1,m2,m3,m4,h1,h2]
      cases c3
      ·simp[hsz,e1,b1,m1,m2,m3,m4,h1,h2,h3]
      cases c4
      ·simp[hsz,e1,b1,m1,m2,m3,m4,h1,h2,h3,h4]
      simp[hsz,e1,b1,m1,m2,m3,m4,h1,h2,h3,h4,h5]
     ·simp[hsz,e1,b1,m1,m2,m3,m4]
    ·simp[hsz,e1,b1,m1,m2,m3]
   ·simp[hsz,e1,b1,m1,m2]
  ·simp[hsz,e1,b1,m1]
 generalize ((decide (r.lets.length<=6)&&decide (r.srcs.length<=6)&&decide (r.pcs.length<=6)&&decide (r.steps.length<=10))&&
  (za1 r.name&&zfj r.ver&&zhj r.lets&&(r.builds.all za8&&decide (r.builds.length<=6))&&(r.runs.all za8&&decide (r.runs.length<=6))))=last at *
 have r3:r.srcs.all zj0=true->r.pcs.all pcOk=true-> ∀e:Env,e.size=119->e.get 1=.one (.ptr 1 0)->e.box 1=some (RB1 r)->
  Run cx q38c7 e [.fn [(.tmp 2,4)] []]=some (.one (.ro (.bool (r.steps.all zcg&&last))),[]):=by
  intro q1 q2 e hsz e1 b1;simp[hsz,-yar]
  refine zai (λm e=> ∃i,m=r.steps.length-i/\i<=r.steps.length/\e.size=119/\e.get 1=.one (.ptr 1 0)/\e.box 1=some (RB1 r)/\e.get 5=.one (.ro (N i))/\(r.steps.drop i).all zcg=r.steps.all zcg)
   ?_ r.steps.length _ ⟨0,rfl,Nat.zero_le _,by simp[hsz],by simp[e1],by simp[b1],by simp,rfl⟩
  rintro m e ⟨i,rfl,hi,hsz,e1,b1,h5,hr⟩ ih;rcases Nat.lt_or_ge i r.steps.length with hlt|hge
  ·have hd:r.steps.drop i=r.steps[i]::r.steps.drop (i+1):=List.drop_eq_getElem_cons hlt;have hwi:IntKind.i64.wrap ((i:Int)+1)=((i+1:Nat):Int):=zad (by omega)
   have hev:=hst i hlt;rw[hd,List.all_cons]at hr
   cases hp:zcg r.steps[i]with
   |false=>
    rw[hp]at hr hev;simp[hsz,e1,b1,h5,hlt,hev,<-hr]
   |true=>
    rw[hp]at hr hev;rw[Bool.true_and]at hr;simp[hsz,e1,b1,h5,hlt,hev,hwi];exact ih _ _ (by omega) ⟨i+1,rfl,by omega,by simp[hsz],by simp[e1],by simp[b1],by simp,hr⟩
  ·obtain rfl:i=r.steps.length:=by omega
   rw[List.drop_length,List.all_nil]at hr;simp[hsz,e1,b1,h5,-yar];rw[<-hr,Bool.true_and];exact rend q1 q2 hr.symm _ (by simp[hsz]) (by simp[e1]) (by simp[b1])
 have r2:r.srcs.all zj0=true-> ∀e:Env,e.size=119->e.get 1=.one (.ptr 1 0)->e.box 1=some (RB1 r)->
  Run cx q38c8 e [.fn [(.tmp 2,4)] []]=some (.one (.ro (.bool (r.pcs.all pcOk&&(r.steps.all zcg&&last)))),[]):=by
  intro q1 e hsz e1 b1;simp[hsz,-yas]
  refine zai (λm e=> ∃i,m=r.pcs.length-i/\i<=r.pcs.length/\e.size=119/\e.get 1=.one (.ptr 1 0)/\e.box 1=some (RB1 r)/\e.get 4=.one (.ro (N i))/\(r.pcs.drop i).all pcOk=r.pcs.all pcOk)
   ?_ r.pcs.length _ ⟨0,rfl,Nat.zero_le _,by simp[hsz],by simp[e1],by simp[b1],by simp,rfl⟩
  rintro m e ⟨i,rfl,hi,hsz,e1,b1,h5,hr⟩ ih;rcases Nat.lt_or_ge i r.pcs.length with hlt|hge
  ·have hd:r.pcs.drop i=r.pcs[i]::r.pcs.drop (i+1):=List.drop_eq_getElem_cons hlt;have hwi:IntKind.i64.wrap ((i:Int)+1)=((i+1:Nat):Int):=zad (by omega)
   obtain⟨v1,v2⟩:=hpc i hlt;have hx:pcOk r.pcs[i]=(za1 r.pcs[i].1&&zic r.pcs[i].2):=rfl;rw[hd,List.all_cons,hx]at hr
   cases p1:za1 r.pcs[i].1 with
   |false=>
    rw[p1]at hr v1;simp[hsz,e1,b1,h5,hlt,v1,<-hr]
   |true=>
    cases p2:zic r.pcs[i].2 with
    |false=>
     rw[p1,p2]at hr;rw[p1]at v1;rw[p2]at v2;simp[hsz,e1,b1,h5,hlt,v1,v2,<-hr]
    |true=>
     rw[p1,p2,Bool.and_self,Bool.true_and]at hr;rw[p1]at v1;rw[p2]at v2;simp[hsz,e1,b1,h5,hlt,v1,v2,hwi];exact ih _ _ (by omega) ⟨i+1,rfl,by omega,by simp[hsz],by simp[e1],by simp[b1],by simp,hr⟩
  ·obtain rfl:i=r.pcs.length:=by omega
   rw[List.drop_length,List.all_nil]at hr;simp[hsz,e1,b1,h5,-yas];rw[<-hr,Bool.true_and];exact r3 q1 hr.symm _ (by simp[hsz]) (by simp[e1]) (by simp[b1])
 simp[-yat]
 refine zai (λm e=> ∃i,m=r.srcs.length-i/\i<=r.srcs.length/\e.size=119/\e.get 1=.one (.ptr 1 0)/\e.box 1=some (RB1 r)/\e.get 3=.one (.ro (N i))/\(r.srcs.drop i).all zj0=r.srcs.all zj0)
  ?_ r.srcs.length _ ⟨0,rfl,Nat.zero_le _,by simp,by simp,by simp,by simp,rfl⟩
 rintro m e ⟨i,rfl,hi,hsz,e1,b1,h5,hr⟩ ih;rcases Nat.lt_or_ge i r.srcs.length with hlt|hge
 ·have hd:r.srcs.drop i=r.srcs[i]::r.srcs.drop (i+1):=List.drop_eq_getElem_cons hlt;have hwi:IntKind.i64.wrap ((i:Int)+1)=((i+1:Nat):Int):=zad (by omega)
  obtain⟨v1,v2⟩:=hsrc i hlt;have hx:zj0 r.srcs[i]=(zia r.srcs[i].1&&zrq r.srcs[i].2):=rfl;rw[hd,List.all_cons,hx]at hr
  cases p1:zia r.srcs[i].1 with
  |false=>
   rw[p1]at hr v1;simp[hsz,e1,b1,h5,hlt,v1,<-hr]
  |true=>
   cases p2:zrq r.srcs[i].2 with
   |false=>
    rw[p1,p2]at hr;rw[p1]at v1;rw[p2]at v2;simp[hsz,e1,b1,h5,hlt,v1,v2,<-hr]
   |true=>
    rw[p1,p2,Bool.and_self,Bool.true_and]at hr;rw[p1]at v1;rw[p2]at v2;simp[hsz,e1,b1,h5,hlt,v1,v2,hwi];exact ih _ _ (by omega) ⟨i+1,rfl,by omega,by simp[hsz],by simp[e1],by simp[b1],by simp,hr⟩
 ·obtain rfl:i=r.srcs.length:=by omega
  rw[List.drop_length,List.all_nil]at hr;simp[hsz,e1,b1,h5,-yat];rw[<-hr,Bool.true_and];exact r2 hr.symm _ (by simp[hsz]) (by simp[e1]) (by simp[b1])
end Go.Qz
namespace Go.Qz
open Go.Proofs
def ya1(r:Rc)(e:Env):Prop:=e.size=120/\e.get 1=.one (.ptr 1 0)/\e.box 1=some (RB1 r)
def z6a(r:Rc)(e:Env):Prop:=e.size=120/\e.get 1=.one (.ptr 1 0)/\e.box 1=some (RB1 r)/\e.get 3=.one (.own (SS ([[110,97,109,101],[118,101,114,115,105,111,110]]++(r.lets).map λx:Fl=>x.1)))
def z6b(r:Rc)(e:Env):Prop:=e.size=120/\e.get 1=.one (.ptr 1 0)/\e.box 1=some (RB1 r)/\e.get 3=.one (.own (SS ([[110,97,109,101],[118,101,114,115,105,111,110]]++(r.lets).map λx:Fl=>x.1)))/\e.get 5=.one (.own (SS ([]++(r.builds).map λx:Ne=>x.name)))
def z6c(r:Rc)(e:Env):Prop:=e.size=120/\e.get 1=.one (.ptr 1 0)/\e.box 1=some (RB1 r)/\e.get 3=.one (.own (SS ([[110,97,109,101],[118,101,114,115,105,111,110]]++(r.lets).map λx:Fl=>x.1)))/\e.get 5=.one (.own (SS ([]++(r.builds).map λx:Ne=>x.name)))/\e.get 7=.one (.own (SS ([r.name]++(r.runs).map λx:Ne=>x.name)))
def z6d(r:Rc)(e:Env):Prop:=e.size=120/\e.get 1=.one (.ptr 1 0)/\e.box 1=some (RB1 r)/\e.get 3=.one (.own (SS ([[110,97,109,101],[118,101,114,115,105,111,110]]++(r.lets).map λx:Fl=>x.1)))/\e.get 5=.one (.own (SS ([]++(r.builds).map λx:Ne=>x.name)))/\e.get 7=.one (.own (SS ([r.name]++(r.runs).map λx:Ne=>x.name)))/\e.get 9=.one (.own (SS ([]++(r.srcs).map λx:Fl=>x.1)))
def ye5(r:Rc)(e:Env):Prop:=e.size=120/\e.get 1=.one (.ptr 1 0)/\e.box 1=some (RB1 r)/\e.get 3=.one (.own (SS ([[110,97,109,101],[118,101,114,115,105,111,110]]++(r.lets).map λx:Fl=>x.1)))/\e.get 5=.one (.own (SS ([]++(r.builds).map λx:Ne=>x.name)))/\e.get 7=.one (.own (SS ([r.name]++(r.runs).map λx:Ne=>x.name)))/\e.get 9=.one (.own (SS ([]++(r.srcs).map λx:Fl=>x.1)))/\e.get 11=.one (.own (SS ([r.name]++(r.pcs).map λx:Fl=>x.1)))
theorem z9j(a b:List UInt8)(xs:za2)(h:(a==b)=false):dupT [] ([a,b]++xs)=dupT [a,b] xs:=by
 have h':¬a=b:=by simpa using h
 have h2:¬b=a:=λe=>h' e.symm
 show dupT [] (a::b::xs)=_;rw[dupT,dupT];simp[h2]
theorem yco(a:List UInt8)(xs:za2):dupT [] ([a]++xs)=dupT [a] xs:=by
 show dupT [] (a::xs)=_;rw[dupT];simp
theorem z6e(r:Rc)(h:RcSz r)(e:Env)(he:ye5 r e):Run cx q39c10 e [.fn [(.tmp 2,4)] []]=some (.one (.ro (.bool (zdq r))),[]):=by
 obtain⟨hsz,e1,b1,k1,k2,k3,k4,k5⟩:=he;have t1:=zgj ([[110,97,109,101],[118,101,114,115,105,111,110]]++r.lets.map λx=>x.1) (by have:=h.lets;simp;omega)
 have t2:=zgj ([]++r.builds.map λx=>x.name) (by have:=h.builds;simp;omega)
 have t3:=zgj ([r.name]++r.runs.map λx=>x.name) (by have:=h.runs;simp;omega)
 have t4:=zgj ([]++r.srcs.map λx=>x.1) (by have:=h.srcs;simp;omega)
 have t5:=zgj ([r.name]++r.pcs.map λx=>x.1) (by have:=h.pcs;simp;omega)
 rw[z9j _ _ _ (by decide)]at t1
 rw[yco]at t3 t5;have z2:dupT [] ([]++r.builds.map λx=>x.name)=dupT [] (r.builds.map λx=>x.name):=by rw[List.nil_append]
 have z4:dupT [] ([]++r.srcs.map λx=>x.1)=dupT [] (r.srcs.map λx=>x.1):=by rw[List.nil_append]
 rw[z2]at t2;rw[z4]at t4;clear z2 z4;unfold zdq;generalize ([[110,97,109,101],[118,101,114,115,105,111,110]]++r.lets.map λx=>x.1)=l1 at *
 generalize ([]++r.builds.map λx=>x.name)=l2 at *
 generalize ([r.name]++r.runs.map λx=>x.name)=l3 at *
 generalize ([]++r.srcs.map λx=>x.1)=l4 at *
 generalize ([r.name]++r.pcs.map λx=>x.1)=l5 at *
 generalize dupT [[110,97,109,101],[118,101,114,115,105,111,110]] (r.lets.map λx=>x.1)=b1 at *
 generalize dupT [] (r.builds.map λx=>x.name)=b2 at *
 generalize dupT [r.name] (r.runs.map λx=>x.name)=b3 at *
 generalize dupT [] (r.srcs.map λx=>x.1)=b4 at *
 generalize dupT [r.name] (r.pcs.map λx=>x.1)=b5 at *
 cases b1
 ·cases b2
  ·cases b3
   ·cases b4
    ·simp[hsz,k1,k2,k3,k4,k5,t1,t2,t3,t4,t5]
    ·simp[hsz,k1,k2,k3,k4,k5,t1,t2,t3,t4]
   ·simp[hsz,k1,k2,k3,k4,k5,t1,t2,t3]
  ·simp[hsz,k1,k2,k3,k4,k5,t1,t2]
 ·simp[hsz,k1,k2,k3,k4,k5,t1]
theorem zxw(r:Rc)(h:RcSz r)(e:Env)(he:z6d r e)(ht:e.get 11=.one (.own (SS [r.name])))(hi:e.get 12=.one (.ro (N 0))):
 Run cx (.loop q39l4) e [.blk 8,.seq q39c10,.fn [(.tmp 2,4)] []]=some (.one (.ro (.bool (zdq r))),[]):=by
 obtain⟨hsz,e1,b1,k1,k2,k3,k4⟩:=he;have hl:=h.pcs
 refine zai (λm e=> ∃i,m=r.pcs.length-i/\i<=r.pcs.length/\z6d r e/\e.get 11=.one (.own (SS ([r.name]++(r.pcs.take i).map λx:Fl=>x.1)))/\e.get 12=.one (.ro (N i)))
  ?_ r.pcs.length _ ⟨0,rfl,Nat.zero_le _,⟨by simp[hsz],by simp[e1],by simp[b1],by simp[k1],by simp[k2],by simp[k3],by simp[k4]⟩,by simp[ht],by simp[hi]⟩
 clear hsz e1 b1 k1 k2 k3 k4 ht hi;rintro m e ⟨i,rfl,hi,⟨hsz,e1,b1,k1,k2,k3,k4⟩,ht,hc⟩ ih;rcases Nat.lt_or_ge i r.pcs.length with hlt|hge
 ·have hwi:IntKind.i64.wrap ((i:Int)+1)=((i+1:Nat):Int):=zad (by omega)
  have hll:([r.name]++(r.pcs.take i).map λx:Fl=>x.1).length<=1048578:=by simp;omega
  have hs:([r.name]++(r.pcs.take (i+1)).map λx:Fl=>x.1)=([r.name]++(r.pcs.take i).map λx:Fl=>x.1)++[r.pcs[i].1]:=by rw[List.take_succ_eq_append_getElem hlt,List.map_append,List.map_cons,List.map_nil,List.append_assoc]
  generalize ([r.name]++(r.pcs.take i).map λx:Fl=>x.1)=ys at *
  have ha:ys.length+1<=zag:=by simp only[zag];omega
  simp[hsz,e1,b1,ht,hc,hlt,hwi,ha];exact ih _ _ (by omega) ⟨i+1,rfl,by omega,⟨by simp[hsz],by simp[e1],by simp[b1],by simp[k1],by simp[k2],by simp[k3],by simp[k4]⟩,by rw[hs];simp,by simp⟩
 ·obtain rfl:i=r.pcs.length:=by omega
  rw[List.take_length]at ht;simp[hsz,e1,b1,hc,-yby];exact z6e r h _ ⟨by simp[hsz],by simp[e1],by simp[b1],by simp[k1],by simp[k2],by simp[k3],by simp[k4],by simp[ht]⟩
theorem z6f(r:Rc)(h:RcSz r)(e:Env)(he:z6d r e):Run cx q39c11 e [.fn [(.tmp 2,4)] []]=some (.one (.ro (.bool (zdq r))),[]):=by
 obtain⟨hsz,e1,b1,k1,k2,k3,k4⟩:=he;simp[hsz,e1,b1];exact zxw r h _ ⟨by simp[hsz],by simp[e1],by simp[b1],by simp[k1],by simp[k2],by simp[k3],by simp[k4]⟩ (by simp) (by simp)
theorem zxx(r:Rc)(h:RcSz r)(e:Env)(he:z6c r e)(ht:e.get 9=.one (.own (SS [])))(hi:e.get 10=.one (.ro (N 0))):
 Run cx (.loop q39l3) e [.blk 6,.seq q39c11,.fn [(.tmp 2,4)] []]=some (.one (.ro (.bool (zdq r))),[]):=by
 obtain⟨hsz,e1,b1,k1,k2,k3⟩:=he;have hl:=h.srcs
 refine zai (λm e=> ∃i,m=r.srcs.length-i/\i<=r.srcs.length/\z6c r e/\e.get 9=.one (.own (SS ([]++(r.srcs.take i).map λx:Fl=>x.1)))/\e.get 10=.one (.ro (N i)))
  ?_ r.srcs.length _ ⟨0,rfl,Nat.zero_le _,⟨by simp[hsz],by simp[e1],by simp[b1],by simp[k1],by simp[k2],by simp[k3]⟩,by simp[ht],by simp[hi]⟩
 clear hsz e1 b1 k1 k2 k3 ht hi;rintro m e ⟨i,rfl,hi,⟨hsz,e1,b1,k1,k2,k3⟩,ht,hc⟩ ih;rcases Nat.lt_or_ge i r.srcs.length with hlt|hge
 ·have hwi:IntKind.i64.wrap ((i:Int)+1)=((i+1:Nat):Int):=zad (by omega)
  have hll:([]++(r.srcs.take i).map λx:Fl=>x.1).length<=1048578:=by simp;omega
  have hs:([]++(r.srcs.take (i+1)).map λx:Fl=>x.1)=([]++(r.srcs.take i).map λx:Fl=>x.1)++[r.srcs[i].1]:=by rw[List.take_succ_eq_append_getElem hlt,List.map_append,List.map_cons,List.map_nil,List.append_assoc]
  generalize ([]++(r.srcs.take i).map λx:Fl=>x.1)=ys at *
  have ha:ys.length+1<=zag:=by simp only[zag];omega
  simp[hsz,e1,b1,ht,hc,hlt,hwi,ha];exact ih _ _ (by omega) ⟨i+1,rfl,by omega,⟨by simp[hsz],by simp[e1],by simp[b1],by simp[k1],by simp[k2],by simp[k3]⟩,by rw[hs];simp,by simp⟩
 ·obtain rfl:i=r.srcs.length:=by omega
  rw[List.take_length]at ht;simp[hsz,e1,b1,hc,-ybz];exact z6f r h _ ⟨by simp[hsz],by simp[e1],by simp[b1],by simp[k1],by simp[k2],by simp[k3],by simp[ht]⟩
theorem z6g(r:Rc)(h:RcSz r)(e:Env)(he:z6c r e):Run cx q39c12 e [.fn [(.tmp 2,4)] []]=some (.one (.ro (.bool (zdq r))),[]):=by
 obtain⟨hsz,e1,b1,k1,k2,k3⟩:=he;simp[hsz];exact zxx r h _ ⟨by simp[hsz],by simp[e1],by simp[b1],by simp[k1],by simp[k2],by simp[k3]⟩ (by simp) (by simp)
theorem zxy(r:Rc)(h:RcSz r)(e:Env)(he:z6b r e)(ht:e.get 7=.one (.own (SS [r.name])))(hi:e.get 8=.one (.ro (N 0))):
 Run cx (.loop q39l2) e [.blk 4,.seq q39c12,.fn [(.tmp 2,4)] []]=some (.one (.ro (.bool (zdq r))),[]):=by
 obtain⟨hsz,e1,b1,k1,k2⟩:=he;have hl:=h.runs
 refine zai (λm e=> ∃i,m=r.runs.length-i/\i<=r.runs.length/\z6b r e/\e.get 7=.one (.own (SS ([r.name]++(r.runs.take i).map λx:Ne=>x.name)))/\e.get 8=.one (.ro (N i)))
  ?_ r.runs.length _ ⟨0,rfl,Nat.zero_le _,⟨by simp[hsz],by simp[e1],by simp[b1],by simp[k1],by simp[k2]⟩,by simp[ht],by simp[hi]⟩
 clear hsz e1 b1 k1 k2 ht hi;rintro m e ⟨i,rfl,hi,⟨hsz,e1,b1,k1,k2⟩,ht,hc⟩ ih;rcases Nat.lt_or_ge i r.runs.length with hlt|hge
 ·have hwi:IntKind.i64.wrap ((i:Int)+1)=((i+1:Nat):Int):=zad (by omega)
  have hll:([r.name]++(r.runs.take i).map λx:Ne=>x.name).length<=1048578:=by simp;omega
  have hs:([r.name]++(r.runs.take (i+1)).map λx:Ne=>x.name)=([r.name]++(r.runs.take i).map λx:Ne=>x.name)++[r.runs[i].name]:=by rw[List.take_succ_eq_append_getElem hlt,List.map_append,List.map_cons,List.map_nil,List.append_assoc]
  generalize ([r.name]++(r.runs.take i).map λx:Ne=>x.name)=ys at *
  have ha:ys.length+1<=zag:=by simp only[zag];omega
  simp[hsz,e1,b1,ht,hc,hlt,hwi,ha];exact ih _ _ (by omega) ⟨i+1,rfl,by omega,⟨by simp[hsz],by simp[e1],by simp[b1],by simp[k1],by simp[k2]⟩,by rw[hs];simp,by simp⟩
 ·obtain rfl:i=r.runs.length:=by omega
  rw[List.take_length]at ht;simp[hsz,e1,b1,hc,-yb0];exact z6g r h _ ⟨by simp[hsz],by simp[e1],by simp[b1],by simp[k1],by simp[k2],by simp[ht]⟩
theorem z6h(r:Rc)(h:RcSz r)(e:Env)(he:z6b r e):Run cx q39c13 e [.fn [(.tmp 2,4)] []]=some (.one (.ro (.bool (zdq r))),[]):=by
 obtain⟨hsz,e1,b1,k1,k2⟩:=he;simp[hsz,e1,b1];exact zxy r h _ ⟨by simp[hsz],by simp[e1],by simp[b1],by simp[k1],by simp[k2]⟩ (by simp) (by simp)
theorem zxz(r:Rc)(h:RcSz r)(e:Env)(he:z6a r e)(ht:e.get 5=.one (.own (SS [])))(hi:e.get 6=.one (.ro (N 0))):
 Run cx (.loop q39l1) e [.blk 2,.seq q39c13,.fn [(.tmp 2,4)] []]=some (.one (.ro (.bool (zdq r))),[]):=by
 obtain⟨hsz,e1,b1,k1⟩:=he;have hl:=h.builds
 refine zai (λm e=> ∃i,m=r.builds.length-i/\i<=r.builds.length/\z6a r e/\e.get 5=.one (.own (SS ([]++(r.builds.take i).map λx:Ne=>x.name)))/\e.get 6=.one (.ro (N i)))
  ?_ r.builds.length _ ⟨0,rfl,Nat.zero_le _,⟨by simp[hsz],by simp[e1],by simp[b1],by simp[k1]⟩,by simp[ht],by simp[hi]⟩
 clear hsz e1 b1 k1 ht hi;rintro m e ⟨i,rfl,hi,⟨hsz,e1,b1,k1⟩,ht,hc⟩ ih;rcases Nat.lt_or_ge i r.builds.length with hlt|hge
 ·have hwi:IntKind.i64.wrap ((i:Int)+1)=((i+1:Nat):Int):=zad (by omega)
  have hll:([]++(r.builds.take i).map λx:Ne=>x.name).length<=1048578:=by simp;omega
  have hs:([]++(r.builds.take (i+1)).map λx:Ne=>x.name)=([]++(r.builds.take i).map λx:Ne=>x.name)++[r.builds[i].name]:=by rw[List.take_succ_eq_append_getElem hlt,List.map_append,List.map_cons,List.map_nil,List.append_assoc]
  generalize ([]++(r.builds.take i).map λx:Ne=>x.name)=ys at *
  have ha:ys.length+1<=zag:=by simp only[zag];omega
  simp[hsz,e1,b1,ht,hc,hlt,hwi,ha];exact ih _ _ (by omega) ⟨i+1,rfl,by omega,⟨by simp[hsz],by simp[e1],by simp[b1],by simp[k1]⟩,by rw[hs];simp,by simp⟩
 ·obtain rfl:i=r.builds.length:=by omega
  rw[List.take_length]at ht;simp[hsz,e1,b1,hc,-yb1];exact z6h r h _ ⟨by simp[hsz],by simp[e1],by simp[b1],by simp[k1],by simp[ht]⟩
theorem z6i(r:Rc)(h:RcSz r)(e:Env)(he:z6a r e):Run cx q39c14 e [.fn [(.tmp 2,4)] []]=some (.one (.ro (.bool (zdq r))),[]):=by
 obtain⟨hsz,e1,b1,k1⟩:=he;simp[hsz];exact zxz r h _ ⟨by simp[hsz],by simp[e1],by simp[b1],by simp[k1]⟩ (by simp) (by simp)
theorem zx0(r:Rc)(h:RcSz r)(e:Env)(he:ya1 r e)(ht:e.get 3=.one (.own (SS [[110,97,109,101],[118,101,114,115,105,111,110]])))(hi:e.get 4=.one (.ro (N 0))):
 Run cx (.loop q39l0) e [.blk 0,.seq q39c14,.fn [(.tmp 2,4)] []]=some (.one (.ro (.bool (zdq r))),[]):=by
 obtain⟨hsz,e1,b1⟩:=he;have hl:=h.lets
 refine zai (λm e=> ∃i,m=r.lets.length-i/\i<=r.lets.length/\ya1 r e/\e.get 3=.one (.own (SS ([[110,97,109,101],[118,101,114,115,105,111,110]]++(r.lets.take i).map λx:Fl=>x.1)))/\e.get 4=.one (.ro (N i)))
  ?_ r.lets.length _ ⟨0,rfl,Nat.zero_le _,⟨by simp[hsz],by simp[e1],by simp[b1]⟩,by simp[ht],by simp[hi]⟩
 clear hsz e1 b1 ht hi;rintro m e ⟨i,rfl,hi,⟨hsz,e1,b1⟩,ht,hc⟩ ih;rcases Nat.lt_or_ge i r.lets.length with hlt|hge
 ·have hwi:IntKind.i64.wrap ((i:Int)+1)=((i+1:Nat):Int):=zad (by omega)
  have hll:([[110,97,109,101],[118,101,114,115,105,111,110]]++(r.lets.take i).map λx:Fl=>x.1).length<=1048578:=by simp;omega
  have hs:([[110,97,109,101],[118,101,114,115,105,111,110]]++(r.lets.take (i+1)).map λx:Fl=>x.1)=([[110,97,109,101],[118,101,114,115,105,111,110]]++(r.lets.take i).map λx:Fl=>x.1)++[r.lets[i].1]:=by rw[List.take_succ_eq_append_getElem hlt,List.map_append,List.map_cons,List.map_nil,List.append_assoc]
  generalize ([[110,97,109,101],[118,101,114,115,105,111,110]]++(r.lets.take i).map λx:Fl=>x.1)=ys at *
  have ha:ys.length+1<=zag:=by simp only[zag];omega
  simp[hsz,e1,b1,ht,hc,hlt,hwi,ha];exact ih _ _ (by omega) ⟨i+1,rfl,by omega,⟨by simp[hsz],by simp[e1],by simp[b1]⟩,by rw[hs];simp,by simp⟩
 ·obtain rfl:i=r.lets.length:=by omega
  rw[List.take_length]at ht;simp[hsz,e1,b1,hc,-yb2];exact z6i r h _ ⟨by simp[hsz],by simp[e1],by simp[b1],by simp[ht]⟩
theorem z1s(r:Rc)(h:RcSz r):C Fn39 [.ro (RcD r)] []=some (.one (.ro (.bool (zdq r))),[]):=by
 refine zae Tryz.func39 Cv39 rfl ?_;simp;exact zx0 r h _ ⟨by simp,by simp,by simp⟩ (by simp) (by simp)
end Go.Qz
namespace Go.Qz
open Go.Proofs
theorem zzo{fs:List Fl}{l:List UInt8}(h1:zhj fs=true)(h2:zcg l=true):zeq fs l=zbg (zcf fs (fs.length+1) []) [] l:=by
 unfold zeq;rw[h1,h2];rfl
theorem zgk{l:List UInt8}:zcg l=true↔l.all zcy=true/\1<=l.length/\l.length<=80:=by
 unfold zcg inI;simp only[Bool.and_eq_true,decide_eq_true_eq];constructor
 ·rintro⟨h1,h2,h3⟩;exact⟨h1,by omega,by omega⟩
 ·rintro⟨h1,h2,h3⟩;exact⟨h1,by omega,by omega⟩
def zus:List UInt8->Bool
 | []=>true
 |c::r=> !zfk (c::r)&&zus r
theorem zky{var:List UInt8->Nat×List UInt8}:∀(t out:List UInt8),zus t=true->zbg var out t=if 80<(out++t).length then(5,[])else(0,out++t)
 | [],out,_=>by rw[ze0];simp
 |c::r,out,h=>by
  unfold zus at h;simp only[Bool.and_eq_true,Bool.not_eq_true']at h;rw[zc5 h.1,zky r _ h.2];simp
theorem zg7{b:UInt8}(h:zgi b=true):zcy b=true/\b≠125/\b≠36:=by
 unfold zgi lowB at h;unfold zcy;simp only[Bool.or_eq_true,Bool.and_eq_true,decide_eq_true_eq]at h ⊢;refine⟨by omega,?_,?_⟩
 ·rintro rfl;rcases h with h|h<;>simp at h
 ·rintro rfl;rcases h with h|h<;>simp at h
theorem zgl{n:List UInt8}(h:za1 n=true):(∀b∈n,zgi b=true)/\n.length<=10:=by
 cases n with
 |nil=>simp[za1]at h
 |cons c r=>
  unfold za1 at h;simp only[Bool.and_eq_true,decide_eq_true_eq,List.all_eq_true]at h;exact⟨h.2.2,by simp;omega⟩
theorem zut:∀{n:List UInt8} (r:List UInt8),(∀b∈n,b≠125)->cutB (n++125::r)=some (n,r)
 | [],r,_=>by simp[cutB]
 |c::n,r,h=>by
  have hc:(c==125)=false:=by have:=h c (by simp);simpa using this
  rw[List.cons_append,cutB,hc,zut r (λb hb=>h b (by simp[hb]))]
  rfl
theorem zx1{var:List UInt8->Nat×List UInt8}{n:List UInt8}(hn:za1 n=true)(out rest:List UInt8):zbg var out (36::123::(n++125::rest))=
 if (var n).1=0 then(if 80<(out++(var n).2).length then(5,[])else zbg var (out++(var n).2) rest)else((var n).1,[]):=by
 have hc:=zut (n:=n) rest (λb hb=>(zg7 ((zgl hn).1 b hb)).2.1)
 rw[zfl rfl hc];simp only[hn,if_true]
theorem zuu{n:List UInt8}(hn:za1 n=true)(a b:List UInt8)(ha:a.all zcy=true)(hb:b.all zcy=true)(hab:a.length+b.length<=10):zcg (a++(36::123::(n++125::b)))=true:=by
 obtain⟨h1,h2⟩:=zgl hn;refine zgk.2 ⟨?_,by simp;omega,by simp;omega⟩
 have h3:n.all zcy=true:=List.all_eq_true.2 (λx hx=>(zg7 (h1 x hx)).1)
 simp only[List.all_append,List.all_cons,ha,hb,h3,Bool.and_true,Bool.true_and];decide
end Go.Qz
namespace Go.Qz
open Go.Proofs
theorem ziy(b:UInt8):∀(l:List UInt8) (c:UInt8),c∈l->c=b∨ ∃x∈zav b l,c∈x
 | [],c,h=>by cases h
 |a::r,c,h=>by
  rw[zav];split
  ·rename_i ha;rcases List.mem_cons.1 h with rfl|h
   ·exact .inl ha
   ·rcases ziy b r c h with h|⟨x,hx,hc⟩
    ·exact .inl h
    ·exact .inr ⟨x,by simp[hx],hc⟩
  ·cases hq:zav b r with
   |nil=>exact absurd hq (zg4 b r)
   |cons y t=>
    rcases List.mem_cons.1 h with rfl|h
    ·exact .inr ⟨c::y,by simp,by simp⟩
    ·rcases ziy b r c h with h|⟨x,hx,hc⟩
     ·exact .inl h
     ·rw[hq]at hx;rcases List.mem_cons.1 hx with rfl|hx
      ·exact .inr ⟨a::x,by simp,by simp[hc]⟩
      ·exact .inr ⟨x,by simp[hx],hc⟩
theorem zuv(b:UInt8):∀l:List UInt8,((zav b l).map λx=>x.length+1).sum=l.length+1
 | []=>by simp[zav]
 |a::r=>by
  have ih:=zuv b r;rw[zav];split
  ·simp[ih];omega
  ·cases hq:zav b r with
   |nil=>exact absurd hq (zg4 b r)
   |cons y t=>
    rw[hq]at ih;simp at ih ⊢;omega
theorem ye6{xs:za2}{k:Nat}(h:∀x∈xs,x.length<=k):(xs.map λx=>x.length+1).sum<=xs.length*(k+1):=by
 induction xs with
 |nil=>simp
 |cons x r ih=>
  have h1:=h x (by simp)
  have h2:=ih (λy hy=>h y (by simp[hy]))
  simp only[List.map_cons,List.sum_cons,List.length_cons,Nat.add_mul,Nat.one_mul];omega
theorem zmw{v:List UInt8}(h:zfj v=true):zcg v=true/\(∀c∈v,c≠36):=by
 unfold zfj at h;simp only[Bool.and_eq_true,decide_eq_true_eq,List.all_eq_true]at h;obtain⟨h4,hall⟩:=h
 have hpart:∀x∈zav 46 v,1<=x.length/\x.length<=3/\ ∀c∈x,figB c=true:=by
  intro x hx;have hp:=hall x hx;unfold zfv at hp;have h1:=z5r (l:=x) (m:=999) (x:=(numI x 999).1) (by rw[<-hp])
  have h2:=zxp hp;refine⟨?_,?_,λc hc=>?_⟩
  ·rcases Nat.eq_zero_or_pos x.length with h0|h0
   ·rw[List.length_eq_zero_iff]at h0;subst h0;rw[show (numI [] 999).2=false by decide]at hp
    cases hp
   ·exact h0
  ·rw[<-h1];exact zue _ h2
  ·rw[<-h1]at hc;exact ycb _ c hc
 have hsum:=zuv 46 v;have hle:=ye6 (k:=3) (λx hx=>(hpart x hx).2.1)
 have hmul:(zav 46 v).length*(3+1)<=4*4:=Nat.mul_le_mul h4 (Nat.le_refl _)
 have hchar:∀c∈v,c=46∨figB c=true:=λc hc=>by
  rcases ziy 46 v c hc with h|⟨x,hx,hcx⟩
  ·exact .inl h
  ·exact .inr ((hpart x hx).2.2 c hcx)
 have hfig:∀c:UInt8,figB c=true->zcy c=true/\c≠36:=λc hc=>by
  unfold figB at hc;unfold zcy;simp only[Bool.and_eq_true,decide_eq_true_eq]at hc ⊢;refine⟨by omega,?_⟩
  rintro rfl;simp at hc
 refine⟨zgk.2 ⟨List.all_eq_true.2 λc hc=>?_,?_,by omega⟩,λc hc=>?_⟩
 ·rcases hchar c hc with rfl|h
  ·decide
  ·exact(hfig c h).1
 ·rcases Nat.eq_zero_or_pos v.length with h0|h0
  ·rw[List.length_eq_zero_iff]at h0;subst h0;have:=(hpart [] (by simp[zav])).1
   simp at this
  ·exact h0
 ·rcases hchar c hc with rfl|h
  ·decide
  ·exact(hfig c h).2
theorem zuw:∀{l:List UInt8},(∀c∈l,c≠36)->zus l=true
 | [],_=>rfl
 |c::r,h=>by
  rw[zus,zuw (λx hx=>h x (by simp[hx])),Bool.and_true]
  cases r with
  |nil=>rfl
  |cons d r=>
   have:=h c (by simp)
   simp[zfk,this]
theorem zoo{n:List UInt8}(h:za1 n=true):zcg n=true/\(∀c∈n,c≠36):=by
 obtain⟨h1,h2⟩:=zgl h;refine⟨zgk.2 ⟨List.all_eq_true.2 λc hc=>(zg7 (h1 c hc)).1,?_,by omega⟩,λc hc=>(zg7 (h1 c hc)).2.2⟩
 cases n with
 |nil=>cases h
 |cons c r=>simp
def ownR(r:Rc):List Fl:=([110,97,109,101],r.name)::([118,101,114,115,105,111,110],r.ver)::r.lets
def refT(n:List UInt8):List UInt8:=36::123::(n++[125])
def chk(fs:List Fl):za2->Nat
 | []=>0
 |x::xs=>if (zeq fs x).1=0 then chk fs xs else(zeq fs x).1
def outs(fs:List Fl)(xs:za2):za2:=xs.map λx=>(zeq fs x).2
def zux(r:Rc):za2:=(ownR r).map (λf=>refT f.1)++r.steps
def zc6(r:Rc):Nat:=if zec r then(if zdq r then 2 else chk (ownR r) (zux r))else 1
theorem ziz{r:Rc}(h:zec r=true):za1 r.name=true/\zfj r.ver=true/\r.lets.length<=6/\r.lets.all letB=true/\r.steps.all zcg=true/\r.steps.length<=10:=by
 unfold zec at h;simp only[Bool.and_eq_true,decide_eq_true_eq]at h;obtain⟨⟨⟨⟨b1,b2⟩,a7⟩,⟨⟨⟨a4,_⟩,_⟩,_⟩,_⟩,⟨⟨⟨⟨b3,_⟩,_⟩,_⟩,_⟩,a3⟩:=h;exact⟨b1,b2,a4,b3,a3,a7⟩
theorem zrs{r:Rc}(h:zec r=true):zhj (ownR r)=true:=by
 obtain⟨h1,h2,h3,h4,h5,_⟩:=ziz h;unfold zhj ownR;rw[List.all_cons,List.all_cons,h4]
 have e1:letB ([110,97,109,101],r.name)=true:=by
  show (za1 [110,97,109,101]&&zcg r.name)=true;rw[(zoo h1).1];decide
 have e2:letB ([118,101,114,115,105,111,110],r.ver)=true:=by
  show (za1 [118,101,114,115,105,111,110]&&zcg r.ver)=true;rw[(zmw h2).1];decide
 rw[e1,e2];simp;omega
theorem zzp{fs:List Fl}(hf:zhj fs=true){n v:List UInt8}(hfind:zxq n fs=some v)(hn:za1 n=true)(hv:zcg v=true)(hm:∀c∈v,c≠36):zeq fs (refT n)=(0,v):=by
 have l1:zcg (36::123::(n++[125]))=true:=zuu hn [] [] rfl rfl (by simp)
 have hv80:=(zgk.1 hv).2.2
 have hxv:zcf fs (fs.length+1) [] n=(0,v):=by
  rw[zcf,hfind];show zbg _ [] v=_;rw[zky v [] (zuw hm),if_neg (by simp;omega)]
  rfl
 unfold refT;rw[zzo hf l1,zx1 hn [] [],hxv];simp only[if_true];rw[if_neg (by simp;omega),ze0,if_neg (by simp;omega)]
 rfl
theorem z9k{r:Rc}(h:zec r=true):zeq (ownR r) (refT [110,97,109,101])=(0,r.name):=by
 have hp:=ziz h;exact zzp (zrs h) rfl (by decide) (zoo hp.1).1 (zoo hp.1).2
theorem ycp{r:Rc}(h:zec r=true):zeq (ownR r) (refT [118,101,114,115,105,111,110])=(0,r.ver):=by
 have hp:=ziz h;exact zzp (zrs h) (by simp[ownR,zxq]) (by decide) (zmw hp.2.1).1 (zmw hp.2.1).2
theorem ycq{r:Rc}(h:zec r=true):chk (ownR r) (zux r)=chk (ownR r) (r.lets.map (λf=>refT f.1)++r.steps):=by
 have e:zux r=refT [110,97,109,101]::refT [118,101,114,115,105,111,110]::(r.lets.map (λf=>refT f.1)++r.steps):=rfl
 rw[e,chk,z9k h,if_pos rfl,chk,ycp h,if_pos rfl]
end Go.Qz
namespace Go.Qz
open Go.Proofs
theorem zrt(r:Rc)(h:RcSz r):C ygz [.ro (RcD r)] []=some (.one (.own (FS (ownR r))),[]):=by
 refine zae Tryz.func105 yg1 rfl ?_;have ha:2+r.lets.length<=zag:=by have:=h.lets;simp[zag];omega
 simp[ownR,ha]
theorem z9l(r:Rc)(h:RcSz r):C Fn41 [.ro (RcD r)] []=some (.one (.own (FS (ownR r))),[]):=by
 refine zae Tryz.func41 Cv41 rfl ?_;have ha:2+r.lets.length<=zag:=by have:=h.lets;simp[zag];omega
 simp[ownR,ha]
theorem ye7{r:Rc}(h:RcSz r):(ownR r).length<=1048578/\ ∀f∈ownR r,f.1.length<=1048576/\f.2.length<=1048576:=by
 have:=h.lets;refine⟨by simp[ownR];omega,λf hf=>?_⟩
 simp only[ownR,List.mem_cons]at hf;rcases hf with rfl|rfl|hf
 ·exact⟨by simp,h.name⟩
 ·exact⟨by simp,h.ver⟩
 ·exact h.letz f hf
theorem zo8(r:Rc)(h:RcSz r):C Fn37 [.ro (RcD r)] []=
 some (.tup [.own (SS (if chk (ownR r) (zux r)=0 then outs (ownR r) r.steps else [])),.ro (N (chk (ownR r) (zux r)))],[]):=by
 refine zae Tryz.func37 Cv37 rfl ?_;have hl:=zrt r h;obtain⟨hn,hsz2⟩:=ye7 h;unfold zux;generalize ownR r=fs at *;have hst:=h.steps
 have hE:∀l:List UInt8,l.length<=1048600->C yef [.ro (FS fs),.ro (T l)] []=some (.tup [.ro (T (zeq fs l).2),.ro (N (zeq fs l).1)],[]):=λl hl=>
  z1l fs l (by omega) (λf hf=>⟨by have:=(hsz2 f hf).1;omega,by have:=(hsz2 f hf).2;omega⟩) (by omega)
 have go2:∀e:Env,e.size=57->e.get 1=.one (.ptr 1 0)->e.box 1=some (RB1 r)->e.get 4=.one (.own (FS fs))->
  Run cx q37c6 e [.fn [(.tmp 2,27),(.tmp 3,3)] []]=some (.tup [.own (SS (if chk fs r.steps=0 then outs fs r.steps else [])),.ro (N (chk fs r.steps))],[]):=by
  intro e hsz e1 b1 e4;simp[hsz,e1,b1]
  refine zai (λm e=> ∃i,m=r.steps.length-i/\i<=r.steps.length/\e.size=57/\e.get 4=.one (.own (FS fs))/\e.get 9=.one (.own (SS (outs fs (r.steps.take i))))/\e.get 36=.one (.ro (SS r.steps))/\e.get 37=.one (.ro (N r.steps.length))/\e.get 38=.one (.ro (N i))/\
   chk fs (r.steps.drop i)=chk fs r.steps) ?_ r.steps.length _ ⟨0,rfl,Nat.zero_le _,by simp[hsz],by simp[e4],by simp[outs],by simp,by simp,by simp,rfl⟩
  clear hsz e1 b1 e4;rintro m e ⟨i,rfl,hi,hsz,e4,e9,e36,e37,e38,hr⟩ ih;rcases Nat.lt_or_ge i r.steps.length with hlt|hge
  ·have hd:r.steps.drop i=r.steps[i]::r.steps.drop (i+1):=List.drop_eq_getElem_cons hlt;have hwi:IntKind.i64.wrap ((i:Int)+1)=((i+1:Nat):Int):=zad (by omega)
   have hev:=hE r.steps[i] (by have:=h.step _ (List.getElem_mem hlt);omega)
   rw[hd,chk]at hr
   have ho:outs fs (r.steps.take (i+1))=outs fs (r.steps.take i)++[(zeq fs r.steps[i]).2]:=by
    unfold outs;rw[List.take_succ_eq_append_getElem hlt,List.map_append,List.map_cons,List.map_nil]
   have hol:(outs fs (r.steps.take i)).length<=1048576:=by unfold outs;simp;omega
   generalize zeq fs r.steps[i]=xv at *;obtain⟨c,x⟩:=xv;simp only at hev hr ho;generalize outs fs (r.steps.take i)=ys at *;have ha:ys.length+1<=zag:=by simp only[zag];omega
   by_cases hc:c=0
   ·subst hc;rw[if_pos rfl]at hr;simp[hsz,e4,e9,e36,e37,e38,hlt,hwi,hev,ha];exact ih _ _ (by omega) ⟨i+1,rfl,by omega,by simp[hsz],by simp[e4],by rw[ho];simp,by simp[e36],by simp[e37],by simp,hr⟩
   ·rw[if_neg hc]at hr;have hc':(c==0)=false:=by simpa using hc
    have hc2:¬chk fs r.steps=0:=by rw[<-hr];exact hc
    rw[<-hr];simp[hsz,e4,e36,e37,e38,hlt,hev,hc,hc']
  ·obtain rfl:i=r.steps.length:=by omega
   rw[List.drop_length,chk]at hr;rw[List.take_length]at e9;rw[<-hr];simp[hsz,e9,e37,e38]
 simp[hl]
 refine zai (λm e=> ∃i,m=fs.length-i/\i<=fs.length/\e.size=57/\e.get 1=.one (.ptr 1 0)/\e.box 1=some (RB1 r)/\e.get 4=.one (.own (FS fs))/\e.get 16=.one (.view ⟨.tmp 4,[]⟩)/\e.get 17=.one (.ro (N fs.length))/\e.get 18=.one (.ro (N i))/\
  chk fs ((fs.drop i).map (λf=>refT f.1)++r.steps)=chk fs (fs.map (λf=>refT f.1)++r.steps)) ?_ fs.length _ ⟨0,rfl,Nat.zero_le _,by simp,by simp,by simp,by simp,by simp,by simp,by simp,rfl⟩
 rintro m e ⟨i,rfl,hi,hsz,e1,b1,e4,e16,e17,e18,hr⟩ ih;rcases Nat.lt_or_ge i fs.length with hlt|hge
 ·have hd:fs.drop i=fs[i]::fs.drop (i+1):=List.drop_eq_getElem_cons hlt;have hwi:IntKind.i64.wrap ((i:Int)+1)=((i+1:Nat):Int):=zad (by omega)
  have hz:=(hsz2 _ (List.getElem_mem hlt)).1;have hev:=hE (refT fs[i].1) (by unfold refT;simp;omega)
  rw[hd,List.map_cons,List.cons_append,chk]at hr;unfold refT at hev;have m1:2+fs[i].1.length<=zak:=by simp only[zak];omega
  have m2:fs[i].1.length+1+1+1<=zak:=by simp only[zak];omega
  rw[show refT fs[i].1=36::123::(fs[i].1++[125])from rfl]at hr
  generalize zeq fs (36::123::(fs[i].1++[125]))=xv at *;obtain⟨c,x⟩:=xv;simp only at hev hr;by_cases hc:c=0
  ·subst hc;rw[if_pos rfl]at hr;simp[hsz,e4,e16,e17,e18,hlt,hwi,hev,m1,m2];exact ih _ _ (by omega) ⟨i+1,rfl,by omega,by simp[hsz],by simp[e1],by simp[b1],by simp[e4],by simp[e16],by simp[e17],by simp,hr⟩
  ·rw[if_neg hc]at hr;have hc':(c==0)=false:=by simpa using hc
   rw[<-hr];simp[hsz,e4,e16,e17,e18,hlt,hev,m1,m2,hc,hc']
 ·obtain rfl:i=fs.length:=by omega
  rw[List.drop_length,List.map_nil,List.nil_append]at hr;rw[<-hr];simp[hsz,e17,e18,-yee];exact go2 _ (by simp[hsz]) (by simp[e1]) (by simp[b1]) (by simp[e4])
theorem zop(r:Rc)(h:RcSz r):C Fn12 [.ro (RcD r)] []=some (.one (.ro (N (zc6 r))),[]):=by
 refine zae Tryz.func12 Cv12 rfl ?_;have h1:=zrr r h;have h2:=zo7 r h;have h3:=zo8 r h;unfold zc6;generalize zec r=b1 at *;generalize zdq r=b2 at *;generalize chk (ownR r) (zux r)=c at *;cases b1
 ·simp[h1]
 ·cases b2
  ·simp[h1,h2,h3]
  ·simp[h1,h2]
theorem zgm{r:Rc}(h:zc6 r=0):zec r=true/\zdq r=false/\chk (ownR r) (zux r)=0:=by
 unfold zc6 at h;split at h
 ·rename_i h1;split at h
  ·cases h
  ·rename_i h2;exact⟨h1,by simpa using h2,h⟩
 ·cases h
end Go.Qz
namespace Go.Qz
open Go.Proofs
def zd2(k:Int):List UInt8:=if k==1 then [61]else if k==2 then [62,61]else if k==3 then [60]else []
def zdk(e:Ne):List UInt8:=e.name++(zd2 e.kind++e.ver)
abbrev kwName:List UInt8:=[110,97,109,101]
abbrev kwVer:List UInt8:=[118,101,114,115,105,111,110]
abbrev zdo:List UInt8:=[108,101,116]
abbrev za3:List UInt8:=[98,117,105,108,100]
abbrev zcb:List UInt8:=[114,117,110]
abbrev zb4:List UInt8:=[115,111,117,114,99,101]
abbrev kwPc:List UInt8:=[112,105,101,99,101]
abbrev zay:List UInt8:=[115,116,101,112]
def ln1(w x:List UInt8):List UInt8:=w++32::x
def ln2(w:List UInt8)(f:Fl):List UInt8:=w++32::(f.1++32::f.2)
def lnN(w:List UInt8)(n:Ne):List UInt8:=ln1 w (zdk n)
def zel(r:Rc):za2:=ln1 kwName r.name::ln1 kwVer r.ver::(r.lets.map (ln2 zdo)++(r.builds.map (lnN za3)++(r.runs.map (lnN zcb)++(r.srcs.map (ln2 zb4)++(r.pcs.map (ln2 kwPc)++r.steps.map (ln1 zay))))))
def nlT(xs:za2):List UInt8:=xs.flatMap (· ++[10])
def putR(r:Rc):List UInt8:=nlT (zel r)
def zuy(r:Rc):List UInt8:=if zc6 r=0 then putR r else []
theorem zi0(x:List UInt8)(xs:za2):nlT (x::xs)=x++10::nlT xs:=by simp[nlT]
theorem zby(xs ys:za2):nlT (xs++ys)=nlT xs++nlT ys:=by simp[nlT]
theorem z9m{xs:za2}{i:Nat}(h:i<xs.length):nlT (xs.take (i+1))=nlT (xs.take i)++(xs[i]++[10]):=by
 rw[List.take_succ_eq_append_getElem h,zby];simp[nlT]
theorem zuz(k:Int):(zd2 k).length<=2:=by
 unfold zd2;split
 ·simp
 ·split
  ·simp
  ·split<;>simp
structure Fine(r:Rc):Prop where
 name:za1 r.name=true
 ver:zfj r.ver=true
 lets:(∀f∈r.lets,letB f=true)/\r.lets.length<=6
 builds:(∀f∈r.builds,za8 f=true)/\r.builds.length<=6
 runs:(∀f∈r.runs,za8 f=true)/\r.runs.length<=6
 srcs:(∀f∈r.srcs,zj0 f=true)/\r.srcs.length<=6
 pcs:(∀f∈r.pcs,pcOk f=true)/\r.pcs.length<=6
 steps:(∀f∈r.steps,zcg f=true)/\r.steps.length<=10
theorem zoq{r:Rc}(h:zec r=true):Fine r:=by
 unfold zec at h;simp only[Bool.and_eq_true,decide_eq_true_eq,List.all_eq_true]at h;exact⟨h.1.1.1.1,h.1.1.1.2,⟨h.2.1.1.1.1.1,h.1.2.1.1.1.1⟩,⟨h.2.1.1.1.1.2,h.1.2.1.1.1.2⟩,⟨h.2.1.1.1.2,h.1.2.1.1.2⟩,⟨h.2.1.1.2,h.1.2.1.2⟩,⟨h.2.1.2,h.1.2.2⟩,⟨h.2.2,h.1.1.2⟩⟩
theorem z1t{l:List UInt8}(h:l.all zcy=true):∀c∈l,c≠10:=by
 intro c hc e;subst e;have:=List.all_eq_true.1 h _ hc;revert this;decide
theorem zid{l:List UInt8}(h:zcg l=true):(∀c∈l,c≠10)/\l.length<=80:=⟨z1t (zgk.1 h).1,(zgk.1 h).2.2⟩
theorem z1u{c:UInt8}(h:zgi c=true):c≠10/\c≠32/\c≠60/\c≠61/\c≠62:=by
 refine⟨?_,?_,?_,?_,?_⟩<;>(rintro rfl;revert h;decide)
theorem zcc{n:List UInt8}(h:za1 n=true):(∀c∈n,c≠10/\c≠32/\c≠60/\c≠61/\c≠62)/\n.length<=10:=⟨λc hc=>z1u ((zgl h).1 c hc),(zgl h).2⟩
theorem zkz{v:List UInt8}(h:zfj v=true):(∀c∈v,c≠10)/\v.length<=80:=zid (zmw h).1
theorem zlq{c:UInt8}(h:zbr c=true):c≠10/\c≠32:=by
 constructor<;>(rintro rfl;revert h;decide)
theorem zru{f:Fl}(h:zj0 f=true):(∀c∈f.1,c≠10/\c≠32)/\(∀c∈f.2,c≠10)/\f.1.length<=10/\f.2.length<=80:=by
 unfold zj0 zia zrq at h;simp only[Bool.and_eq_true,decide_eq_true_eq,List.all_eq_true]at h;obtain⟨⟨⟨⟨⟨h1,_⟩,_⟩,h2⟩,_⟩,h3,h4⟩:=h;refine⟨λc hc=>zlq (h2 c hc),λc hc=>?_,h1,by omega⟩
 rintro rfl;have:=h3 _ hc;revert this;decide
theorem zk0{e:Ne}(h:za8 e=true):za1 e.name=true/\((e.kind=0/\e.ver=[])∨((e.kind=1∨e.kind=2∨e.kind=3)/\zfj e.ver=true)):=by
 unfold za8 at h;rw[Bool.and_eq_true]at h;refine⟨h.1,?_⟩;have h2:=h.2;split at h2
 ·rename_i hk;exact .inl ⟨by simpa using hk,by simpa using h2⟩
 ·rename_i hk;rw[Bool.and_eq_true]at h2;unfold inI at h2;simp only[Bool.and_eq_true,decide_eq_true_eq]at h2;exact .inr ⟨by omega,h2.2⟩
theorem z6j(k:Int):∀c∈zd2 k,c≠10:=by
 intro c hc;unfold zd2 at hc;split at hc
 ·simp at hc;subst hc;decide
 ·split at hc
  ·simp at hc;rcases hc with rfl|rfl<;>decide
  ·split at hc
   ·simp at hc;subst hc;decide
   ·simp at hc
theorem zu0{e:Ne}(h:za8 e=true):(∀c∈zdk e,c≠10)/\(zdk e).length<=92:=by
 obtain⟨hp,hv⟩:=zk0 h;have h1:=zcc hp
 have h3:(∀c∈e.ver,c≠10)/\e.ver.length<=80:=by
  rcases hv with⟨_,h0⟩|⟨_,h0⟩
  ·rw[h0];exact⟨by simp,by simp⟩
  ·exact zkz h0
 have h2:=zuz e.kind;unfold zdk;refine⟨λc hc=>?_,by simp only[List.length_append];omega⟩
 rcases List.mem_append.1 hc with hc|hc
 ·exact(h1.1 c hc).1
 ·rcases List.mem_append.1 hc with hc|hc
  ·exact z6j _ c hc
  ·exact h3.1 c hc
theorem zu1{s q:List UInt8}(h:clsB s=some q)(hq:∀c∈q,c≠10):∀c∈s,c≠10:=by
 unfold clsB at h;split at h
 ·rename_i a b c r h1 h2;split at h
  ·rename_i hc;obtain rfl:=Option.some.inj h;have hc':c=93:=by simpa using hc
   subst hc';intro x hx;have e:=(List.takeWhile_append_dropWhile (p:=zbr) (l:=s)).symm;rw[e,h2]at hx;rcases List.mem_append.1 hx with hx|hx
   ·have:=List.all_eq_true.1 (List.all_takeWhile (p:=zbr) (l:=s)) x hx;exact(zlq this).1
   ·rcases List.mem_cons.1 hx with rfl|hx
    ·decide
    ·exact hq x hx
  ·cases h
 ·cases h
theorem z6k{r q:List UInt8}(h:clsR r=some q)(hq:∀c∈q,c≠10):∀c∈r,c≠10:=by
 unfold clsR at h;split at h
 ·rename_i c s;split at h
  ·rename_i hc;have hc':c=33:=by simpa using hc
   subst hc';intro x hx;rcases List.mem_cons.1 hx with rfl|hx
   ·decide
   ·exact zu1 h hq x hx
  ·exact zu1 h hq
 ·cases h
theorem zi1:∀(n:Nat) (l:List UInt8),l.length<=n->zd1 l=true-> ∀c∈l,c≠10
 |_,[],_,_,c,hc=>by cases hc
 |0,_::_,hn,_,_,_=>by simp at hn
 |n+1,c::r,hn,h,x,hx=>by
  have hr:r.length<=n:=by simpa using hn
  cases h1:c==91 with
  |true=>
   have hc:c=91:=by simpa using h1
   subst hc;rw[zom]at h;split at h
   ·cases h
   ·rename_i q hq;have hl:=zrn hq;rcases List.mem_cons.1 hx with rfl|hx
    ·decide
    ·exact z6k hq (zi1 n q (by omega) h) x hx
  |false=>
   cases h2:c==42||c==63 with
   |true=>
    rw[zkw h1 h2]at h;rcases List.mem_cons.1 hx with rfl|hx
    ·rw[Bool.or_eq_true,beq_iff_eq,beq_iff_eq]at h2;rcases h2 with rfl|rfl<;>decide
    ·exact zi1 n r hr h x hx
   |false=>
    rw[zlp h1 h2,Bool.and_eq_true]at h;rcases List.mem_cons.1 hx with rfl|hx
    ·exact(zlq h.1).1
    ·exact zi1 n r hr h.2 x hx
theorem zu2{g:List UInt8}(h:zic g=true):(∀c∈g,c≠10)/\g.length<=40:=by
 unfold zic at h;simp only[Bool.and_eq_true,decide_eq_true_eq,List.all_eq_true]at h;refine⟨λc hc=>?_,h.2⟩
 rcases ziy 47 g c hc with rfl|⟨x,hx,hcx⟩
 ·decide
 ·have:=h.1.2 x hx;unfold zi6 at this;rw[Bool.and_eq_true]at this;exact zi1 _ x (Nat.le_refl _) this.1 c hcx
theorem zg8{w x:List UInt8}{k j:Nat}(hw:∀c∈w,c≠10)(hk:w.length<=k)(hx:∀c∈x,c≠10)(hj:x.length<=j):(∀c∈ln1 w x,c≠10)/\(ln1 w x).length<=k+j+1:=by
 unfold ln1;refine⟨λc hc=>?_,by simp;omega⟩
 rcases List.mem_append.1 hc with hc|hc
 ·exact hw c hc
 ·rcases List.mem_cons.1 hc with rfl|hc
  ·decide
  ·exact hx c hc
theorem zrv{w:List UInt8}{f:Fl}{k j:Nat}(hw:∀c∈w,c≠10)(hk:w.length<=k)(h1:∀c∈f.1,c≠10)(hx:∀c∈f.2,c≠10)(hj:f.1.length+f.2.length<=j):(∀c∈ln2 w f,c≠10)/\(ln2 w f).length<=k+j+2:=by
 have h2:(∀c∈ln1 f.1 f.2,c≠10):=(zg8 h1 (Nat.le_refl _) hx (Nat.le_refl _)).1;have:=zg8 (k:=k) (j:=j+1) hw hk h2 (by unfold ln1;simp;omega)
 exact⟨this.1,by have:=this.2;show (ln1 w (ln1 f.1 f.2)).length<=_;omega⟩
theorem zlr{r:Rc}(h:Fine r):∀x∈zel r,(∀c∈x,c≠10)/\x.length<=110:=by
 intro x hx;unfold zel at hx;simp only[List.mem_cons,List.mem_append,List.mem_map]at hx;have up:∀{l:List UInt8} {k:Nat},((∀c∈l,c≠10)/\l.length<=k)->k<=110->(∀c∈l,c≠10)/\l.length<=110:=λh hk=>⟨h.1,by have:=h.2;omega⟩
 rcases hx with rfl|rfl|⟨f,hf,rfl⟩|⟨f,hf,rfl⟩|⟨f,hf,rfl⟩|⟨f,hf,rfl⟩|⟨f,hf,rfl⟩|⟨f,hf,rfl⟩
 ·have:=zcc h.name;exact up (zg8 (k:=7) (j:=10) (by decide) (by decide) (λc hc=>(this.1 c hc).1) this.2) (by omega)
 ·have:=zkz h.ver;exact up (zg8 (k:=7) (j:=80) (by decide) (by decide) this.1 this.2) (by omega)
 ·have hl:=h.lets.1 f hf;unfold letB at hl;rw[Bool.and_eq_true]at hl;have h1:=zcc hl.1;have h2:=zid hl.2;exact up (zrv (k:=7) (j:=90) (by decide) (by decide) (λc hc=>(h1.1 c hc).1) h2.1 (by omega)) (by omega)
 ·have:=zu0 (h.builds.1 f hf);exact up (zg8 (k:=7) (j:=92) (by decide) (by decide) this.1 this.2) (by omega)
 ·have:=zu0 (h.runs.1 f hf);exact up (zg8 (k:=7) (j:=92) (by decide) (by decide) this.1 this.2) (by omega)
 ·have:=zru (h.srcs.1 f hf);exact up (zrv (k:=7) (j:=90) (by decide) (by decide) (λc hc=>(this.1 c hc).1) this.2.1 (by omega)) (by omega)
 ·have hl:=h.pcs.1 f hf;unfold pcOk at hl;rw[Bool.and_eq_true]at hl;have h1:=zcc hl.1;have h2:=zu2 hl.2;exact up (zrv (k:=7) (j:=90) (by decide) (by decide) (λc hc=>(h1.1 c hc).1) h2.1 (by omega)) (by omega)
 ·have:=zid (h.steps.1 f hf);exact up (zg8 (k:=7) (j:=80) (by decide) (by decide) this.1 this.2) (by omega)
theorem zu3{r:Rc}(h:Fine r):(zel r).length<=42:=by
 have:=h.lets.2;have:=h.builds.2;have:=h.runs.2;have:=h.srcs.2;have:=h.pcs.2;have:=h.steps.2;unfold zel;simp only[List.length_cons,List.length_append,List.length_map];omega
theorem ye8{xs:za2}{k:Nat}(h:∀x∈xs,x.length<=k):(nlT xs).length<=xs.length*(k+1):=by
 induction xs with
 |nil=>simp[nlT]
 |cons x r ih=>
  have h1:=h x (by simp)
  have h2:=ih (λy hy=>h y (by simp[hy]))
  rw[zi0];simp only[List.length_append,List.length_cons,Nat.add_mul,Nat.one_mul];omega
theorem zzq{r:Rc}(h:Fine r):(putR r).length<=4662:=by
 have h1:=ye8 (xs:=zel r) (k:=110) (λx hx=>(zlr h x hx).2)
 have h2:=Nat.mul_le_mul_right 111 (zu3 h);unfold putR;omega
theorem zqk{b:UInt8}:∀{n:List UInt8} (r:List UInt8),(∀c∈n,c≠b)->zav b (n++b::r)=n::zav b r
 | [],r,_=>by rw[List.nil_append,zav,if_pos rfl]
 |c::n,r,h=>by
  rw[List.cons_append,zav,if_neg (h c (by simp)),zqk r (λx hx=>h x (by simp[hx]))]
theorem zrw{b:UInt8}:∀{xs:za2},(∀x∈xs,∀c∈x,c≠b)->zav b (xs.flatMap (· ++[b]))=xs++[[]]
 | [],_=>rfl
 |x::r,h=>by
  have e:(x::r).flatMap (· ++[b])=x++b::r.flatMap (· ++[b]):=by simp
  rw[e,zqk _ (h x (by simp)),zrw (λy hy=>h y (by simp[hy]))]
  rfl
theorem zu4(b:UInt8):∀l:List UInt8,zav b (l++[b])=zav b l++[[]]
 | []=>by simp[zav]
 |c::r=>by
  rw[List.cons_append,zav,zav,zu4 b r];split
  ·rfl
  ·cases hq:zav b r with
   |nil=>exact absurd hq (zg4 b r)
   |cons y t=>rfl
theorem ycr{r:Rc}(h:Fine r){body:List UInt8}(hb:body++[10]=putR r):zav 10 body=zel r:=by
 have h1:=zrw (b:=10) (xs:=zel r) (λx hx=>(zlr h x hx).1)
 have h2:=zu4 10 body;rw[hb]at h2;have h3:zav 10 (putR r)=zel r++[[]]:=h1;rw[h3]at h2;exact(List.append_cancel_right h2).symm
end Go.Qz
