import Derived.Test.YtcadiohekccmiaaGreatDoorQYb0
import Derived.Test.YtcadiohekccmiaaGreatDoorQp0
namespace Go.Qz
open Go.Proofs
def z8r(r:Rc)(e:Env):Prop:=e.size=120/\e.get 1=.one (.ptr 1 0)/\e.box 1=some (RB1 r)
def z3v(r:Rc)(e:Env):Prop:=e.size=120/\e.get 1=.one (.ptr 1 0)/\e.box 1=some (RB1 r)/\e.get 3=.one (.own (SS ([[110,97,109,101],[118,101,114,115,105,111,110]]++(r.lets).map λx:Fl=>x.1)))
def z3w(r:Rc)(e:Env):Prop:=e.size=120/\e.get 1=.one (.ptr 1 0)/\e.box 1=some (RB1 r)/\e.get 3=.one (.own (SS ([[110,97,109,101],[118,101,114,115,105,111,110]]++(r.lets).map λx:Fl=>x.1)))/\e.get 5=.one (.own (SS ([]++(r.builds).map λx:Ne=>x.name)))
def z3x(r:Rc)(e:Env):Prop:=e.size=120/\e.get 1=.one (.ptr 1 0)/\e.box 1=some (RB1 r)/\e.get 3=.one (.own (SS ([[110,97,109,101],[118,101,114,115,105,111,110]]++(r.lets).map λx:Fl=>x.1)))/\e.get 5=.one (.own (SS ([]++(r.builds).map λx:Ne=>x.name)))/\e.get 7=.one (.own (SS ([r.name]++(r.runs).map λx:Ne=>x.name)))
def z3y(r:Rc)(e:Env):Prop:=e.size=120/\e.get 1=.one (.ptr 1 0)/\e.box 1=some (RB1 r)/\e.get 3=.one (.own (SS ([[110,97,109,101],[118,101,114,115,105,111,110]]++(r.lets).map λx:Fl=>x.1)))/\e.get 5=.one (.own (SS ([]++(r.builds).map λx:Ne=>x.name)))/\e.get 7=.one (.own (SS ([r.name]++(r.runs).map λx:Ne=>x.name)))/\e.get 9=.one (.own (SS ([]++(r.srcs).map λx:Fl=>x.1)))
def yeh(r:Rc)(e:Env):Prop:=e.size=120/\e.get 1=.one (.ptr 1 0)/\e.box 1=some (RB1 r)/\e.get 3=.one (.own (SS ([[110,97,109,101],[118,101,114,115,105,111,110]]++(r.lets).map λx:Fl=>x.1)))/\e.get 5=.one (.own (SS ([]++(r.builds).map λx:Ne=>x.name)))/\e.get 7=.one (.own (SS ([r.name]++(r.runs).map λx:Ne=>x.name)))/\e.get 9=.one (.own (SS ([]++(r.srcs).map λx:Fl=>x.1)))/\e.get 11=.one (.own (SS ([r.name]++(r.pcs).map λx:Fl=>x.1)))
theorem z6z(a b:List UInt8)(xs:zaz)(h:(a==b)=false):dupT [] ([a,b]++xs)=dupT [a,b] xs:=by
 have h':¬a=b:=by simpa using h
 have h2:¬b=a:=λe=>h' e.symm
 show dupT [] (a::b::xs)=_;rw[dupT,dupT];simp[h2]
theorem yab(a:List UInt8)(xs:zaz):dupT [] ([a]++xs)=dupT [a] xs:=by
 show dupT [] (a::xs)=_;rw[dupT];simp
theorem z3z(r:Rc)(h:RcSz r)(e:Env)(he:yeh r e):Run cx q39c10 e [.fn [(.tmp 2,4)] []]=some (.one (.ro (.bool (zdo r))),[]):=by
 obtain⟨hsz,e1,b1,k1,k2,k3,k4,k5⟩:=he;have t1:=zge ([[110,97,109,101],[118,101,114,115,105,111,110]]++r.lets.map λx=>x.1) (by have:=h.lets;simp;omega)
 have t2:=zge ([]++r.builds.map λx=>x.name) (by have:=h.builds;simp;omega)
 have t3:=zge ([r.name]++r.runs.map λx=>x.name) (by have:=h.runs;simp;omega)
 have t4:=zge ([]++r.srcs.map λx=>x.1) (by have:=h.srcs;simp;omega)
 have t5:=zge ([r.name]++r.pcs.map λx=>x.1) (by have:=h.pcs;simp;omega)
 rw[z6z _ _ _ (by decide)]at t1
 rw[yab]at t3 t5;have z2:dupT [] ([]++r.builds.map λx=>x.name)=dupT [] (r.builds.map λx=>x.name):=by rw[List.nil_append]
 have z4:dupT [] ([]++r.srcs.map λx=>x.1)=dupT [] (r.srcs.map λx=>x.1):=by rw[List.nil_append]
 rw[z2]at t2;rw[z4]at t4;clear z2 z4;unfold zdo;generalize ([[110,97,109,101],[118,101,114,115,105,111,110]]++r.lets.map λx=>x.1)=l1 at *
 generalize ([]++r.builds.map λx=>x.name)=l2 at *
 generalize ([r.name]++r.runs.map λx=>x.name)=l3 at *
 generalize ([]++r.srcs.map λx=>x.1)=l4 at *
 generalize ([r.name]++r.pcs.map λx=>x.1)=l5 at *
 generalize dupT [[110,97,109,101],[118,101,114,115,105,111,110]] (r.lets.map λx=>x.1)=b1 at *
 generalize dupT [] (r.builds.map λx=>x.name)=b2 at *
 generalize dupT [r.name] (r.runs.map λx=>x.name)=b3 at *
 generalize dupT [] (r.srcs.map λx=>x.1)=b4 at *
 generalize dupT [r.name] (r.pcs.map λx=>x.1)=b5 at *
 cases b1
 ·cases b2
  ·cases b3
   ·cases b4
    ·simp[hsz,k1,k2,k3,k4,k5,t1,t2,t3,t4,t5]
    ·simp[hsz,k1,k2,k3,k4,k5,t1,t2,t3,t4]
   ·simp[hsz,k1,k2,k3,k4,k5,t1,t2,t3]
  ·simp[hsz,k1,k2,k3,k4,k5,t1,t2]
 ·simp[hsz,k1,k2,k3,k4,k5,t1]
theorem zwn(r:Rc)(h:RcSz r)(e:Env)(he:z3y r e)(ht:e.get 11=.one (.own (SS [r.name])))(hi:e.get 12=.one (.ro (N 0))):
 Run cx (.loop q39l4) e [.blk 8,.seq q39c10,.fn [(.tmp 2,4)] []]=some (.one (.ro (.bool (zdo r))),[]):=by
 obtain⟨hsz,e1,b1,k1,k2,k3,k4⟩:=he;have hl:=h.pcs
 refine zak (λm e=> ∃i,m=r.pcs.length-i/\i<=r.pcs.length/\z3y r e/\e.get 11=.one (.own (SS ([r.name]++(r.pcs.take i).map λx:Fl=>x.1)))/\e.get 12=.one (.ro (N i)))
  ?_ r.pcs.length _ ⟨0,rfl,Nat.zero_le _,⟨by simp[hsz],by simp[e1],by simp[b1],by simp[k1],by simp[k2],by simp[k3],by simp[k4]⟩,by simp[ht],by simp[hi]⟩
 clear hsz e1 b1 k1 k2 k3 k4 ht hi;rintro m e ⟨i,rfl,hi,⟨hsz,e1,b1,k1,k2,k3,k4⟩,ht,hc⟩ ih;rcases Nat.lt_or_ge i r.pcs.length with hlt|hge
 ·have hwi:IntKind.i64.wrap ((i:Int)+1)=((i+1:Nat):Int):=zae (by omega)
  have hll:([r.name]++(r.pcs.take i).map λx:Fl=>x.1).length<=1048578:=by simp;omega
  have hs:([r.name]++(r.pcs.take (i+1)).map λx:Fl=>x.1)=([r.name]++(r.pcs.take i).map λx:Fl=>x.1)++[r.pcs[i].1]:=by rw[List.take_succ_eq_append_getElem hlt,List.map_append,List.map_cons,List.map_nil,List.append_assoc]
  generalize ([r.name]++(r.pcs.take i).map λx:Fl=>x.1)=ys at *
  have ha:ys.length+1<=zad:=by simp only[zad];omega
  simp[hsz,e1,b1,ht,hc,hlt,hwi,ha];exact ih _ _ (by omega) ⟨i+1,rfl,by omega,⟨by simp[hsz],by simp[e1],by simp[b1],by simp[k1],by simp[k2],by simp[k3],by simp[k4]⟩,by rw[hs];simp,by simp⟩
 ·obtain rfl:i=r.pcs.length:=by omega
  rw[List.take_length]at ht;simp[hsz,e1,b1,hc,-z9o];exact z3z r h _ ⟨by simp[hsz],by simp[e1],by simp[b1],by simp[k1],by simp[k2],by simp[k3],by simp[k4],by simp[ht]⟩
theorem z30(r:Rc)(h:RcSz r)(e:Env)(he:z3y r e):Run cx q39c11 e [.fn [(.tmp 2,4)] []]=some (.one (.ro (.bool (zdo r))),[]):=by
 obtain⟨hsz,e1,b1,k1,k2,k3,k4⟩:=he;simp[hsz,e1,b1];exact zwn r h _ ⟨by simp[hsz],by simp[e1],by simp[b1],by simp[k1],by simp[k2],by simp[k3],by simp[k4]⟩ (by simp) (by simp)
theorem zwo(r:Rc)(h:RcSz r)(e:Env)(he:z3x r e)(ht:e.get 9=.one (.own (SS [])))(hi:e.get 10=.one (.ro (N 0))):
 Run cx (.loop q39l3) e [.blk 6,.seq q39c11,.fn [(.tmp 2,4)] []]=some (.one (.ro (.bool (zdo r))),[]):=by
 obtain⟨hsz,e1,b1,k1,k2,k3⟩:=he;have hl:=h.srcs
 refine zak (λm e=> ∃i,m=r.srcs.length-i/\i<=r.srcs.length/\z3x r e/\e.get 9=.one (.own (SS ([]++(r.srcs.take i).map λx:Fl=>x.1)))/\e.get 10=.one (.ro (N i)))
  ?_ r.srcs.length _ ⟨0,rfl,Nat.zero_le _,⟨by simp[hsz],by simp[e1],by simp[b1],by simp[k1],by simp[k2],by simp[k3]⟩,by simp[ht],by simp[hi]⟩
 clear hsz e1 b1 k1 k2 k3 ht hi;rintro m e ⟨i,rfl,hi,⟨hsz,e1,b1,k1,k2,k3⟩,ht,hc⟩ ih;rcases Nat.lt_or_ge i r.srcs.length with hlt|hge
 ·have hwi:IntKind.i64.wrap ((i:Int)+1)=((i+1:Nat):Int):=zae (by omega)
  have hll:([]++(r.srcs.take i).map λx:Fl=>x.1).length<=1048578:=by simp;omega
  have hs:([]++(r.srcs.take (i+1)).map λx:Fl=>x.1)=([]++(r.srcs.take i).map λx:Fl=>x.1)++[r.srcs[i].1]:=by rw[List.take_succ_eq_append_getElem hlt,List.map_append,List.map_cons,List.map_nil,List.append_assoc]
  generalize ([]++(r.srcs.take i).map λx:Fl=>x.1)=ys at *
  have ha:ys.length+1<=zad:=by simp only[zad];omega
  simp[hsz,e1,b1,ht,hc,hlt,hwi,ha];exact ih _ _ (by omega) ⟨i+1,rfl,by omega,⟨by simp[hsz],by simp[e1],by simp[b1],by simp[k1],by simp[k2],by simp[k3]⟩,by rw[hs];simp,by simp⟩
 ·obtain rfl:i=r.srcs.length:=by omega
  rw[List.take_length]at ht;simp[hsz,e1,b1,hc,-z9p];exact z30 r h _ ⟨by simp[hsz],by simp[e1],by simp[b1],by simp[k1],by simp[k2],by simp[k3],by simp[ht]⟩
theorem z32(r:Rc)(h:RcSz r)(e:Env)(he:z3x r e):Run cx q39c12 e [.fn [(.tmp 2,4)] []]=some (.one (.ro (.bool (zdo r))),[]):=by
 obtain⟨hsz,e1,b1,k1,k2,k3⟩:=he;simp[hsz];exact zwo r h _ ⟨by simp[hsz],by simp[e1],by simp[b1],by simp[k1],by simp[k2],by simp[k3]⟩ (by simp) (by simp)
theorem zwp(r:Rc)(h:RcSz r)(e:Env)(he:z3w r e)(ht:e.get 7=.one (.own (SS [r.name])))(hi:e.get 8=.one (.ro (N 0))):
 Run cx (.loop q39l2) e [.blk 4,.seq q39c12,.fn [(.tmp 2,4)] []]=some (.one (.ro (.bool (zdo r))),[]):=by
 obtain⟨hsz,e1,b1,k1,k2⟩:=he;have hl:=h.runs
 refine zak (λm e=> ∃i,m=r.runs.length-i/\i<=r.runs.length/\z3w r e/\e.get 7=.one (.own (SS ([r.name]++(r.runs.take i).map λx:Ne=>x.name)))/\e.get 8=.one (.ro (N i)))
  ?_ r.runs.length _ ⟨0,rfl,Nat.zero_le _,⟨by simp[hsz],by simp[e1],by simp[b1],by simp[k1],by simp[k2]⟩,by simp[ht],by simp[hi]⟩
 clear hsz e1 b1 k1 k2 ht hi;rintro m e ⟨i,rfl,hi,⟨hsz,e1,b1,k1,k2⟩,ht,hc⟩ ih;rcases Nat.lt_or_ge i r.runs.length with hlt|hge
 ·have hwi:IntKind.i64.wrap ((i:Int)+1)=((i+1:Nat):Int):=zae (by omega)
  have hll:([r.name]++(r.runs.take i).map λx:Ne=>x.name).length<=1048578:=by simp;omega
  have hs:([r.name]++(r.runs.take (i+1)).map λx:Ne=>x.name)=([r.name]++(r.runs.take i).map λx:Ne=>x.name)++[r.runs[i].name]:=by rw[List.take_succ_eq_append_getElem hlt,List.map_append,List.map_cons,List.map_nil,List.append_assoc]
  generalize ([r.name]++(r.runs.take i).map λx:Ne=>x.name)=ys at *
  have ha:ys.length+1<=zad:=by simp only[zad];omega
  simp[hsz,e1,b1,ht,hc,hlt,hwi,ha];exact ih _ _ (by omega) ⟨i+1,rfl,by omega,⟨by simp[hsz],by simp[e1],by simp[b1],by simp[k1],by simp[k2]⟩,by rw[hs];simp,by simp⟩
 ·obtain rfl:i=r.runs.length:=by omega
  rw[List.take_length]at ht;simp[hsz,e1,b1,hc,-z9q];exact z32 r h _ ⟨by simp[hsz],by simp[e1],by simp[b1],by simp[k1],by simp[k2],by simp[ht]⟩
theorem z33(r:Rc)(h:RcSz r)(e:Env)(he:z3w r e):Run cx q39c13 e [.fn [(.tmp 2,4)] []]=some (.one (.ro (.bool (zdo r))),[]):=by
 obtain⟨hsz,e1,b1,k1,k2⟩:=he;simp[hsz,e1,b1];exact zwp r h _ ⟨by simp[hsz],by simp[e1],by simp[b1],by simp[k1],by simp[k2]⟩ (by simp) (by simp)
theorem zwq(r:Rc)(h:RcSz r)(e:Env)(he:z3v r e)(ht:e.get 5=.one (.own (SS [])))(hi:e.get 6=.one (.ro (N 0))):
 Run cx (.loop q39l1) e [.blk 2,.seq q39c13,.fn [(.tmp 2,4)] []]=some (.one (.ro (.bool (zdo r))),[]):=by
 obtain⟨hsz,e1,b1,k1⟩:=he;have hl:=h.builds
 refine zak (λm e=> ∃i,m=r.builds.length-i/\i<=r.builds.length/\z3v r e/\e.get 5=.one (.own (SS ([]++(r.builds.take i).map λx:Ne=>x.name)))/\e.get 6=.one (.ro (N i)))
  ?_ r.builds.length _ ⟨0,rfl,Nat.zero_le _,⟨by simp[hsz],by simp[e1],by simp[b1],by simp[k1]⟩,by simp[ht],by simp[hi]⟩
 clear hsz e1 b1 k1 ht hi;rintro m e ⟨i,rfl,hi,⟨hsz,e1,b1,k1⟩,ht,hc⟩ ih;rcases Nat.lt_or_ge i r.builds.length with hlt|hge
 ·have hwi:IntKind.i64.wrap ((i:Int)+1)=((i+1:Nat):Int):=zae (by omega)
  have hll:([]++(r.builds.take i).map λx:Ne=>x.name).length<=1048578:=by simp;omega
  have hs:([]++(r.builds.take (i+1)).map λx:Ne=>x.name)=([]++(r.builds.take i).map λx:Ne=>x.name)++[r.builds[i].name]:=by rw[List.take_succ_eq_append_getElem hlt,List.map_append,List.map_cons,List.map_nil,List.append_assoc]
  generalize ([]++(r.builds.take i).map λx:Ne=>x.name)=ys at *
  have ha:ys.length+1<=zad:=by simp only[zad];omega
  simp[hsz,e1,b1,ht,hc,hlt,hwi,ha];exact ih _ _ (by omega) ⟨i+1,rfl,by omega,⟨by simp[hsz],by simp[e1],by simp[b1],by simp[k1]⟩,by rw[hs];simp,by simp⟩
 ·obtain rfl:i=r.builds.length:=by omega
  rw[List.take_length]at ht;simp[hsz,e1,b1,hc,-z9r];exact z33 r h _ ⟨by simp[hsz],by simp[e1],by simp[b1],by simp[k1],by simp[ht]⟩
theorem z34(r:Rc)(h:RcSz r)(e:Env)(he:z3v r e):Run cx q39c14 e [.fn [(.tmp 2,4)] []]=some (.one (.ro (.bool (zdo r))),[]):=by
 obtain⟨hsz,e1,b1,k1⟩:=he;simp[hsz];exact zwq r h _ ⟨by simp[hsz],by simp[e1],by simp[b1],by simp[k1]⟩ (by simp) (by simp)
theorem zwr(r:Rc)(h:RcSz r)(e:Env)(he:z8r r e)(ht:e.get 3=.one (.own (SS [[110,97,109,101],[118,101,114,115,105,111,110]])))(hi:e.get 4=.one (.ro (N 0))):
 Run cx (.loop q39l0) e [.blk 0,.seq q39c14,.fn [(.tmp 2,4)] []]=some (.one (.ro (.bool (zdo r))),[]):=by
 obtain⟨hsz,e1,b1⟩:=he;have hl:=h.lets
 refine zak (λm e=> ∃i,m=r.lets.length-i/\i<=r.lets.length/\z8r r e/\e.get 3=.one (.own (SS ([[110,97,109,101],[118,101,114,115,105,111,110]]++(r.lets.take i).map λx:Fl=>x.1)))/\e.get 4=.one (.ro (N i)))
  ?_ r.lets.length _ ⟨0,rfl,Nat.zero_le _,⟨by simp[hsz],by simp[e1],by simp[b1]⟩,by simp[ht],by simp[hi]⟩
 clear hsz e1 b1 ht hi;rintro m e ⟨i,rfl,hi,⟨hsz,e1,b1⟩,ht,hc⟩ ih;rcases Nat.lt_or_ge i r.lets.length with hlt|hge
 ·have hwi:IntKind.i64.wrap ((i:Int)+1)=((i+1:Nat):Int):=zae (by omega)
  have hll:([[110,97,109,101],[118,101,114,115,105,111,110]]++(r.lets.take i).map λx:Fl=>x.1).length<=1048578:=by simp;omega
  have hs:([[110,97,109,101],[118,101,114,115,105,111,110]]++(r.lets.take (i+1)).map λx:Fl=>x.1)=([[110,97,109,101],[118,101,114,115,105,111,110]]++(r.lets.take i).map λx:Fl=>x.1)++[r.lets[i].1]:=by rw[List.take_succ_eq_append_getElem hlt,List.map_append,List.map_cons,List.map_nil,List.append_assoc]
  generalize ([[110,97,109,101],[118,101,114,115,105,111,110]]++(r.lets.take i).map λx:Fl=>x.1)=ys at *
  have ha:ys.length+1<=zad:=by simp only[zad];omega
  simp[hsz,e1,b1,ht,hc,hlt,hwi,ha];exact ih _ _ (by omega) ⟨i+1,rfl,by omega,⟨by simp[hsz],by simp[e1],by simp[b1]⟩,by rw[hs];simp,by simp⟩
 ·obtain rfl:i=r.lets.length:=by omega
  rw[List.take_length]at ht;simp[hsz,e1,b1,hc,-z9s];exact z34 r h _ ⟨by simp[hsz],by simp[e1],by simp[b1],by simp[ht]⟩
theorem zzu(r:Rc)(h:RcSz r):C Fn39 [.ro (RcD r)] []=some (.one (.ro (.bool (zdo r))),[]):=by
 refine zaf Tryz.func39 Cv39 rfl ?_;simp;exact zwr r h _ ⟨by simp,by simp,by simp⟩ (by simp) (by simp)
end Go.Qz
namespace Go.Qz
open Go.Proofs
theorem zxw{fs:List Fl}{l:List UInt8}(h1:zhd fs=true)(h2:zcf l=true):zem fs l=zbc (zce fs (fs.length+1) []) [] l:=by
 unfold zem;rw[h1,h2];rfl
theorem zgf{l:List UInt8}:zcf l=true↔l.all zcx=true/\1<=l.length/\l.length<=80:=by
 unfold zcf inI;simp only[Bool.and_eq_true,decide_eq_true_eq];constructor
 ·rintro⟨h1,h2,h3⟩;exact⟨h1,by omega,by omega⟩
 ·rintro⟨h1,h2,h3⟩;exact⟨h1,by omega,by omega⟩
def zty:List UInt8->Bool
 | []=>true
 |c::r=> !zfb (c::r)&&zty r
theorem zkq{var:List UInt8->Nat×List UInt8}:∀(t out:List UInt8),zty t=true->zbc var out t=if 80<(out++t).length then(5,[])else(0,out++t)
 | [],out,_=>by rw[zeu];simp
 |c::r,out,h=>by
  unfold zty at h;simp only[Bool.and_eq_true,Bool.not_eq_true']at h;rw[zc5 h.1,zkq r _ h.2];simp
theorem zg0{b:UInt8}(h:zgc b=true):zcx b=true/\b≠125/\b≠36:=by
 unfold zgc lowB at h;unfold zcx;simp only[Bool.or_eq_true,Bool.and_eq_true,decide_eq_true_eq]at h ⊢;refine⟨by omega,?_,?_⟩
 ·rintro rfl;rcases h with h|h<;>simp at h
 ·rintro rfl;rcases h with h|h<;>simp at h
theorem zgg{n:List UInt8}(h:za2 n=true):(∀b∈n,zgc b=true)/\n.length<=10:=by
 cases n with
 |nil=>simp[za2]at h
 |cons c r=>
  unfold za2 at h;simp only[Bool.and_eq_true,decide_eq_true_eq,List.all_eq_true]at h;exact⟨h.2.2,by simp;omega⟩
theorem ztz:∀{n:List UInt8} (r:List UInt8),(∀b∈n,b≠125)->cutB (n++125::r)=some (n,r)
 | [],r,_=>by simp[cutB]
 |c::n,r,h=>by
  have hc:(c==125)=false:=by have:=h c (by simp);simpa using this
  rw[List.cons_append,cutB,hc,ztz r (λb hb=>h b (by simp[hb]))]
  rfl
theorem zws{var:List UInt8->Nat×List UInt8}{n:List UInt8}(hn:za2 n=true)(out rest:List UInt8):zbc var out (36::123::(n++125::rest))=
 if (var n).1=0 then(if 80<(out++(var n).2).length then(5,[])else zbc var (out++(var n).2) rest)else((var n).1,[]):=by
 have hc:=ztz (n:=n) rest (λb hb=>(zg0 ((zgg hn).1 b hb)).2.1)
 rw[zfc rfl hc];simp only[hn,if_true]
theorem zt0{n:List UInt8}(hn:za2 n=true)(a b:List UInt8)(ha:a.all zcx=true)(hb:b.all zcx=true)(hab:a.length+b.length<=10):zcf (a++(36::123::(n++125::b)))=true:=by
 obtain⟨h1,h2⟩:=zgg hn;refine zgf.2 ⟨?_,by simp;omega,by simp;omega⟩
 have h3:n.all zcx=true:=List.all_eq_true.2 (λx hx=>(zg0 (h1 x hx)).1)
 simp only[List.all_append,List.all_cons,ha,hb,h3,Bool.and_true,Bool.true_and];decide
end Go.Qz
namespace Go.Qz
open Go.Proofs
theorem zin(b:UInt8):∀(l:List UInt8) (c:UInt8),c∈l->c=b∨ ∃x∈zav b l,c∈x
 | [],c,h=>by cases h
 |a::r,c,h=>by
  rw[zav];split
  ·rename_i ha;rcases List.mem_cons.1 h with rfl|h
   ·exact .inl ha
   ·rcases zin b r c h with h|⟨x,hx,hc⟩
    ·exact .inl h
    ·exact .inr ⟨x,by simp[hx],hc⟩
  ·cases hq:zav b r with
   |nil=>exact absurd hq (zgz b r)
   |cons y t=>
    rcases List.mem_cons.1 h with rfl|h
    ·exact .inr ⟨c::y,by simp,by simp⟩
    ·rcases zin b r c h with h|⟨x,hx,hc⟩
     ·exact .inl h
     ·rw[hq]at hx;rcases List.mem_cons.1 hx with rfl|hx
      ·exact .inr ⟨a::x,by simp,by simp[hc]⟩
      ·exact .inr ⟨x,by simp[hx],hc⟩
theorem zt1(b:UInt8):∀l:List UInt8,((zav b l).map λx=>x.length+1).sum=l.length+1
 | []=>by simp[zav]
 |a::r=>by
  have ih:=zt1 b r;rw[zav];split
  ·simp[ih];omega
  ·cases hq:zav b r with
   |nil=>exact absurd hq (zgz b r)
   |cons y t=>
    rw[hq]at ih;simp at ih ⊢;omega
theorem yei{xs:zaz}{k:Nat}(h:∀x∈xs,x.length<=k):(xs.map λx=>x.length+1).sum<=xs.length*(k+1):=by
 induction xs with
 |nil=>simp
 |cons x r ih=>
  have h1:=h x (by simp)
  have h2:=ih (λy hy=>h y (by simp[hy]))
  simp only[List.map_cons,List.sum_cons,List.length_cons,Nat.add_mul,Nat.one_mul];omega
theorem zms{v:List UInt8}(h:zfg v=true):zcf v=true/\(∀c∈v,c≠36):=by
 unfold zfg at h;simp only[Bool.and_eq_true,decide_eq_true_eq,List.all_eq_true]at h;obtain⟨h4,hall⟩:=h
 have hpart:∀x∈zav 46 v,1<=x.length/\x.length<=3/\ ∀c∈x,figB c=true:=by
  intro x hx;have hp:=hall x hx;unfold zfp at hp;have h1:=z3c (l:=x) (m:=999) (x:=(numI x 999).1) (by rw[<-hp])
  have h2:=zwc hp;refine⟨?_,?_,λc hc=>?_⟩
  ·rcases Nat.eq_zero_or_pos x.length with h0|h0
   ·rw[List.length_eq_zero_iff]at h0;subst h0;rw[show (numI [] 999).2=false by decide]at hp
    cases hp
   ·exact h0
  ·rw[<-h1];exact zti _ h2
  ·rw[<-h1]at hc;exact z9z _ c hc
 have hsum:=zt1 46 v;have hle:=yei (k:=3) (λx hx=>(hpart x hx).2.1)
 have hmul:(zav 46 v).length*(3+1)<=4*4:=Nat.mul_le_mul h4 (Nat.le_refl _)
 have hchar:∀c∈v,c=46∨figB c=true:=λc hc=>by
  rcases zin 46 v c hc with h|⟨x,hx,hcx⟩
  ·exact .inl h
  ·exact .inr ((hpart x hx).2.2 c hcx)
 have hfig:∀c:UInt8,figB c=true->zcx c=true/\c≠36:=λc hc=>by
  unfold figB at hc;unfold zcx;simp only[Bool.and_eq_true,decide_eq_true_eq]at hc ⊢;refine⟨by omega,?_⟩
  rintro rfl;simp at hc
 refine⟨zgf.2 ⟨List.all_eq_true.2 λc hc=>?_,?_,by omega⟩,λc hc=>?_⟩
 ·rcases hchar c hc with rfl|h
  ·decide
  ·exact(hfig c h).1
 ·rcases Nat.eq_zero_or_pos v.length with h0|h0
  ·rw[List.length_eq_zero_iff]at h0;subst h0;have:=(hpart [] (by simp[zav])).1
   simp at this
  ·exact h0
 ·rcases hchar c hc with rfl|h
  ·decide
  ·exact(hfig c h).2
theorem zt2:∀{l:List UInt8},(∀c∈l,c≠36)->zty l=true
 | [],_=>rfl
 |c::r,h=>by
  rw[zty,zt2 (λx hx=>h x (by simp[hx])),Bool.and_true]
  cases r with
  |nil=>rfl
  |cons d r=>
   have:=h c (by simp)
   simp[zfb,this]
theorem zoi{n:List UInt8}(h:za2 n=true):zcf n=true/\(∀c∈n,c≠36):=by
 obtain⟨h1,h2⟩:=zgg h;refine⟨zgf.2 ⟨List.all_eq_true.2 λc hc=>(zg0 (h1 c hc)).1,?_,by omega⟩,λc hc=>(zg0 (h1 c hc)).2.2⟩
 cases n with
 |nil=>cases h
 |cons c r=>simp
def ownR(r:Rc):List Fl:=([110,97,109,101],r.name)::([118,101,114,115,105,111,110],r.ver)::r.lets
def refT(n:List UInt8):List UInt8:=36::123::(n++[125])
def chk(fs:List Fl):zaz->Nat
 | []=>0
 |x::xs=>if (zem fs x).1=0 then chk fs xs else(zem fs x).1
def outs(fs:List Fl)(xs:zaz):zaz:=xs.map λx=>(zem fs x).2
def zt3(r:Rc):zaz:=(ownR r).map (λf=>refT f.1)++r.steps
def zb9(r:Rc):Nat:=if zd9 r then(if zdo r then 2 else chk (ownR r) (zt3 r))else 1
theorem zio{r:Rc}(h:zd9 r=true):za2 r.name=true/\zfg r.ver=true/\r.lets.length<=6/\r.lets.all letB=true/\r.steps.all zcf=true/\r.steps.length<=10:=by
 unfold zd9 at h;simp only[Bool.and_eq_true,decide_eq_true_eq]at h;obtain⟨⟨⟨⟨b1,b2⟩,a7⟩,⟨⟨⟨a4,_⟩,_⟩,_⟩,_⟩,⟨⟨⟨⟨b3,_⟩,_⟩,_⟩,_⟩,a3⟩:=h;exact⟨b1,b2,a4,b3,a3,a7⟩
theorem zq9{r:Rc}(h:zd9 r=true):zhd (ownR r)=true:=by
 obtain⟨h1,h2,h3,h4,h5,_⟩:=zio h;unfold zhd ownR;rw[List.all_cons,List.all_cons,h4]
 have e1:letB ([110,97,109,101],r.name)=true:=by
  show (za2 [110,97,109,101]&&zcf r.name)=true;rw[(zoi h1).1];decide
 have e2:letB ([118,101,114,115,105,111,110],r.ver)=true:=by
  show (za2 [118,101,114,115,105,111,110]&&zcf r.ver)=true;rw[(zms h2).1];decide
 rw[e1,e2];simp;omega
theorem zxx{fs:List Fl}(hf:zhd fs=true){n v:List UInt8}(hfind:zv7 n fs=some v)(hn:za2 n=true)(hv:zcf v=true)(hm:∀c∈v,c≠36):zem fs (refT n)=(0,v):=by
 have l1:zcf (36::123::(n++[125]))=true:=zt0 hn [] [] rfl rfl (by simp)
 have hv80:=(zgf.1 hv).2.2
 have hxv:zce fs (fs.length+1) [] n=(0,v):=by
  rw[zce,hfind];show zbc _ [] v=_;rw[zkq v [] (zt2 hm),if_neg (by simp;omega)]
  rfl
 unfold refT;rw[zxw hf l1,zws hn [] [],hxv];simp only[if_true];rw[if_neg (by simp;omega),zeu,if_neg (by simp;omega)]
 rfl
theorem z60{r:Rc}(h:zd9 r=true):zem (ownR r) (refT [110,97,109,101])=(0,r.name):=by
 have hp:=zio h;exact zxx (zq9 h) rfl (by decide) (zoi hp.1).1 (zoi hp.1).2
theorem yac{r:Rc}(h:zd9 r=true):zem (ownR r) (refT [118,101,114,115,105,111,110])=(0,r.ver):=by
 have hp:=zio h;exact zxx (zq9 h) (by simp[ownR,zv7]) (by decide) (zms hp.2.1).1 (zms hp.2.1).2
theorem yad{r:Rc}(h:zd9 r=true):chk (ownR r) (zt3 r)=chk (ownR r) (r.lets.map (λf=>refT f.1)++r.steps):=by
 have e:zt3 r=refT [110,97,109,101]::refT [118,101,114,115,105,111,110]::(r.lets.map (λf=>refT f.1)++r.steps):=rfl
 rw[e,chk,z60 h,if_pos rfl,chk,yac h,if_pos rfl]
end Go.Qz
namespace Go.Qz
open Go.Proofs
theorem zra(r:Rc)(h:RcSz r):C yie [.ro (RcD r)] []=some (.one (.own (FS (ownR r))),[]):=by
 refine zaf Tryz.func105 yif rfl ?_;have ha:2+r.lets.length<=zad:=by have:=h.lets;simp[zad];omega
 simp[ownR,ha]
theorem z61(r:Rc)(h:RcSz r):C Fn41 [.ro (RcD r)] []=some (.one (.own (FS (ownR r))),[]):=by
 refine zaf Tryz.func41 Cv41 rfl ?_;have ha:2+r.lets.length<=zad:=by have:=h.lets;simp[zad];omega
 simp[ownR,ha]
theorem yej{r:Rc}(h:RcSz r):(ownR r).length<=1048578/\ ∀f∈ownR r,f.1.length<=1048576/\f.2.length<=1048576:=by
 have:=h.lets;refine⟨by simp[ownR];omega,λf hf=>?_⟩
 simp only[ownR,List.mem_cons]at hf;rcases hf with rfl|rfl|hf
 ·exact⟨by simp,h.name⟩
 ·exact⟨by simp,h.ver⟩
 ·exact h.letz f hf
theorem zox(r:Rc)(h:RcSz r):C Fn37 [.ro (RcD r)] []=
 some (.tup [.own (SS (if chk (ownR r) (zt3 r)=0 then outs (ownR r) r.steps else [])),.ro (N (chk (ownR r) (zt3 r)))],[]):=by
 refine zaf Tryz.func37 Cv37 rfl ?_;have hl:=zra r h;obtain⟨hn,hsz2⟩:=yej h;unfold zt3;generalize ownR r=fs at *;have hst:=h.steps
 have hE:∀l:List UInt8,l.length<=1048600->C ydn [.ro (FS fs),.ro (T l)] []=some (.tup [.ro (T (zem fs l).2),.ro (N (zem fs l).1)],[]):=λl hl=>
  zzn fs l (by omega) (λf hf=>⟨by have:=(hsz2 f hf).1;omega,by have:=(hsz2 f hf).2;omega⟩) (by omega)
 have go2:∀e:Env,e.size=57->e.get 1=.one (.ptr 1 0)->e.box 1=some (RB1 r)->e.get 4=.one (.own (FS fs))->
  Run cx q37c6 e [.fn [(.tmp 2,27),(.tmp 3,3)] []]=some (.tup [.own (SS (if chk fs r.steps=0 then outs fs r.steps else [])),.ro (N (chk fs r.steps))],[]):=by
  intro e hsz e1 b1 e4;simp[hsz,e1,b1]
  refine zak (λm e=> ∃i,m=r.steps.length-i/\i<=r.steps.length/\e.size=57/\e.get 4=.one (.own (FS fs))/\e.get 9=.one (.own (SS (outs fs (r.steps.take i))))/\e.get 36=.one (.ro (SS r.steps))/\e.get 37=.one (.ro (N r.steps.length))/\e.get 38=.one (.ro (N i))/\
   chk fs (r.steps.drop i)=chk fs r.steps) ?_ r.steps.length _ ⟨0,rfl,Nat.zero_le _,by simp[hsz],by simp[e4],by simp[outs],by simp,by simp,by simp,rfl⟩
  clear hsz e1 b1 e4;rintro m e ⟨i,rfl,hi,hsz,e4,e9,e36,e37,e38,hr⟩ ih;rcases Nat.lt_or_ge i r.steps.length with hlt|hge
  ·have hd:r.steps.drop i=r.steps[i]::r.steps.drop (i+1):=List.drop_eq_getElem_cons hlt;have hwi:IntKind.i64.wrap ((i:Int)+1)=((i+1:Nat):Int):=zae (by omega)
   have hev:=hE r.steps[i] (by have:=h.step _ (List.getElem_mem hlt);omega)
   rw[hd,chk]at hr
   have ho:outs fs (r.steps.take (i+1))=outs fs (r.steps.take i)++[(zem fs r.steps[i]).2]:=by
    unfold outs;rw[List.take_succ_eq_append_getElem hlt,List.map_append,List.map_cons,List.map_nil]
   have hol:(outs fs (r.steps.take i)).length<=1048576:=by unfold outs;simp;omega
   generalize zem fs r.steps[i]=xv at *;obtain⟨c,x⟩:=xv;simp only at hev hr ho;generalize outs fs (r.steps.take i)=ys at *;have ha:ys.length+1<=zad:=by simp only[zad];omega
   by_cases hc:c=0
   ·subst hc;rw[if_pos rfl]at hr;simp[hsz,e4,e9,e36,e37,e38,hlt,hwi,hev,ha];exact ih _ _ (by omega) ⟨i+1,rfl,by omega,by simp[hsz],by simp[e4],by rw[ho];simp,by simp[e36],by simp[e37],by simp,hr⟩
   ·rw[if_neg hc]at hr;have hc':(c==0)=false:=by simpa using hc
    have hc2:¬chk fs r.steps=0:=by rw[<-hr];exact hc
    rw[<-hr];simp[hsz,e4,e36,e37,e38,hlt,hev,hc,hc']
  ·obtain rfl:i=r.steps.length:=by omega
   rw[List.drop_length,chk]at hr;rw[List.take_length]at e9;rw[<-hr];simp[hsz,e9,e37,e38]
 simp[hl]
 refine zak (λm e=> ∃i,m=fs.length-i/\i<=fs.length/\e.size=57/\e.get 1=.one (.ptr 1 0)/\e.box 1=some (RB1 r)/\e.get 4=.one (.own (FS fs))/\e.get 16=.one (.view ⟨.tmp 4,[]⟩)/\e.get 17=.one (.ro (N fs.length))/\e.get 18=.one (.ro (N i))/\
  chk fs ((fs.drop i).map (λf=>refT f.1)++r.steps)=chk fs (fs.map (λf=>refT f.1)++r.steps)) ?_ fs.length _ ⟨0,rfl,Nat.zero_le _,by simp,by simp,by simp,by simp,by simp,by simp,by simp,rfl⟩
 rintro m e ⟨i,rfl,hi,hsz,e1,b1,e4,e16,e17,e18,hr⟩ ih;rcases Nat.lt_or_ge i fs.length with hlt|hge
 ·have hd:fs.drop i=fs[i]::fs.drop (i+1):=List.drop_eq_getElem_cons hlt;have hwi:IntKind.i64.wrap ((i:Int)+1)=((i+1:Nat):Int):=zae (by omega)
  have hz:=(hsz2 _ (List.getElem_mem hlt)).1;have hev:=hE (refT fs[i].1) (by unfold refT;simp;omega)
  rw[hd,List.map_cons,List.cons_append,chk]at hr;unfold refT at hev;have m1:2+fs[i].1.length<=zai:=by simp only[zai];omega
  have m2:fs[i].1.length+1+1+1<=zai:=by simp only[zai];omega
  rw[show refT fs[i].1=36::123::(fs[i].1++[125])from rfl]at hr
  generalize zem fs (36::123::(fs[i].1++[125]))=xv at *;obtain⟨c,x⟩:=xv;simp only at hev hr;by_cases hc:c=0
  ·subst hc;rw[if_pos rfl]at hr;simp[hsz,e4,e16,e17,e18,hlt,hwi,hev,m1,m2];exact ih _ _ (by omega) ⟨i+1,rfl,by omega,by simp[hsz],by simp[e1],by simp[b1],by simp[e4],by simp[e16],by simp[e17],by simp,hr⟩
  ·rw[if_neg hc]at hr;have hc':(c==0)=false:=by simpa using hc
   rw[<-hr];simp[hsz,e4,e16,e17,e18,hlt,hev,m1,m2,hc,hc']
 ·obtain rfl:i=fs.length:=by omega
  rw[List.drop_length,List.map_nil,List.nil_append]at hr;rw[<-hr];simp[hsz,e17,e18,-ydm];exact go2 _ (by simp[hsz]) (by simp[e1]) (by simp[b1]) (by simp[e4])
theorem zoj(r:Rc)(h:RcSz r):C Fn12 [.ro (RcD r)] []=some (.one (.ro (N (zb9 r))),[]):=by
 refine zaf Tryz.func12 Cv12 rfl ?_;have h1:=zq7 r h;have h2:=zow r h;have h3:=zox r h;unfold zb9;generalize zd9 r=b1 at *;generalize zdo r=b2 at *;generalize chk (ownR r) (zt3 r)=c at *;cases b1
 ·simp[h1]
 ·cases b2
  ·simp[h1,h2,h3]
  ·simp[h1,h2]
theorem zdc{r:Rc}(h:zb9 r=0):zd9 r=true/\zdo r=false/\chk (ownR r) (zt3 r)=0:=by
 unfold zb9 at h;split at h
 ·rename_i h1;split at h
  ·cases h
  ·rename_i h2;exact⟨h1,by simpa using h2,h⟩
 ·cases h
end Go.Qz
namespace Go.Qz
open Go.Proofs
def zd1(k:Int):List UInt8:=if k==1 then [61]else if k==2 then [62,61]else if k==3 then [60]else []
def zdj(e:Ne):List UInt8:=e.name++(zd1 e.kind++e.ver)
abbrev kwName:List UInt8:=[110,97,109,101]
abbrev kwVer:List UInt8:=[118,101,114,115,105,111,110]
abbrev zdm:List UInt8:=[108,101,116]
abbrev za3:List UInt8:=[98,117,105,108,100]
abbrev zca:List UInt8:=[114,117,110]
abbrev zb3:List UInt8:=[115,111,117,114,99,101]
abbrev kwPc:List UInt8:=[112,105,101,99,101]
abbrev za0:List UInt8:=[115,116,101,112]
def ln1(w x:List UInt8):List UInt8:=w++32::x
def ln2(w:List UInt8)(f:Fl):List UInt8:=w++32::(f.1++32::f.2)
def lnN(w:List UInt8)(n:Ne):List UInt8:=ln1 w (zdj n)
def zea(r:Rc):zaz:=ln1 kwName r.name::ln1 kwVer r.ver::(r.lets.map (ln2 zdm)++(r.builds.map (lnN za3)++(r.runs.map (lnN zca)++(r.srcs.map (ln2 zb3)++(r.pcs.map (ln2 kwPc)++r.steps.map (ln1 za0))))))
def nlT(xs:zaz):List UInt8:=xs.flatMap (· ++[10])
def putR(r:Rc):List UInt8:=nlT (zea r)
def zcv(r:Rc):List UInt8:=if zb9 r=0 then putR r else []
theorem zg1(x:List UInt8)(xs:zaz):nlT (x::xs)=x++10::nlT xs:=by simp[nlT]
theorem zbu(xs ys:zaz):nlT (xs++ys)=nlT xs++nlT ys:=by simp[nlT]
theorem z62{xs:zaz}{i:Nat}(h:i<xs.length):nlT (xs.take (i+1))=nlT (xs.take i)++(xs[i]++[10]):=by
 rw[List.take_succ_eq_append_getElem h,zbu];simp[nlT]
theorem zt4(k:Int):(zd1 k).length<=2:=by
 unfold zd1;split
 ·simp
 ·split
  ·simp
  ·split<;>simp
structure Fine(r:Rc):Prop where
 name:za2 r.name=true
 ver:zfg r.ver=true
 lets:(∀f∈r.lets,letB f=true)/\r.lets.length<=6
 builds:(∀f∈r.builds,za7 f=true)/\r.builds.length<=6
 runs:(∀f∈r.runs,za7 f=true)/\r.runs.length<=6
 srcs:(∀f∈r.srcs,zjp f=true)/\r.srcs.length<=6
 pcs:(∀f∈r.pcs,pcOk f=true)/\r.pcs.length<=6
 steps:(∀f∈r.steps,zcf f=true)/\r.steps.length<=10
theorem zh5{r:Rc}(h:zd9 r=true):Fine r:=by
 unfold zd9 at h;simp only[Bool.and_eq_true,decide_eq_true_eq,List.all_eq_true]at h;exact⟨h.1.1.1.1,h.1.1.1.2,⟨h.2.1.1.1.1.1,h.1.2.1.1.1.1⟩,⟨h.2.1.1.1.1.2,h.1.2.1.1.1.2⟩,⟨h.2.1.1.1.2,h.1.2.1.1.2⟩,⟨h.2.1.1.2,h.1.2.1.2⟩,⟨h.2.1.2,h.1.2.2⟩,⟨h.2.2,h.1.1.2⟩⟩
theorem zzv{l:List UInt8}(h:l.all zcx=true):∀c∈l,c≠10:=by
 intro c hc e;subst e;have:=List.all_eq_true.1 h _ hc;revert this;decide
theorem zh6{l:List UInt8}(h:zcf l=true):(∀c∈l,c≠10)/\l.length<=80:=⟨zzv (zgf.1 h).1,(zgf.1 h).2.2⟩
theorem zzw{c:UInt8}(h:zgc c=true):c≠10/\c≠32/\c≠60/\c≠61/\c≠62:=by
 refine⟨?_,?_,?_,?_,?_⟩<;>(rintro rfl;revert h;decide)
theorem zcb{n:List UInt8}(h:za2 n=true):(∀c∈n,c≠10/\c≠32/\c≠60/\c≠61/\c≠62)/\n.length<=10:=⟨λc hc=>zzw ((zgg h).1 c hc),(zgg h).2⟩
theorem zkr{v:List UInt8}(h:zfg v=true):(∀c∈v,c≠10)/\v.length<=80:=zh6 (zms h).1
theorem zlo{c:UInt8}(h:zbm c=true):c≠10/\c≠32:=by
 constructor<;>(rintro rfl;revert h;decide)
theorem zrb{f:Fl}(h:zjp f=true):(∀c∈f.1,c≠10/\c≠32)/\(∀c∈f.2,c≠10)/\f.1.length<=10/\f.2.length<=80:=by
 unfold zjp zh3 zq6 at h;simp only[Bool.and_eq_true,decide_eq_true_eq,List.all_eq_true]at h;obtain⟨⟨⟨⟨⟨h1,_⟩,_⟩,h2⟩,_⟩,h3,h4⟩:=h;refine⟨λc hc=>zlo (h2 c hc),λc hc=>?_,h1,by omega⟩
 rintro rfl;have:=h3 _ hc;revert this;decide
theorem zks{e:Ne}(h:za7 e=true):za2 e.name=true/\((e.kind=0/\e.ver=[])∨((e.kind=1∨e.kind=2∨e.kind=3)/\zfg e.ver=true)):=by
 unfold za7 at h;rw[Bool.and_eq_true]at h;refine⟨h.1,?_⟩;have h2:=h.2;split at h2
 ·rename_i hk;exact .inl ⟨by simpa using hk,by simpa using h2⟩
 ·rename_i hk;rw[Bool.and_eq_true]at h2;unfold inI at h2;simp only[Bool.and_eq_true,decide_eq_true_eq]at h2;exact .inr ⟨by omega,h2.2⟩
theorem z35(k:Int):∀c∈zd1 k,c≠10:=by
 intro c hc;unfold zd1 at hc;split at hc
 ·simp at hc;subst hc;decide
 ·split at hc
  ·simp at hc;rcases hc with rfl|rfl<;>decide
  ·split at hc
   ·simp at hc;subst hc;decide
   ·simp at hc
theorem zt5{e:Ne}(h:za7 e=true):(∀c∈zdj e,c≠10)/\(zdj e).length<=92:=by
 obtain⟨hp,hv⟩:=zks h;have h1:=zcb hp
 have h3:(∀c∈e.ver,c≠10)/\e.ver.length<=80:=by
  rcases hv with⟨_,h0⟩|⟨_,h0⟩
  ·rw[h0];exact⟨by simp,by simp⟩
  ·exact zkr h0
 have h2:=zt4 e.kind;unfold zdj;refine⟨λc hc=>?_,by simp only[List.length_append];omega⟩
 rcases List.mem_append.1 hc with hc|hc
 ·exact(h1.1 c hc).1
 ·rcases List.mem_append.1 hc with hc|hc
  ·exact z35 _ c hc
  ·exact h3.1 c hc
theorem zt6{s q:List UInt8}(h:clsB s=some q)(hq:∀c∈q,c≠10):∀c∈s,c≠10:=by
 unfold clsB at h;split at h
 ·rename_i a b c r h1 h2;split at h
  ·rename_i hc;obtain rfl:=Option.some.inj h;have hc':c=93:=by simpa using hc
   subst hc';intro x hx;have e:=(List.takeWhile_append_dropWhile (p:=zbm) (l:=s)).symm;rw[e,h2]at hx;rcases List.mem_append.1 hx with hx|hx
   ·have:=List.all_eq_true.1 (List.all_takeWhile (p:=zbm) (l:=s)) x hx;exact(zlo this).1
   ·rcases List.mem_cons.1 hx with rfl|hx
    ·decide
    ·exact hq x hx
  ·cases h
 ·cases h
theorem z36{r q:List UInt8}(h:clsR r=some q)(hq:∀c∈q,c≠10):∀c∈r,c≠10:=by
 unfold clsR at h;split at h
 ·rename_i c s;split at h
  ·rename_i hc;have hc':c=33:=by simpa using hc
   subst hc';intro x hx;rcases List.mem_cons.1 hx with rfl|hx
   ·decide
   ·exact zt6 h hq x hx
  ·exact zt6 h hq
 ·cases h
theorem ziq:∀(n:Nat) (l:List UInt8),l.length<=n->zd0 l=true-> ∀c∈l,c≠10
 |_,[],_,_,c,hc=>by cases hc
 |0,_::_,hn,_,_,_=>by simp at hn
 |n+1,c::r,hn,h,x,hx=>by
  have hr:r.length<=n:=by simpa using hn
  cases h1:c==91 with
  |true=>
   have hc:c=91:=by simpa using h1
   subst hc;rw[zog]at h;split at h
   ·cases h
   ·rename_i q hq;have hl:=zq3 hq;rcases List.mem_cons.1 hx with rfl|hx
    ·decide
    ·exact z36 hq (ziq n q (by omega) h) x hx
  |false=>
   cases h2:c==42||c==63 with
   |true=>
    rw[zko h1 h2]at h;rcases List.mem_cons.1 hx with rfl|hx
    ·rw[Bool.or_eq_true,beq_iff_eq,beq_iff_eq]at h2;rcases h2 with rfl|rfl<;>decide
    ·exact ziq n r hr h x hx
   |false=>
    rw[zln h1 h2,Bool.and_eq_true]at h;rcases List.mem_cons.1 hx with rfl|hx
    ·exact(zlo h.1).1
    ·exact ziq n r hr h.2 x hx
theorem zt7{g:List UInt8}(h:zh4 g=true):(∀c∈g,c≠10)/\g.length<=40:=by
 unfold zh4 at h;simp only[Bool.and_eq_true,decide_eq_true_eq,List.all_eq_true]at h;refine⟨λc hc=>?_,h.2⟩
 rcases zin 47 g c hc with rfl|⟨x,hx,hcx⟩
 ·decide
 ·have:=h.1.2 x hx;unfold zir at this;rw[Bool.and_eq_true]at this;exact ziq _ x (Nat.le_refl _) this.1 c hcx
theorem zg2{w x:List UInt8}{k j:Nat}(hw:∀c∈w,c≠10)(hk:w.length<=k)(hx:∀c∈x,c≠10)(hj:x.length<=j):(∀c∈ln1 w x,c≠10)/\(ln1 w x).length<=k+j+1:=by
 unfold ln1;refine⟨λc hc=>?_,by simp;omega⟩
 rcases List.mem_append.1 hc with hc|hc
 ·exact hw c hc
 ·rcases List.mem_cons.1 hc with rfl|hc
  ·decide
  ·exact hx c hc
theorem zrc{w:List UInt8}{f:Fl}{k j:Nat}(hw:∀c∈w,c≠10)(hk:w.length<=k)(h1:∀c∈f.1,c≠10)(hx:∀c∈f.2,c≠10)(hj:f.1.length+f.2.length<=j):(∀c∈ln2 w f,c≠10)/\(ln2 w f).length<=k+j+2:=by
 have h2:(∀c∈ln1 f.1 f.2,c≠10):=(zg2 h1 (Nat.le_refl _) hx (Nat.le_refl _)).1;have:=zg2 (k:=k) (j:=j+1) hw hk h2 (by unfold ln1;simp;omega)
 exact⟨this.1,by have:=this.2;show (ln1 w (ln1 f.1 f.2)).length<=_;omega⟩
theorem zlp{r:Rc}(h:Fine r):∀x∈zea r,(∀c∈x,c≠10)/\x.length<=110:=by
 intro x hx;unfold zea at hx;simp only[List.mem_cons,List.mem_append,List.mem_map]at hx;have up:∀{l:List UInt8} {k:Nat},((∀c∈l,c≠10)/\l.length<=k)->k<=110->(∀c∈l,c≠10)/\l.length<=110:=λh hk=>⟨h.1,by have:=h.2;omega⟩
 rcases hx with rfl|rfl|⟨f,hf,rfl⟩|⟨f,hf,rfl⟩|⟨f,hf,rfl⟩|⟨f,hf,rfl⟩|⟨f,hf,rfl⟩|⟨f,hf,rfl⟩
 ·have:=zcb h.name;exact up (zg2 (k:=7) (j:=10) (by decide) (by decide) (λc hc=>(this.1 c hc).1) this.2) (by omega)
 ·have:=zkr h.ver;exact up (zg2 (k:=7) (j:=80) (by decide) (by decide) this.1 this.2) (by omega)
 ·have hl:=h.lets.1 f hf;unfold letB at hl;rw[Bool.and_eq_true]at hl;have h1:=zcb hl.1;have h2:=zh6 hl.2;exact up (zrc (k:=7) (j:=90) (by decide) (by decide) (λc hc=>(h1.1 c hc).1) h2.1 (by omega)) (by omega)
 ·have:=zt5 (h.builds.1 f hf);exact up (zg2 (k:=7) (j:=92) (by decide) (by decide) this.1 this.2) (by omega)
 ·have:=zt5 (h.runs.1 f hf);exact up (zg2 (k:=7) (j:=92) (by decide) (by decide) this.1 this.2) (by omega)
 ·have:=zrb (h.srcs.1 f hf);exact up (zrc (k:=7) (j:=90) (by decide) (by decide) (λc hc=>(this.1 c hc).1) this.2.1 (by omega)) (by omega)
 ·have hl:=h.pcs.1 f hf;unfold pcOk at hl;rw[Bool.and_eq_true]at hl;have h1:=zcb hl.1;have h2:=zt7 hl.2;exact up (zrc (k:=7) (j:=90) (by decide) (by decide) (λc hc=>(h1.1 c hc).1) h2.1 (by omega)) (by omega)
 ·have:=zh6 (h.steps.1 f hf);exact up (zg2 (k:=7) (j:=80) (by decide) (by decide) this.1 this.2) (by omega)
theorem zt8{r:Rc}(h:Fine r):(zea r).length<=42:=by
 have:=h.lets.2;have:=h.builds.2;have:=h.runs.2;have:=h.srcs.2;have:=h.pcs.2;have:=h.steps.2;unfold zea;simp only[List.length_cons,List.length_append,List.length_map];omega
theorem yek{xs:zaz}{k:Nat}(h:∀x∈xs,x.length<=k):(nlT xs).length<=xs.length*(k+1):=by
 induction xs with
 |nil=>simp[nlT]
 |cons x r ih=>
  have h1:=h x (by simp)
  have h2:=ih (λy hy=>h y (by simp[hy]))
  rw[zg1];simp only[List.length_append,List.length_cons,Nat.add_mul,Nat.one_mul];omega
theorem zkt{r:Rc}(h:Fine r):(putR r).length<=4662:=by
 have h1:=yek (xs:=zea r) (k:=110) (λx hx=>(zlp h x hx).2)
 have h2:=Nat.mul_le_mul_right 111 (zt8 h);unfold putR;omega
theorem zp1{b:UInt8}:∀{n:List UInt8} (r:List UInt8),(∀c∈n,c≠b)->zav b (n++b::r)=n::zav b r
 | [],r,_=>by rw[List.nil_append,zav,if_pos rfl]
 |c::n,r,h=>by
  rw[List.cons_append,zav,if_neg (h c (by simp)),zp1 r (λx hx=>h x (by simp[hx]))]
theorem zrd{b:UInt8}:∀{xs:zaz},(∀x∈xs,∀c∈x,c≠b)->zav b (xs.flatMap (· ++[b]))=xs++[[]]
 | [],_=>rfl
 |x::r,h=>by
  have e:(x::r).flatMap (· ++[b])=x++b::r.flatMap (· ++[b]):=by simp
  rw[e,zp1 _ (h x (by simp)),zrd (λy hy=>h y (by simp[hy]))]
  rfl
theorem zt9(b:UInt8):∀l:List UInt8,zav b (l++[b])=zav b l++[[]]
 | []=>by simp[zav]
 |c::r=>by
  rw[List.cons_append,zav,zav,zt9 b r];split
  ·rfl
  ·cases hq:zav b r with
   |nil=>exact absurd hq (zgz b r)
   |cons y t=>rfl
theorem yae{r:Rc}(h:Fine r){body:List UInt8}(hb:body++[10]=putR r):zav 10 body=zea r:=by
 have h1:=zrd (b:=10) (xs:=zea r) (λx hx=>(zlp h x hx).1)
 have h2:=zt9 10 body;rw[hb]at h2;have h3:zav 10 (putR r)=zea r++[[]]:=h1;rw[h3]at h2;exact(List.append_cancel_right h2).symm
end Go.Qz
namespace Go.Qz
open Go.Proofs
def two(l:List UInt8):List UInt8×List UInt8:=match brk 32 l with
 |some p=>p
 |none=>(l,[])
theorem zdk{n:List UInt8}(r:List UInt8)(h:∀c∈n,c≠32):two (n++32::r)=(n,r):=by
 unfold two;rw[zxn r h]
def zhe(c:UInt8):Bool:=c==61||c==60||c==62
def zgh(t:List UInt8):List UInt8:=t.takeWhile λc=> !zhe c
def zfs(t:List UInt8):List UInt8:=t.dropWhile λc=> !zhe c
def zbl(t:List UInt8):Int×List UInt8:=match t with
 | []=>(0,[])
 |c::v=>if c==61 then(1,v)else if c==60 then(3,v)else match v with
  |d::u=>if d==61 then(2,u)else(0,[])
  | []=>(0,[])
def ne0:Ne:=⟨[],0,[]⟩
def zg3(t:List UInt8):Ne:=⟨zgh t,(zbl (zfs t)).1,(zbl (zfs t)).2⟩
def zh7(t:List UInt8):Ne×Bool:=if !(zfs t).isEmpty&&(zbl (zfs t)).1==0 then(ne0,false)else if za7 (zg3 t)then(zg3 t,true)else(ne0,false)
def zlq(t:List UInt8):Ne×Bool:=(zg3 t,true)
theorem zku{n s:List UInt8}(h:∀c∈n,c≠10/\c≠32/\c≠60/\c≠61/\c≠62)(hs:zfs s=s)(hs2:zgh s=[]):zgh (n++s)=n/\zfs (n++s)=s:=by
 have hp:∀c∈n,(!zhe c)=true:=λc hc=>by
  have:=h c hc;unfold zhe;simp[this]
 refine⟨?_,?_⟩
 ·unfold zgh at *;rw[List.takeWhile_append_of_pos hp,hs2,List.append_nil]
 ·unfold zfs at *;rw[List.dropWhile_append_of_pos hp,hs]
theorem zua{e:Ne}(h:za7 e=true):zg3 (zdj e)=e/\zh7 (zdj e)=(e,true):=by
 obtain⟨hp,hv⟩:=zks h;have hf:=(zcb hp).1;obtain⟨n,k,v⟩:=e
 have key:zgh (zdj ⟨n,k,v⟩)=n/\zfs (zdj ⟨n,k,v⟩)=zd1 k++v/\zbl (zd1 k++v)=(k,v)/\((zd1 k++v)=[]∨k≠0):=by
  rcases hv with⟨rfl,rfl⟩|⟨rfl|rfl|rfl,_⟩
  ·obtain⟨h1,h2⟩:=zku (s:=[]) hf rfl rfl;exact⟨h1,h2,rfl,.inl rfl⟩
  ·obtain⟨h1,h2⟩:=zku (s:=61::v) hf rfl rfl;exact⟨h1,h2,rfl,.inr (by decide)⟩
  ·obtain⟨h1,h2⟩:=zku (s:=62::61::v) hf rfl rfl;exact⟨h1,h2,rfl,.inr (by decide)⟩
  ·obtain⟨h1,h2⟩:=zku (s:=60::v) hf rfl rfl;exact⟨h1,h2,rfl,.inr (by decide)⟩
 obtain⟨k1,k2,k3,k4⟩:=key
 have hS:zg3 (zdj ⟨n,k,v⟩)=⟨n,k,v⟩:=by
  unfold zg3;rw[k1,k2,k3]
 refine⟨hS,?_⟩;unfold zh7;rw[hS,h,k2,k3,if_neg,if_pos rfl];rcases k4 with k4|k4
 ·rw[k4];simp
 ·simp[k4]
def rc0:Rc:=⟨[],[],[],[],[],[],[],[]⟩
def zdl(nd:List UInt8->Ne×Bool)(r:Rc)(l:List UInt8):Rc×Bool:=
 if (two l).1==kwName then({r with name:=(two l).2},true)
 else if (two l).1==kwVer then({r with ver:=(two l).2},true)
 else if (two l).1==zdm then({r with lets:=r.lets++[two (two l).2]},true)
 else if (two l).1==za3 then({r with builds:=r.builds++[(nd (two l).2).1]},(nd (two l).2).2)
 else if (two l).1==zca then({r with runs:=r.runs++[(nd (two l).2).1]},(nd (two l).2).2)
 else if (two l).1==zb3 then({r with srcs:=r.srcs++[two (two l).2]},true)
 else if (two l).1==kwPc then({r with pcs:=r.pcs++[two (two l).2]},true)
 else if (two l).1==za0 then({r with steps:=r.steps++[(two l).2]},true)
 else(r,false)
def zb4(nd:List UInt8->Ne×Bool):Rc->zaz->Rc×Bool
 |r,[]=>(r,true)
 |r,l::ls=>if (zdl nd r l).2 then zb4 nd (zdl nd r l).1 ls else(rc0,false)
theorem zgi{nd:List UInt8->Ne×Bool}:∀{xs:zaz} (ys:zaz) {r r':Rc},zb4 nd r xs=(r',true)->zb4 nd r (xs++ys)=zb4 nd r' ys
 | [],ys,r,r',h=>by rw[zb4]at h;cases h;rfl
 |x::xs,ys,r,r',h=>by
  rw[zb4]at h;rw[List.cons_append,zb4];split at h
  ·rename_i h1;rw[if_pos h1];exact zgi ys h
  ·cases h
theorem zeb{nd:List UInt8->Ne×Bool}{x:List UInt8}{xs:zaz}{r r1 r':Rc}(h1:zdl nd r x=(r1,true))(h2:zb4 nd r1 xs=(r',true)):zb4 nd r (x::xs)=(r',true):=by
 rw[zb4,h1,if_pos rfl,h2]
theorem z38(nd:List UInt8->Ne×Bool)(r:Rc)(x:List UInt8):zdl nd r (ln1 kwName x)=({r with name:=x},true):=by
 unfold zdl ln1;rw[zdk x (by decide)];rfl
theorem z63(nd:List UInt8->Ne×Bool)(r:Rc)(x:List UInt8):zdl nd r (ln1 kwVer x)=({r with ver:=x},true):=by
 unfold zdl ln1;rw[zdk x (by decide)];rfl
theorem z64(nd:List UInt8->Ne×Bool)(r:Rc)(f:Fl)(h:∀c∈f.1,c≠32):zdl nd r (ln2 zdm f)=({r with lets:=r.lets++[f]},true):=by
 unfold zdl ln2;rw[zdk _ (by decide),zdk _ h];rfl
theorem z65(nd:List UInt8->Ne×Bool)(r:Rc)(f:Fl)(h:∀c∈f.1,c≠32):zdl nd r (ln2 zb3 f)=({r with srcs:=r.srcs++[f]},true):=by
 unfold zdl ln2;rw[zdk _ (by decide),zdk _ h];rfl
theorem yaf(nd:List UInt8->Ne×Bool)(r:Rc)(f:Fl)(h:∀c∈f.1,c≠32):zdl nd r (ln2 kwPc f)=({r with pcs:=r.pcs++[f]},true):=by
 unfold zdl ln2;rw[zdk _ (by decide),zdk _ h];rfl
theorem z39(nd:List UInt8->Ne×Bool)(r:Rc)(x:List UInt8):zdl nd r (ln1 za0 x)=({r with steps:=r.steps++[x]},true):=by
 unfold zdl ln1;rw[zdk x (by decide)];rfl
theorem zzx{nd:List UInt8->Ne×Bool}(r:Rc){e:Ne}(h:nd (zdj e)=(e,true)):zdl nd r (lnN za3 e)=({r with builds:=r.builds++[e]},true):=by
 unfold zdl lnN ln1;rw[zdk _ (by decide),h];rfl
theorem z66{nd:List UInt8->Ne×Bool}(r:Rc){e:Ne}(h:nd (zdj e)=(e,true)):zdl nd r (lnN zca e)=({r with runs:=r.runs++[e]},true):=by
 unfold zdl lnN ln1;rw[zdk _ (by decide),h];rfl
theorem zub(nd:List UInt8->Ne×Bool):∀(fs:List Fl) (r:Rc),(∀f∈fs,∀c∈f.1,c≠32)->zb4 nd r (fs.map (ln2 zdm))=({r with lets:=r.lets++fs},true)
 | [],r,_=>by simp[zb4]
 |f::fs,r,h=>by
  rw[List.map_cons];have h2:=zub nd fs {r with lets:=r.lets++[f]} (λg hg=>h g (by simp[hg]))
  simp only[List.append_assoc,List.singleton_append]at h2;exact zeb (z64 nd r f (h f (by simp))) h2
theorem zuc(nd:List UInt8->Ne×Bool):∀(fs:List Fl) (r:Rc),(∀f∈fs,∀c∈f.1,c≠32)->zb4 nd r (fs.map (ln2 zb3))=({r with srcs:=r.srcs++fs},true)
 | [],r,_=>by simp[zb4]
 |f::fs,r,h=>by
  rw[List.map_cons];have h2:=zuc nd fs {r with srcs:=r.srcs++[f]} (λg hg=>h g (by simp[hg]))
  simp only[List.append_assoc,List.singleton_append]at h2;exact zeb (z65 nd r f (h f (by simp))) h2
theorem zxy(nd:List UInt8->Ne×Bool):∀(fs:List Fl) (r:Rc),(∀f∈fs,∀c∈f.1,c≠32)->zb4 nd r (fs.map (ln2 kwPc))=({r with pcs:=r.pcs++fs},true)
 | [],r,_=>by simp[zb4]
 |f::fs,r,h=>by
  rw[List.map_cons];have h2:=zxy nd fs {r with pcs:=r.pcs++[f]} (λg hg=>h g (by simp[hg]))
  simp only[List.append_assoc,List.singleton_append]at h2;exact zeb (yaf nd r f (h f (by simp))) h2
theorem zp2(nd:List UInt8->Ne×Bool):∀(fs:zaz) (r:Rc),zb4 nd r (fs.map (ln1 za0))=({r with steps:=r.steps++fs},true)
 | [],r=>by simp[zb4]
 |f::fs,r=>by
  rw[List.map_cons];have h2:=zp2 nd fs {r with steps:=r.steps++[f]}
  simp only[List.append_assoc,List.singleton_append]at h2;exact zeb (z39 nd r f) h2
theorem zok{nd:List UInt8->Ne×Bool}:∀(fs:List Ne) (r:Rc),(∀f∈fs,nd (zdj f)=(f,true))->zb4 nd r (fs.map (lnN za3))=({r with builds:=r.builds++fs},true)
 | [],r,_=>by simp[zb4]
 |f::fs,r,h=>by
  rw[List.map_cons];have h2:=zok fs {r with builds:=r.builds++[f]} (λg hg=>h g (by simp[hg]))
  simp only[List.append_assoc,List.singleton_append]at h2;exact zeb (zzx r (h f (by simp))) h2
theorem zud{nd:List UInt8->Ne×Bool}:∀(fs:List Ne) (r:Rc),(∀f∈fs,nd (zdj f)=(f,true))->zb4 nd r (fs.map (lnN zca))=({r with runs:=r.runs++fs},true)
 | [],r,_=>by simp[zb4]
 |f::fs,r,h=>by
  rw[List.map_cons];have h2:=zud fs {r with runs:=r.runs++[f]} (λg hg=>h g (by simp[hg]))
  simp only[List.append_assoc,List.singleton_append]at h2;exact zeb (z66 r (h f (by simp))) h2
theorem zue{nd:List UInt8->Ne×Bool}(hnd:∀e,za7 e=true->nd (zdj e)=(e,true)){r:Rc}(h:Fine r):zb4 nd rc0 (zea r)=(r,true):=by
 unfold zea;refine zeb (z38 nd _ _) (zeb (z63 nd _ _) ?_)
 have f1:∀f∈r.lets,∀c∈f.1,c≠32:=λf hf c hc=>by
  have:=h.lets.1 f hf;unfold letB at this;rw[Bool.and_eq_true]at this;exact((zcb this.1).1 c hc).2.1
 have f2:∀f∈r.srcs,∀c∈f.1,c≠32:=λf hf c hc=>((zrb (h.srcs.1 f hf)).1 c hc).2
 have f3:∀f∈r.pcs,∀c∈f.1,c≠32:=λf hf c hc=>by
  have:=h.pcs.1 f hf;unfold pcOk at this;rw[Bool.and_eq_true]at this;exact((zcb this.1).1 c hc).2.1
 rw[zgi _ (zub nd _ _ f1),zgi _ (zok _ _ λf hf=>hnd f (h.builds.1 f hf)),zgi _ (zud _ _ λf hf=>hnd f (h.runs.1 f hf)),zgi _ (zuc nd _ _ f2),zgi _ (zxy nd _ _ f3),zp2]
 rfl
def getI(t:List UInt8):Rc×Bool:=
 if decide (t.length<=1500)&&t.getLast? ==some 10 then
  (if (zb4 zh7 rc0 (zav 10 t.dropLast)).2&&zcv (zb4 zh7 rc0 (zav 10 t.dropLast)).1==t then zb4 zh7 rc0 (zav 10 t.dropLast)else(rc0,false))
 else(rc0,false)
def getS(t:List UInt8):Rc×Bool:=
 if (zb4 zlq rc0 ((zav 10 t).dropLast.take 60)).2&&(decide (t.length<=1500)&&(decide (zb9 (zb4 zlq rc0 ((zav 10 t).dropLast.take 60)).1=0)&&putR (zb4 zlq rc0 ((zav 10 t).dropLast.take 60)).1==t))then
  zb4 zlq rc0 ((zav 10 t).dropLast.take 60)
 else(rc0,false)
def z67(r:Rc)(t:List UInt8):Prop:=zb9 r=0/\putR r=t/\t.length<=1500
theorem yag(r:Rc):putR r≠[]:=by
 unfold putR zea;rw[zg1];simp
theorem zol{t:List UInt8}(h:(getI t).2=true):z67 (getI t).1 t:=by
 unfold getI at h ⊢;split at h
 ·rename_i h1;rw[if_pos h1];simp only[Bool.and_eq_true,decide_eq_true_eq,beq_iff_eq]at h1;split at h
  ·rename_i h2;rw[if_pos h2];simp only[Bool.and_eq_true,beq_iff_eq]at h2;have h3:=h2.2;unfold zcv at h3;split at h3
   ·rename_i h4;exact⟨h4,h3,h1.1⟩
   ·rw[<-h3]at h1;cases h1.2
  ·cases h
 ·cases h
theorem zxz{t:List UInt8}(h:(getI t).2=false):getI t=(rc0,false):=by
 unfold getI at h ⊢;split at h
 ·rename_i h1;rw[if_pos h1];split at h
  ·rename_i h2;rw[Bool.and_eq_true]at h2;rw[h2.1]at h;cases h
  ·rename_i h2;rw[if_neg h2]
 ·rename_i h1;rw[if_neg h1]
theorem z4a{t:List UInt8}(h:(getS t).2=true):z67 (getS t).1 t:=by
 unfold getS at h ⊢;split at h
 ·rename_i h1;rw[if_pos h1];simp only[Bool.and_eq_true,decide_eq_true_eq,beq_iff_eq]at h1;exact⟨h1.2.2.1,h1.2.2.2,h1.2.1⟩
 ·cases h
theorem z68{t:List UInt8}(h:(getS t).2=false):getS t=(rc0,false):=by
 unfold getS at h ⊢;split at h
 ·rename_i h1;rw[Bool.and_eq_true]at h1;rw[h1.1]at h;cases h
 ·rename_i h1;rw[if_neg h1]
theorem z69(r:Rc):∃body,body++[10]=putR r:=by
 have:∀xs:zaz,xs≠[]-> ∃body,body++[10]=nlT xs:=by
  intro xs
  induction xs with
  |nil=>intro h;exact absurd rfl h
  |cons x r ih=>
   intro _;rw[zg1]
   cases r with
   |nil=>exact⟨x,by simp[nlT]⟩
   |cons y q=>
    obtain⟨b,hb⟩:=ih (by simp)
    exact⟨x++10::b,by rw[<-hb];simp⟩
 exact this _ (by unfold zea;simp)
theorem zwt{r:Rc}{t:List UInt8}(h:z67 r t):getI t=(r,true):=by
 obtain⟨h1,h2,h3⟩:=h;have hf:=zh5 (zdc h1).1;obtain⟨body,hb⟩:=z69 r;have hc:=yae hf hb;rw[h2]at hb
 have hbk:zb4 zh7 rc0 (zav 10 t.dropLast)=(r,true):=by
  rw[<-hb,List.dropLast_concat,hc];exact zue (λe he=>(zua he).2) hf
 unfold getI;rw[hbk,if_pos,if_pos]
 ·unfold zcv;rw[if_pos h1,h2];simp
 ·rw[<-hb]at h3 ⊢;simp at h3 ⊢;exact h3
theorem yah{r:Rc}{t:List UInt8}(h:z67 r t):getS t=(r,true):=by
 obtain⟨h1,h2,h3⟩:=h;have hf:=zh5 (zdc h1).1
 have hc:zav 10 t=zea r++[[]]:=by
  rw[<-h2];exact zrd (b:=10) (xs:=zea r) (λx hx=>(zlp hf x hx).1)
 have hfew:=zt8 hf
 have hbk:zb4 zlq rc0 ((zav 10 t).dropLast.take 60)=(r,true):=by
  rw[hc,List.dropLast_concat,List.take_of_length_le (by omega)]
  exact zue (λe he=>by unfold zlq;rw[(zua he).1]) hf
 unfold getS;rw[hbk,if_pos];simp[h1,h2,h3]
theorem z7a(t:List UInt8):getI t=getS t:=by
 cases h1:(getI t).2 with
 |true=>
  have hg:=zol h1;rw[yah hg];exact zwt hg
 |false=>
  rw[zxz h1]
  cases h2:(getS t).2 with
  |true=>
   have hg:=z4a h2;rw[zwt hg]at h1;cases h1
  |false=>rw[z68 h2]
end Go.Qz
namespace Go.Qz
open Go.Proofs
theorem z4b(m l:List UInt8)(h:m.length+l.length<=zad):
 C 63 [.ptr 5000 0,.ro (T l)] [(5000,[.bnil 86,.own (.bs 5 ⟨m.toArray⟩)])]=some (.tup [.ro (N l.length),.ro .nili],[(5000,[.selfp,.own (.bs 5 ⟨(m++l).toArray⟩)])]):=by
 refine zaf Tryz.func63 Cv63 rfl ?_;have hc:=zzd 5000 (.own (.bs 5 ⟨m.toArray⟩)) (by decide)
 simp[hc,h]
theorem z4c(m l:List UInt8)(h:m.length+l.length<=zad):
 C 63 [.ptr 5000 0,.ro (T l)] [(5000,[.selfp,.own (.bs 5 ⟨m.toArray⟩)])]=some (.tup [.ro (N l.length),.ro .nili],[(5000,[.selfp,.own (.bs 5 ⟨(m++l).toArray⟩)])]):=by
 refine zaf Tryz.func63 Cv63 rfl ?_;have hc:=zv3 5000 (.own (.bs 5 ⟨m.toArray⟩)) (by decide)
 simp[hc,h]
theorem zx0{a0:A}(ha:a0=.bnil 86∨a0=.selfp)(m l:List UInt8)(h:m.length+l.length<=zad):
 C 63 [.ptr 5000 0,.ro (T l)] [(5000,[a0,.own (.bs 5 ⟨m.toArray⟩)])]=some (.tup [.ro (N l.length),.ro .nili],[(5000,[.selfp,.own (.bs 5 ⟨(m++l).toArray⟩)])]):=by
 rcases ha with rfl|rfl
 ·exact z4b m l h
 ·exact z4c m l h
theorem yai(a0:A)(m:List UInt8):C 66 [.ptr 5000 0] [(5000,[a0,.own (.bs 5 ⟨m.toArray⟩)])]=some (.one (.ro (T m)),[(5000,[a0,.dead])]):=z2t 5000 a0 ⟨m.toArray⟩ (by decide)
end Go.Qz
namespace Go.Qz
open Go.Proofs
theorem z4d{fs:List Fl}(hf:zhd fs=true){l:List UInt8}(hl:zcf l=true):C Fn40 [.ro (FS fs),.ro (T l),.ro (.sl 1 [])] []=some (.tup [.ro (T (zem fs l).2),.ro (N (zem fs l).1)],[]):=by
 rw[zxw hf hl];exact zwh fs (zpx hf) (fs.length+1) [] l (zxt fs) (zof hl)
theorem z7b{fs:List Fl}(h:fs.all letB=true){i:Nat}(hi:i<fs.length):za2 fs[i].1=true:=by
 have:=List.all_eq_true.1 h _ (List.getElem_mem hi);unfold letB at this;simp only[Bool.and_eq_true]at this;exact this.1
set_option maxHeartbeats 2000000 in
theorem zh8(r:Rc)(h:RcSz r):C Fn13 [.ro (RcD r)] []=some (.one (.ro (N (zb9 r))),[]):=by
 refine zaf Tryz.func13 Cv13 rfl ?_;have h1:=z3u r h;have h2:=zzu r h;have hown:=z61 r h;unfold zb9
 cases hf:zd9 r with
 |false=>rw[hf]at h1;simp[h1]
 |true=>
  rw[hf]at h1;simp only[if_true]
  cases ht:zdo r with
  |true=>rw[ht]at h2;simp[h1,h2]
  |false=>
   rw[ht]at h2;simp only[Bool.false_eq_true,if_false];rw[yad hf];obtain⟨p1,p2,p3,p4,p5,p6⟩:=zio hf;have hfs:=zq9 hf;generalize ownR r=fs at *
   have hst:∀i (hi:i<r.steps.length),C Fn40 [.ro (FS fs),.ro (T r.steps[i]),.ro (.sl 1 [])] []=some (.tup [.ro (T (zem fs r.steps[i]).2),.ro (N (zem fs r.steps[i]).1)],[]):=λi hi=>
    z4d hfs (List.all_eq_true.1 p5 _ (List.getElem_mem hi))
   have hrf:∀i (hi:i<r.lets.length),C Fn40 [.ro (FS fs),.ro (T (36::123::(r.lets[i].1++[125]))),.ro (.sl 1 [])] []=some (.tup [.ro (T (zem fs (36::123::(r.lets[i].1++[125]))).2),.ro (N (zem fs (36::123::(r.lets[i].1++[125]))).1)],[]):=λi hi=>
    z4d hfs (zt0 (z7b p4 hi) [] [] rfl rfl (by simp))
   have go2:∀e:Env,e.size=61->e.get 1=.one (.ptr 1 0)->e.box 1=some (RB1 r)->Run cx q13c5 e [.fn [(.tmp 2,3)] []]=some (.one (.ro (N (chk fs r.steps))),[]):=by
    intro e hsz e1 b1;simp[hsz]
    refine zak (λm e=> ∃i,m=r.steps.length-i/\i<=r.steps.length/\e.size=61/\e.get 1=.one (.ptr 1 0)/\e.box 1=some (RB1 r)/\e.get 6=.one (.ro (N i))/\chk fs (r.steps.drop i)=chk fs r.steps)
     ?_ r.steps.length _ ⟨0,rfl,Nat.zero_le _,by simp[hsz],by simp[e1],by simp[b1],by simp,rfl⟩
    clear hsz e1 b1;rintro m e ⟨i,rfl,hi,hsz,e1,b1,e6,hr⟩ ih;rcases Nat.lt_or_ge i r.steps.length with hlt|hge
    ·have hd:r.steps.drop i=r.steps[i]::r.steps.drop (i+1):=List.drop_eq_getElem_cons hlt;have hwi:IntKind.i64.wrap ((i:Int)+1)=((i+1:Nat):Int):=zae (by omega)
     have hev:=hst i hlt;rw[hd,chk]at hr;generalize zem fs r.steps[i]=xv at *;obtain⟨c,x⟩:=xv;simp only at hev hr;by_cases hc:c=0
     ·subst hc;rw[if_pos rfl]at hr;simp[hsz,e1,b1,e6,hlt,hwi,hown,hev];exact ih _ _ (by omega) ⟨i+1,rfl,by omega,by simp[hsz],by simp[e1],by simp[b1],by simp,hr⟩
     ·rw[if_neg hc]at hr;have hc':(c==0)=false:=by simpa using hc
      rw[<-hr];simp[hsz,e1,b1,e6,hlt,hown,hev,hc']
    ·obtain rfl:i=r.steps.length:=by omega
     rw[List.drop_length,chk]at hr;rw[<-hr];simp[hsz,e1,b1,e6]
   simp[h1,h2]
   refine zak (λm e=> ∃i,m=r.lets.length-i/\i<=r.lets.length/\e.size=61/\e.get 1=.one (.ptr 1 0)/\e.box 1=some (RB1 r)/\e.get 3=.one (.ro (N i))/\
    chk fs ((r.lets.drop i).map (λf=>refT f.1)++r.steps)=chk fs (r.lets.map (λf=>refT f.1)++r.steps)) ?_ r.lets.length _ ⟨0,rfl,Nat.zero_le _,by simp,by simp,by simp,by simp,rfl⟩
   rintro m e ⟨i,rfl,hi,hsz,e1,b1,e3,hr⟩ ih;rcases Nat.lt_or_ge i r.lets.length with hlt|hge
   ·have hd:r.lets.drop i=r.lets[i]::r.lets.drop (i+1):=List.drop_eq_getElem_cons hlt;have hwi:IntKind.i64.wrap ((i:Int)+1)=((i+1:Nat):Int):=zae (by omega)
    have hev:=hrf i hlt;have hz:=(h.letz _ (List.getElem_mem hlt)).1;have m1:2+r.lets[i].1.length<=zai:=by simp only[zai];omega
    have m2:r.lets[i].1.length+1+1+1<=zai:=by simp only[zai];omega
    rw[hd,List.map_cons,List.cons_append,chk,show refT r.lets[i].1=36::123::(r.lets[i].1++[125])from rfl]at hr
    generalize zem fs (36::123::(r.lets[i].1++[125]))=xv at *;obtain⟨c,x⟩:=xv;simp only at hev hr;by_cases hc:c=0
    ·subst hc;rw[if_pos rfl]at hr;simp[hsz,e1,b1,e3,hlt,hwi,hown,hev,m1,m2];exact ih _ _ (by omega) ⟨i+1,rfl,by omega,by simp[hsz],by simp[e1],by simp[b1],by simp,hr⟩
    ·rw[if_neg hc]at hr;have hc':(c==0)=false:=by simpa using hc
     rw[<-hr];simp[hsz,e1,b1,e3,hlt,hown,hev,m1,m2,hc']
   ·obtain rfl:i=r.lets.length:=by omega
    rw[List.drop_length,List.map_nil,List.nil_append]at hr;rw[<-hr];simp[hsz,e1,b1,e3,-ydj];exact go2 _ (by simp[hsz]) (by simp[e1]) (by simp[b1])
end Go.Qz
namespace Go.Qz
open Go.Proofs
theorem zuf(k:Int):C ymz [.ro (I k)] []=some (.one (.ro (T (zd1 k))),[]):=by
 refine zaf Tryz.func162 ym1 rfl ?_;unfold zd1;cases h1:k==1
 ·cases h2:k==2
  ·cases h3:k==3
   ·simp[h1,h2,h3]
   ·simp[h1,h2,h3]
  ·simp[h1,h2]
 ·simp[h1]
theorem zre(e:Ne)(h:neSz e):C yj7 [.ro (NeD e)] []=some (.one (.ro (T (zdj e))),[]):=by
 refine zaf Tryz.func130 yj8 rfl ?_;have h1:=zuf e.kind;have h2:=zt4 e.kind;have h3:=h.1;have h4:=h.2;unfold zdj;generalize zd1 e.kind=s at *;have z1:e.name.length+s.length<=zai:=by unfold zai;omega
 have z2:e.name.length+s.length+e.ver.length<=zai:=by unfold zai;omega
 have z3:e.name.length+(s.length+e.ver.length)<=zai:=by unfold zai;omega
 simp[h1,z1,z2,z3]
theorem zom(e:Ne)(h:neSz e)(hok:za7 e=true):C Fn65 [.ro (NeD e)] []=some (.one (.ro (T (zdj e))),[]):=by
 refine zaf Tryz.func65 Cv65 rfl ?_;have h1:=zev e h;rw[hok]at h1;have hv:=(zks hok).2;have h3:=h.1;have h4:=h.2;obtain⟨n,k,v⟩:=e;simp only at hv h3 h4;have z1:n.length+1<=zai:=by unfold zai;omega
 have z2:n.length+2<=zai:=by unfold zai;omega
 have z3:n.length+1+v.length<=zai:=by unfold zai;omega
 have z4:n.length+2+v.length<=zai:=by unfold zai;omega
 have z5:n.length+(v.length+1)<=zai:=by unfold zai;omega
 have z6:n.length+(v.length+1+1)<=zai:=by unfold zai;omega
 unfold zdj zd1;rcases hv with⟨rfl,rfl⟩|⟨rfl|rfl|rfl,_⟩<;>simp[h1,z1,z2,z3,z4,z5,z6]
theorem zon{a0:A}(ha:a0=.bnil 86∨a0=.selfp)(m w x:List UInt8)(h:m.length+(w.length+(x.length+2))<=1000000):
 C Fn62 [.ro (.sl 1 [T w,T x]),.ptr 5001 0] [(5001,[a0,.own (.bs 5 ⟨m.toArray⟩)])]=some (.tup [],[(5001,[.selfp,.own (.bs 5 ⟨(m++(ln1 w x++[10])).toArray⟩)])]):=by
 refine zaf Tryz.func62 Cv62 rfl ?_;have hj:=z5y w x (by omega)
 have hl:(ln1 w x).length=w.length+(x.length+1):=by simp[ln1]
 rw[show w++32::x=ln1 w x from rfl]at hj
 generalize ln1 w x=l at *;have hw:=zx0 ha m (l++[10]) (by simp[zad];omega)
 have z1:l.length+1<=zai:=by unfold zai;omega
 rcases ha with rfl|rfl<;>simp[hj,hw,z1]
theorem zwu{a0:A}(ha:a0=.bnil 86∨a0=.selfp)(m w:List UInt8)(f:Fl)(h:m.length+(w.length+(f.1.length+(f.2.length+3)))<=1000000):
 C Fn62 [.ro (.sl 1 [T w,T f.1,T f.2]),.ptr 5001 0] [(5001,[a0,.own (.bs 5 ⟨m.toArray⟩)])]=some (.tup [],[(5001,[.selfp,.own (.bs 5 ⟨(m++(ln2 w f++[10])).toArray⟩)])]):=by
 refine zaf Tryz.func62 Cv62 rfl ?_;have hj:=z5z w f.1 f.2 (by omega)
 have hl:(ln2 w f).length=w.length+(f.1.length+(f.2.length+2)):=by simp[ln2];omega
 rw[show w++32::(f.1++32::f.2)=ln2 w f from rfl]at hj
 generalize ln2 w f=l at *;have hw:=zx0 ha m (l++[10]) (by simp[zad];omega)
 have z1:l.length+1<=zai:=by unfold zai;omega
 rcases ha with rfl|rfl<;>simp[hj,hw,z1]
theorem zbi(xs:zaz)(i:Nat):(nlT (xs.take i)).length<=(nlT xs).length:=by
 conv=>rhs;rw[<-List.take_append_drop i xs]
 rw[zbu,List.length_append];omega
theorem zc1{α:Type}{xs:List α}{f:α->List UInt8}{i:Nat}(h:i<xs.length):nlT ((xs.map f).take (i+1))=nlT ((xs.map f).take i)++(f xs[i]++[10]):=by
 rw[z62 (by simpa using h),List.getElem_map]
theorem zg4(w x:List UInt8):(ln1 w x).length=w.length+(x.length+1):=by simp[ln1]
theorem zlr(w:List UInt8)(f:Fl):(ln2 w f).length=w.length+(f.1.length+(f.2.length+2)):=by simp[ln2];omega
abbrev OB(m:List UInt8):List A:=[.selfp,.own (.bs 5 ⟨m.toArray⟩)]
theorem z7c(r:Rc)(h:RcSz r)(hf:Fine r)(m:List UInt8)(e:Env)(hm:m.length+(nlT (r.steps.map (ln1 za0))).length<=900000)(hsz:e.size=115)(e1:e.get 1=.one (.ptr 1 0))(b1:e.box 1=some (RB1 r))(e3:e.get 3=.one (.ptr 3 0))(e4:e.get 4=.one (.fn 62 [.ptr 3]))(b3:e.box 3=some (OB m)):
 Run cx q26c13 e [.fn [(.tmp 2,9)] []]=some (.one (.ro (T (m++nlT (r.steps.map (ln1 za0))))),[]):=by
 have hw:=h.steps;simp[hsz,e1,b1,-zvp]
 refine zak (λk e=> ∃i,k=r.steps.length-i/\i<=r.steps.length/\e.size=115/\e.get 1=.one (.ptr 1 0)/\e.box 1=some (RB1 r)/\e.get 3=.one (.ptr 3 0)/\e.get 4=.one (.fn 62 [.ptr 3])/\e.box 3=some (OB (m++nlT ((r.steps.map (ln1 za0)).take i)))/\e.get 103=.one (.ro (SS r.steps))/\e.get 104=.one (.ro (N r.steps.length))/\e.get 105=.one (.ro (N i)))
  ?_ r.steps.length _ ⟨0,rfl,Nat.zero_le _,by simp[hsz],by simp[e1],by simp[b1],by simp[e3],by simp[e4],by simp[b3,nlT],by simp,by simp,by simp⟩
 clear hsz e1 b1 e3 e4 b3;rintro k e ⟨i,rfl,hi,hsz,e1,b1,e3,e4,b3,es,el,ei⟩ ih;rcases Nat.lt_or_ge i r.steps.length with hlt|hge
 ·have hwi:IntKind.i64.wrap ((i:Int)+1)=((i+1:Nat):Int):=zae (by omega)
  have htk:=zc1 (f:=ln1 za0) hlt;have hle:=zbi (r.steps.map (ln1 za0)) (i+1);obtain⟨M2,hM2⟩:∃M2,M2=m++nlT ((r.steps.map (ln1 za0)).take (i+1)):=⟨_,rfl⟩;have hM2':M2=(m++nlT ((r.steps.map (ln1 za0)).take i))++((ln1 za0) r.steps[i]++[10]):=by rw[hM2,htk,List.append_assoc]
  have hlen:M2.length<=900000:=by rw[hM2,List.length_append];omega
  have hl2:=congrArg List.length hM2';simp only[List.length_append,List.length_singleton,zg4]at hl2;have hput:=zon (a0:=.selfp) (.inr rfl) (m++nlT ((r.steps.map (ln1 za0)).take i)) za0 r.steps[i] (by simp only[List.length_append];omega)
  rw[<-hM2']at hput;generalize m++nlT ((r.steps.map (ln1 za0)).take i)=M1 at *;simp[hsz,e1,b1,e4,b3,es,el,ei,hlt,hwi,hput];exact ih _ _ (by omega) ⟨i+1,rfl,by omega,by simp[hsz],by simp[e1],by simp[b1],by simp[e3],by simp[e4],by simp[<-hM2],by simp[es],by simp[el],by simp⟩
 ·obtain rfl:i=r.steps.length:=by omega
  rw[List.take_of_length_le (by simp)]at b3
  simp[hsz,el,ei,-zvp];have ht:=yai .selfp (m++nlT (r.steps.map (ln1 za0)));generalize m++nlT (r.steps.map (ln1 za0))=M at *;simp[hsz,e3,b3,ht,zvp]
theorem z7d(r:Rc)(h:RcSz r)(hf:Fine r)(m:List UInt8)(e:Env)(hm:m.length+(nlT (r.pcs.map (ln2 kwPc)++(r.steps.map (ln1 za0)))).length<=900000)(hsz:e.size=115)(e1:e.get 1=.one (.ptr 1 0))(b1:e.box 1=some (RB1 r))(e3:e.get 3=.one (.ptr 3 0))(e4:e.get 4=.one (.fn 62 [.ptr 3]))(b3:e.box 3=some (OB m)):
 Run cx q26c14 e [.fn [(.tmp 2,9)] []]=some (.one (.ro (T (m++nlT (r.pcs.map (ln2 kwPc)++(r.steps.map (ln1 za0)))))),[]):=by
 have hw:=h.pcs;rw[zbu]at hm ⊢;rw[List.length_append]at hm;simp[hsz,e1,b1,-z17]
 refine zak (λk e=> ∃i,k=r.pcs.length-i/\i<=r.pcs.length/\e.size=115/\e.get 1=.one (.ptr 1 0)/\e.box 1=some (RB1 r)/\e.get 3=.one (.ptr 3 0)/\e.get 4=.one (.fn 62 [.ptr 3])/\e.box 3=some (OB (m++nlT ((r.pcs.map (ln2 kwPc)).take i)))/\e.get 88=.one (.ro (FS r.pcs))/\e.get 89=.one (.ro (N r.pcs.length))/\e.get 90=.one (.ro (N i)))
  ?_ r.pcs.length _ ⟨0,rfl,Nat.zero_le _,by simp[hsz],by simp[e1],by simp[b1],by simp[e3],by simp[e4],by simp[b3,nlT],by simp,by simp,by simp⟩
 clear hsz e1 b1 e3 e4 b3;rintro k e ⟨i,rfl,hi,hsz,e1,b1,e3,e4,b3,es,el,ei⟩ ih;rcases Nat.lt_or_ge i r.pcs.length with hlt|hge
 ·have hwi:IntKind.i64.wrap ((i:Int)+1)=((i+1:Nat):Int):=zae (by omega)
  have htk:=zc1 (f:=ln2 kwPc) hlt;have hle:=zbi (r.pcs.map (ln2 kwPc)) (i+1);obtain⟨M2,hM2⟩:∃M2,M2=m++nlT ((r.pcs.map (ln2 kwPc)).take (i+1)):=⟨_,rfl⟩;have hM2':M2=(m++nlT ((r.pcs.map (ln2 kwPc)).take i))++((ln2 kwPc) r.pcs[i]++[10]):=by rw[hM2,htk,List.append_assoc]
  have hlen:M2.length<=900000:=by rw[hM2,List.length_append];omega
  have hl2:=congrArg List.length hM2';simp only[List.length_append,List.length_singleton,zlr]at hl2;have hput:=zwu (a0:=.selfp) (.inr rfl) (m++nlT ((r.pcs.map (ln2 kwPc)).take i)) kwPc r.pcs[i] (by simp only[List.length_append];omega)
  rw[<-hM2']at hput;generalize m++nlT ((r.pcs.map (ln2 kwPc)).take i)=M1 at *;simp[hsz,e1,b1,e4,b3,es,el,ei,hlt,hwi,hput];exact ih _ _ (by omega) ⟨i+1,rfl,by omega,by simp[hsz],by simp[e1],by simp[b1],by simp[e3],by simp[e4],by simp[<-hM2],by simp[es],by simp[el],by simp⟩
 ·obtain rfl:i=r.pcs.length:=by omega
  rw[List.take_of_length_le (by simp)]at b3
  simp[hsz,el,ei,-z17];have:=z7c r h hf (m++nlT (r.pcs.map (ln2 kwPc)));rw[List.append_assoc]at this;exact this _ (by rw[List.length_append];omega) (by simp[hsz]) (by simp[e1]) (by simp[b1]) (by simp[e3]) (by simp[e4]) (by simp[b3])
theorem z7e(r:Rc)(h:RcSz r)(hf:Fine r)(m:List UInt8)(e:Env)(hm:m.length+(nlT (r.srcs.map (ln2 zb3)++(r.pcs.map (ln2 kwPc)++(r.steps.map (ln1 za0))))).length<=900000)(hsz:e.size=115)(e1:e.get 1=.one (.ptr 1 0))(b1:e.box 1=some (RB1 r))(e3:e.get 3=.one (.ptr 3 0))(e4:e.get 4=.one (.fn 62 [.ptr 3]))(b3:e.box 3=some (OB m)):
 Run cx q26c15 e [.fn [(.tmp 2,9)] []]=some (.one (.ro (T (m++nlT (r.srcs.map (ln2 zb3)++(r.pcs.map (ln2 kwPc)++(r.steps.map (ln1 za0))))))),[]):=by
 have hw:=h.srcs;rw[zbu]at hm ⊢;rw[List.length_append]at hm;simp[hsz,e1,b1,-z18]
 refine zak (λk e=> ∃i,k=r.srcs.length-i/\i<=r.srcs.length/\e.size=115/\e.get 1=.one (.ptr 1 0)/\e.box 1=some (RB1 r)/\e.get 3=.one (.ptr 3 0)/\e.get 4=.one (.fn 62 [.ptr 3])/\e.box 3=some (OB (m++nlT ((r.srcs.map (ln2 zb3)).take i)))/\e.get 73=.one (.ro (FS r.srcs))/\e.get 74=.one (.ro (N r.srcs.length))/\e.get 75=.one (.ro (N i)))
  ?_ r.srcs.length _ ⟨0,rfl,Nat.zero_le _,by simp[hsz],by simp[e1],by simp[b1],by simp[e3],by simp[e4],by simp[b3,nlT],by simp,by simp,by simp⟩
 clear hsz e1 b1 e3 e4 b3;rintro k e ⟨i,rfl,hi,hsz,e1,b1,e3,e4,b3,es,el,ei⟩ ih;rcases Nat.lt_or_ge i r.srcs.length with hlt|hge
 ·have hwi:IntKind.i64.wrap ((i:Int)+1)=((i+1:Nat):Int):=zae (by omega)
  have htk:=zc1 (f:=ln2 zb3) hlt;have hle:=zbi (r.srcs.map (ln2 zb3)) (i+1);obtain⟨M2,hM2⟩:∃M2,M2=m++nlT ((r.srcs.map (ln2 zb3)).take (i+1)):=⟨_,rfl⟩;have hM2':M2=(m++nlT ((r.srcs.map (ln2 zb3)).take i))++((ln2 zb3) r.srcs[i]++[10]):=by rw[hM2,htk,List.append_assoc]
  have hlen:M2.length<=900000:=by rw[hM2,List.length_append];omega
  have hl2:=congrArg List.length hM2';simp only[List.length_append,List.length_singleton,zlr]at hl2;have hput:=zwu (a0:=.selfp) (.inr rfl) (m++nlT ((r.srcs.map (ln2 zb3)).take i)) zb3 r.srcs[i] (by simp only[List.length_append];omega)
  rw[<-hM2']at hput;generalize m++nlT ((r.srcs.map (ln2 zb3)).take i)=M1 at *;simp[hsz,e1,b1,e4,b3,es,el,ei,hlt,hwi,hput];exact ih _ _ (by omega) ⟨i+1,rfl,by omega,by simp[hsz],by simp[e1],by simp[b1],by simp[e3],by simp[e4],by simp[<-hM2],by simp[es],by simp[el],by simp⟩
 ·obtain rfl:i=r.srcs.length:=by omega
  rw[List.take_of_length_le (by simp)]at b3
  simp[hsz,el,ei,-z18];have:=z7d r h hf (m++nlT (r.srcs.map (ln2 zb3)));rw[List.append_assoc]at this;exact this _ (by rw[List.length_append];omega) (by simp[hsz]) (by simp[e1]) (by simp[b1]) (by simp[e3]) (by simp[e4]) (by simp[b3])
theorem z7f(r:Rc)(h:RcSz r)(hf:Fine r)(m:List UInt8)(e:Env)(hm:m.length+(nlT (r.runs.map (lnN zca)++(r.srcs.map (ln2 zb3)++(r.pcs.map (ln2 kwPc)++(r.steps.map (ln1 za0)))))).length<=900000)(hsz:e.size=115)(e1:e.get 1=.one (.ptr 1 0))(b1:e.box 1=some (RB1 r))(e3:e.get 3=.one (.ptr 3 0))(e4:e.get 4=.one (.fn 62 [.ptr 3]))(b3:e.box 3=some (OB m)):
 Run cx q26c16 e [.fn [(.tmp 2,9)] []]=some (.one (.ro (T (m++nlT (r.runs.map (lnN zca)++(r.srcs.map (ln2 zb3)++(r.pcs.map (ln2 kwPc)++(r.steps.map (ln1 za0)))))))),[]):=by
 have hw:=h.runs;rw[zbu]at hm ⊢;rw[List.length_append]at hm;simp[hsz,e1,b1,-z19]
 refine zak (λk e=> ∃i,k=r.runs.length-i/\i<=r.runs.length/\e.size=115/\e.get 1=.one (.ptr 1 0)/\e.box 1=some (RB1 r)/\e.get 3=.one (.ptr 3 0)/\e.get 4=.one (.fn 62 [.ptr 3])/\e.box 3=some (OB (m++nlT ((r.runs.map (lnN zca)).take i)))/\e.get 60=.one (.ro (NeS r.runs))/\e.get 61=.one (.ro (N r.runs.length))/\e.get 62=.one (.ro (N i)))
  ?_ r.runs.length _ ⟨0,rfl,Nat.zero_le _,by simp[hsz],by simp[e1],by simp[b1],by simp[e3],by simp[e4],by simp[b3,nlT],by simp,by simp,by simp⟩
 clear hsz e1 b1 e3 e4 b3;rintro k e ⟨i,rfl,hi,hsz,e1,b1,e3,e4,b3,es,el,ei⟩ ih;rcases Nat.lt_or_ge i r.runs.length with hlt|hge
 ·have hwi:IntKind.i64.wrap ((i:Int)+1)=((i+1:Nat):Int):=zae (by omega)
  have htk:=zc1 (f:=lnN zca) hlt;have hle:=zbi (r.runs.map (lnN zca)) (i+1);obtain⟨M2,hM2⟩:∃M2,M2=m++nlT ((r.runs.map (lnN zca)).take (i+1)):=⟨_,rfl⟩;have hM2':M2=(m++nlT ((r.runs.map (lnN zca)).take i))++((lnN zca) r.runs[i]++[10]):=by rw[hM2,htk,List.append_assoc]
  have hlen:M2.length<=900000:=by rw[hM2,List.length_append];omega
  have hl2:=congrArg List.length hM2';simp only[List.length_append,List.length_singleton,lnN,zg4]at hl2;have hnd:=zom r.runs[i] (h.run _ (List.getElem_mem hlt)) (hf.runs.1 _ (List.getElem_mem hlt));have hput:=zon (a0:=.selfp) (.inr rfl) (m++nlT ((r.runs.map (lnN zca)).take i)) zca (zdj r.runs[i]) (by simp only[List.length_append];omega)
  rw[show ln1 zca (zdj r.runs[i])=lnN zca r.runs[i]from rfl]at hput
  rw[<-hM2']at hput;generalize m++nlT ((r.runs.map (lnN zca)).take i)=M1 at *;simp[hsz,e1,b1,e4,b3,es,el,ei,hlt,hwi,hput,hnd];exact ih _ _ (by omega) ⟨i+1,rfl,by omega,by simp[hsz],by simp[e1],by simp[b1],by simp[e3],by simp[e4],by simp[<-hM2],by simp[es],by simp[el],by simp⟩
 ·obtain rfl:i=r.runs.length:=by omega
  rw[List.take_of_length_le (by simp)]at b3
  simp[hsz,el,ei,-z19];have:=z7e r h hf (m++nlT (r.runs.map (lnN zca)));rw[List.append_assoc]at this;exact this _ (by rw[List.length_append];omega) (by simp[hsz]) (by simp[e1]) (by simp[b1]) (by simp[e3]) (by simp[e4]) (by simp[b3])
theorem z7g(r:Rc)(h:RcSz r)(hf:Fine r)(m:List UInt8)(e:Env)(hm:m.length+(nlT (r.builds.map (lnN za3)++(r.runs.map (lnN zca)++(r.srcs.map (ln2 zb3)++(r.pcs.map (ln2 kwPc)++(r.steps.map (ln1 za0))))))).length<=900000)(hsz:e.size=115)(e1:e.get 1=.one (.ptr 1 0))(b1:e.box 1=some (RB1 r))(e3:e.get 3=.one (.ptr 3 0))(e4:e.get 4=.one (.fn 62 [.ptr 3]))(b3:e.box 3=some (OB m)):
 Run cx q26c17 e [.fn [(.tmp 2,9)] []]=some (.one (.ro (T (m++nlT (r.builds.map (lnN za3)++(r.runs.map (lnN zca)++(r.srcs.map (ln2 zb3)++(r.pcs.map (ln2 kwPc)++(r.steps.map (ln1 za0))))))))),[]):=by
 have hw:=h.builds;rw[zbu]at hm ⊢;rw[List.length_append]at hm;simp[hsz,e1,b1,-z2a]
 refine zak (λk e=> ∃i,k=r.builds.length-i/\i<=r.builds.length/\e.size=115/\e.get 1=.one (.ptr 1 0)/\e.box 1=some (RB1 r)/\e.get 3=.one (.ptr 3 0)/\e.get 4=.one (.fn 62 [.ptr 3])/\e.box 3=some (OB (m++nlT ((r.builds.map (lnN za3)).take i)))/\e.get 47=.one (.ro (NeS r.builds))/\e.get 48=.one (.ro (N r.builds.length))/\e.get 49=.one (.ro (N i)))
  ?_ r.builds.length _ ⟨0,rfl,Nat.zero_le _,by simp[hsz],by simp[e1],by simp[b1],by simp[e3],by simp[e4],by simp[b3,nlT],by simp,by simp,by simp⟩
 clear hsz e1 b1 e3 e4 b3;rintro k e ⟨i,rfl,hi,hsz,e1,b1,e3,e4,b3,es,el,ei⟩ ih;rcases Nat.lt_or_ge i r.builds.length with hlt|hge
 ·have hwi:IntKind.i64.wrap ((i:Int)+1)=((i+1:Nat):Int):=zae (by omega)
  have htk:=zc1 (f:=lnN za3) hlt;have hle:=zbi (r.builds.map (lnN za3)) (i+1);obtain⟨M2,hM2⟩:∃M2,M2=m++nlT ((r.builds.map (lnN za3)).take (i+1)):=⟨_,rfl⟩;have hM2':M2=(m++nlT ((r.builds.map (lnN za3)).take i))++((lnN za3) r.builds[i]++[10]):=by rw[hM2,htk,List.append_assoc]
  have hlen:M2.length<=900000:=by rw[hM2,List.length_append];omega
  have hl2:=congrArg List.length hM2';simp only[List.length_append,List.length_singleton,lnN,zg4]at hl2;have hnd:=zom r.builds[i] (h.bld _ (List.getElem_mem hlt)) (hf.builds.1 _ (List.getElem_mem hlt));have hput:=zon (a0:=.selfp) (.inr rfl) (m++nlT ((r.builds.map (lnN za3)).take i)) za3 (zdj r.builds[i]) (by simp only[List.length_append];omega)
  rw[show ln1 za3 (zdj r.builds[i])=lnN za3 r.builds[i]from rfl]at hput
  rw[<-hM2']at hput;generalize m++nlT ((r.builds.map (lnN za3)).take i)=M1 at *;simp[hsz,e1,b1,e4,b3,es,el,ei,hlt,hwi,hput,hnd];exact ih _ _ (by omega) ⟨i+1,rfl,by omega,by simp[hsz],by simp[e1],by simp[b1],by simp[e3],by simp[e4],by simp[<-hM2],by simp[es],by simp[el],by simp⟩
 ·obtain rfl:i=r.builds.length:=by omega
  rw[List.take_of_length_le (by simp)]at b3
  simp[hsz,el,ei,-z2a];have:=z7f r h hf (m++nlT (r.builds.map (lnN za3)));rw[List.append_assoc]at this;exact this _ (by rw[List.length_append];omega) (by simp[hsz]) (by simp[e1]) (by simp[b1]) (by simp[e3]) (by simp[e4]) (by simp[b3])
set_option maxHeartbeats 1000000 in
theorem z7h(r:Rc)(h:RcSz r)(hf:Fine r)(e:Env)(hm:(putR r).length<=900000)(hsz:e.size=115)(e1:e.get 1=.one (.ptr 1 0))(b1:e.box 1=some (RB1 r)):
 Run cx q26c18 e [.fn [(.tmp 2,9)] []]=some (.one (.ro (T (putR r))),[]):=by
 have hw:=h.lets
 have hP:putR r=(ln1 kwName r.name++[10])++(ln1 kwVer r.ver++[10])++(nlT (r.lets.map (ln2 zdm))++nlT (r.builds.map (lnN za3)++(r.runs.map (lnN zca)++(r.srcs.map (ln2 zb3)++(r.pcs.map (ln2 kwPc)++(r.steps.map (ln1 za0))))))):=by
  unfold putR zea;rw[zg1,zg1,zbu];simp
 rw[hP]at hm ⊢;have hk1:kwName.length=4:=rfl;have hk2:kwVer.length=7:=rfl;simp only[List.length_append,List.length_singleton,zg4]at hm;have p1:=zon (a0:=.bnil 86) (.inl rfl) [] kwName r.name (by simp;omega)
 have p2:=zon (a0:=.selfp) (.inr rfl) (ln1 kwName r.name++[10]) kwVer r.ver (by simp only[List.length_append,List.length_singleton,zg4];omega)
 rw[List.nil_append]at p1;rw[show (⟨([]:List UInt8).toArray⟩:ByteArray)=ByteArray.empty from rfl]at p1
 obtain⟨m,hmm⟩:∃m,m=(ln1 kwName r.name++[10])++(ln1 kwVer r.ver++[10]):=⟨_,rfl⟩;have hml:m.length+((nlT (r.lets.map (ln2 zdm))).length+(nlT (r.builds.map (lnN za3)++(r.runs.map (lnN zca)++(r.srcs.map (ln2 zb3)++(r.pcs.map (ln2 kwPc)++(r.steps.map (ln1 za0))))))).length)<=900000:=by rw[hmm];simp only[List.length_append,List.length_singleton,zg4];omega
 rw[<-hmm]at p2 ⊢;replace hm:=hml;generalize ln1 kwName r.name++[10]=m0 at *;clear hmm hP hml;simp[hsz,e1,b1,p1,p2,zmt,zri,-z2b]
 refine zak (λk e=> ∃i,k=r.lets.length-i/\i<=r.lets.length/\e.size=115/\e.get 1=.one (.ptr 1 0)/\e.box 1=some (RB1 r)/\e.get 3=.one (.ptr 3 0)/\e.get 4=.one (.fn 62 [.ptr 3])/\e.box 3=some (OB (m++nlT ((r.lets.map (ln2 zdm)).take i)))/\e.get 32=.one (.ro (FS r.lets))/\e.get 33=.one (.ro (N r.lets.length))/\e.get 34=.one (.ro (N i)))
  ?_ r.lets.length _ ⟨0,rfl,Nat.zero_le _,by simp[hsz],by simp[e1],by simp[b1],by simp,by simp,by simp[nlT],by simp,by simp,by simp⟩
 clear hsz e1 b1 p1 p2;rintro k e ⟨i,rfl,hi,hsz,e1,b1,e3,e4,b3,es,el,ei⟩ ih;rcases Nat.lt_or_ge i r.lets.length with hlt|hge
 ·have hwi:IntKind.i64.wrap ((i:Int)+1)=((i+1:Nat):Int):=zae (by omega)
  have htk:=zc1 (f:=ln2 zdm) hlt;have hle:=zbi (r.lets.map (ln2 zdm)) (i+1);obtain⟨M2,hM2⟩:∃M2,M2=m++nlT ((r.lets.map (ln2 zdm)).take (i+1)):=⟨_,rfl⟩;have hM2':M2=(m++nlT ((r.lets.map (ln2 zdm)).take i))++((ln2 zdm) r.lets[i]++[10]):=by rw[hM2,htk,List.append_assoc]
  have hlen:M2.length<=900000:=by rw[hM2,List.length_append];omega
  have hl2:=congrArg List.length hM2';simp only[List.length_append,List.length_singleton,zlr]at hl2;have hput:=zwu (a0:=.selfp) (.inr rfl) (m++nlT ((r.lets.map (ln2 zdm)).take i)) zdm r.lets[i] (by simp only[List.length_append];omega)
  rw[<-hM2']at hput;generalize m++nlT ((r.lets.map (ln2 zdm)).take i)=M1 at *;simp[hsz,e1,b1,e4,b3,es,el,ei,hlt,hwi,hput];exact ih _ _ (by omega) ⟨i+1,rfl,by omega,by simp[hsz],by simp[e1],by simp[b1],by simp[e3],by simp[e4],by simp[<-hM2],by simp[es],by simp[el],by simp⟩
 ·obtain rfl:i=r.lets.length:=by omega
  rw[List.take_of_length_le (by simp)]at b3
  simp[hsz,el,ei,-z2b];have:=z7g r h hf (m++nlT (r.lets.map (ln2 zdm)));rw[List.append_assoc]at this;exact this _ (by rw[List.length_append];omega) (by simp[hsz]) (by simp[e1]) (by simp[b1]) (by simp[e3]) (by simp[e4]) (by simp[b3])
theorem zg5(r:Rc)(h:RcSz r):C Fn26 [.ro (RcD r)] []=some (.one (.ro (T (zcv r))),[]):=by
 refine zaf Tryz.func26 Cv26 rfl ?_;have h1:=zoj r h;unfold zcv;by_cases hc:zb9 r=0
 ·rw[if_pos hc];rw[hc]at h1;have hf:=zh5 (zdc hc).1;have hl:=zkt hf;simp[h1,-z9n];exact z7h r h hf _ (by omega) (by simp) (by simp) (by simp)
 ·rw[if_neg hc];have hc':(zb9 r==0)=false:=by simpa using hc
  generalize zb9 r=c at *;simp[h1,hc']
end Go.Qz
namespace Go.Qz
open Go.Proofs
theorem z7i(r:Rc)(h:RcSz r)(m:List UInt8)(e:Env)(hm:m.length+(nlT (r.steps.map (ln1 za0))).length<=900000)(hsz:e.size=144)(e1:e.get 1=.one (.ptr 1 0))(b1:e.box 1=some (RB1 r))(e3:e.get 3=.one (.ro (T m))):
 Run cx q61c13 e [.fn [(.tmp 2,9)] []]=some (.one (.ro (T (m++nlT (r.steps.map (ln1 za0))))),[]):=by
 have hw:=h.steps;simp[hsz,-zvq]
 refine zak (λk e=> ∃i,k=r.steps.length-i/\i<=r.steps.length/\e.size=144/\e.get 1=.one (.ptr 1 0)/\e.box 1=some (RB1 r)/\e.get 3=.one (.ro (T (m++nlT ((r.steps.map (ln1 za0)).take i))))/\e.get 9=.one (.ro (N i)))
  ?_ r.steps.length _ ⟨0,rfl,Nat.zero_le _,by simp[hsz],by simp[e1],by simp[b1],by simp[e3,nlT],by simp⟩
 clear hsz e1 b1 e3;rintro k e ⟨i,rfl,hi,hsz,e1,b1,e3,ei⟩ ih;rcases Nat.lt_or_ge i r.steps.length with hlt|hge
 ·have hwi:IntKind.i64.wrap ((i:Int)+1)=((i+1:Nat):Int):=zae (by omega)
  have htk:=zc1 (f:=ln1 za0) hlt;have hle:=zbi (r.steps.map (ln1 za0)) (i+1);have hM2:m++nlT ((r.steps.map (ln1 za0)).take (i+1))=(m++nlT ((r.steps.map (ln1 za0)).take i))++((ln1 za0) r.steps[i]++[10]):=by rw[htk,List.append_assoc]
  have hlen:(m++nlT ((r.steps.map (ln1 za0)).take (i+1))).length<=900000:=by rw[List.length_append];omega
  generalize m++nlT ((r.steps.map (ln1 za0)).take i)=M1 at *;have hl2:=congrArg List.length hM2;simp only[List.length_append,List.length_singleton,zg4]at hl2 hlen;have z0:M1.length+5<=zai:=by unfold zai;omega
  have z1:M1.length+5+r.steps[i].length<=zai:=by unfold zai;omega
  have z2:M1.length+(r.steps[i].length+1+1+1+1+1)+1<=zai:=by unfold zai;omega
  simp[hsz,e1,b1,e3,ei,hlt,hwi,z0,z1,z2];exact ih _ _ (by omega) ⟨i+1,rfl,by omega,by simp[hsz],by simp[e1],by simp[b1],by rw[hM2];simp[ln1,ln2,lnN],by simp⟩
 ·obtain rfl:i=r.steps.length:=by omega
  rw[List.take_of_length_le (by simp)]at e3
  simp[hsz,e1,b1,ei,-zvq];simp[hsz,e3,zvq]
theorem z7j(r:Rc)(h:RcSz r)(m:List UInt8)(e:Env)(hm:m.length+(nlT (r.pcs.map (ln2 kwPc)++(r.steps.map (ln1 za0)))).length<=900000)(hsz:e.size=144)(e1:e.get 1=.one (.ptr 1 0))(b1:e.box 1=some (RB1 r))(e3:e.get 3=.one (.ro (T m))):
 Run cx q61c14 e [.fn [(.tmp 2,9)] []]=some (.one (.ro (T (m++nlT (r.pcs.map (ln2 kwPc)++(r.steps.map (ln1 za0)))))),[]):=by
 have hw:=h.pcs;rw[zbu]at hm ⊢;rw[List.length_append]at hm;simp[hsz,-z2d]
 refine zak (λk e=> ∃i,k=r.pcs.length-i/\i<=r.pcs.length/\e.size=144/\e.get 1=.one (.ptr 1 0)/\e.box 1=some (RB1 r)/\e.get 3=.one (.ro (T (m++nlT ((r.pcs.map (ln2 kwPc)).take i))))/\e.get 8=.one (.ro (N i)))
  ?_ r.pcs.length _ ⟨0,rfl,Nat.zero_le _,by simp[hsz],by simp[e1],by simp[b1],by simp[e3,nlT],by simp⟩
 clear hsz e1 b1 e3;rintro k e ⟨i,rfl,hi,hsz,e1,b1,e3,ei⟩ ih;rcases Nat.lt_or_ge i r.pcs.length with hlt|hge
 ·have hwi:IntKind.i64.wrap ((i:Int)+1)=((i+1:Nat):Int):=zae (by omega)
  have htk:=zc1 (f:=ln2 kwPc) hlt;have hle:=zbi (r.pcs.map (ln2 kwPc)) (i+1);have hM2:m++nlT ((r.pcs.map (ln2 kwPc)).take (i+1))=(m++nlT ((r.pcs.map (ln2 kwPc)).take i))++((ln2 kwPc) r.pcs[i]++[10]):=by rw[htk,List.append_assoc]
  have hlen:(m++nlT ((r.pcs.map (ln2 kwPc)).take (i+1))).length<=900000:=by rw[List.length_append];omega
  generalize m++nlT ((r.pcs.map (ln2 kwPc)).take i)=M1 at *;have hl2:=congrArg List.length hM2;simp only[List.length_append,List.length_singleton,zlr]at hl2 hlen;have z0:M1.length+6<=zai:=by unfold zai;omega
  have z1:M1.length+6+r.pcs[i].1.length<=zai:=by unfold zai;omega
  have z2:M1.length+(r.pcs[i].1.length+1+1+1+1+1+1)+1<=zai:=by unfold zai;omega
  have z3:M1.length+(r.pcs[i].1.length+1+1+1+1+1+1+1)+r.pcs[i].2.length<=zai:=by unfold zai;omega
  have z4:M1.length+(r.pcs[i].1.length+(r.pcs[i].2.length+1)+1+1+1+1+1+1)+1<=zai:=by unfold zai;omega
  have z5:M1.length+(r.pcs[i].1.length+6)<=zai:=by unfold zai;omega
  have z6:M1.length+(r.pcs[i].1.length+1+1+1+1+1+1+1)+r.pcs[i].2.length<=zai:=by unfold zai;omega
  simp[hsz,e1,b1,e3,ei,hlt,hwi,z0,z1,z2,z3,z4,z5,z6];exact ih _ _ (by omega) ⟨i+1,rfl,by omega,by simp[hsz],by simp[e1],by simp[b1],by rw[hM2];simp[ln1,ln2,lnN],by simp⟩
 ·obtain rfl:i=r.pcs.length:=by omega
  rw[List.take_of_length_le (by simp)]at e3
  simp[hsz,e1,b1,ei,-z2d];have:=z7i r h (m++nlT (r.pcs.map (ln2 kwPc)));rw[List.append_assoc]at this;exact this _ (by rw[List.length_append];omega) (by simp[hsz]) (by simp[e1]) (by simp[b1]) (by simp[e3])
theorem z7k(r:Rc)(h:RcSz r)(m:List UInt8)(e:Env)(hm:m.length+(nlT (r.srcs.map (ln2 zb3)++(r.pcs.map (ln2 kwPc)++(r.steps.map (ln1 za0))))).length<=900000)(hsz:e.size=144)(e1:e.get 1=.one (.ptr 1 0))(b1:e.box 1=some (RB1 r))(e3:e.get 3=.one (.ro (T m))):
 Run cx q61c15 e [.fn [(.tmp 2,9)] []]=some (.one (.ro (T (m++nlT (r.srcs.map (ln2 zb3)++(r.pcs.map (ln2 kwPc)++(r.steps.map (ln1 za0))))))),[]):=by
 have hw:=h.srcs;rw[zbu]at hm ⊢;rw[List.length_append]at hm;simp[hsz,-z2e]
 refine zak (λk e=> ∃i,k=r.srcs.length-i/\i<=r.srcs.length/\e.size=144/\e.get 1=.one (.ptr 1 0)/\e.box 1=some (RB1 r)/\e.get 3=.one (.ro (T (m++nlT ((r.srcs.map (ln2 zb3)).take i))))/\e.get 7=.one (.ro (N i)))
  ?_ r.srcs.length _ ⟨0,rfl,Nat.zero_le _,by simp[hsz],by simp[e1],by simp[b1],by simp[e3,nlT],by simp⟩
 clear hsz e1 b1 e3;rintro k e ⟨i,rfl,hi,hsz,e1,b1,e3,ei⟩ ih;rcases Nat.lt_or_ge i r.srcs.length with hlt|hge
 ·have hwi:IntKind.i64.wrap ((i:Int)+1)=((i+1:Nat):Int):=zae (by omega)
  have htk:=zc1 (f:=ln2 zb3) hlt;have hle:=zbi (r.srcs.map (ln2 zb3)) (i+1);have hM2:m++nlT ((r.srcs.map (ln2 zb3)).take (i+1))=(m++nlT ((r.srcs.map (ln2 zb3)).take i))++((ln2 zb3) r.srcs[i]++[10]):=by rw[htk,List.append_assoc]
  have hlen:(m++nlT ((r.srcs.map (ln2 zb3)).take (i+1))).length<=900000:=by rw[List.length_append];omega
  generalize m++nlT ((r.srcs.map (ln2 zb3)).take i)=M1 at *;have hl2:=congrArg List.length hM2;simp only[List.length_append,List.length_singleton,zlr]at hl2 hlen;have z0:M1.length+7<=zai:=by unfold zai;omega
  have z1:M1.length+7+r.srcs[i].1.length<=zai:=by unfold zai;omega
  have z2:M1.length+(r.srcs[i].1.length+1+1+1+1+1+1+1)+1<=zai:=by unfold zai;omega
  have z3:M1.length+(r.srcs[i].1.length+1+1+1+1+1+1+1+1)+r.srcs[i].2.length<=zai:=by unfold zai;omega
  have z4:M1.length+(r.srcs[i].1.length+(r.srcs[i].2.length+1)+1+1+1+1+1+1+1)+1<=zai:=by unfold zai;omega
  have z5:M1.length+(r.srcs[i].1.length+7)<=zai:=by unfold zai;omega
  have z6:M1.length+(r.srcs[i].1.length+1+1+1+1+1+1+1+1)+r.srcs[i].2.length<=zai:=by unfold zai;omega
  simp[hsz,e1,b1,e3,ei,hlt,hwi,z0,z1,z2,z3,z4,z5,z6];exact ih _ _ (by omega) ⟨i+1,rfl,by omega,by simp[hsz],by simp[e1],by simp[b1],by rw[hM2];simp[ln1,ln2,lnN],by simp⟩
 ·obtain rfl:i=r.srcs.length:=by omega
  rw[List.take_of_length_le (by simp)]at e3
  simp[hsz,e1,b1,ei,-z2e];have:=z7j r h (m++nlT (r.srcs.map (ln2 zb3)));rw[List.append_assoc]at this;exact this _ (by rw[List.length_append];omega) (by simp[hsz]) (by simp[e1]) (by simp[b1]) (by simp[e3])
theorem z7l(r:Rc)(h:RcSz r)(m:List UInt8)(e:Env)(hm:m.length+(nlT (r.runs.map (lnN zca)++(r.srcs.map (ln2 zb3)++(r.pcs.map (ln2 kwPc)++(r.steps.map (ln1 za0)))))).length<=900000)(hsz:e.size=144)(e1:e.get 1=.one (.ptr 1 0))(b1:e.box 1=some (RB1 r))(e3:e.get 3=.one (.ro (T m))):
 Run cx q61c16 e [.fn [(.tmp 2,9)] []]=some (.one (.ro (T (m++nlT (r.runs.map (lnN zca)++(r.srcs.map (ln2 zb3)++(r.pcs.map (ln2 kwPc)++(r.steps.map (ln1 za0)))))))),[]):=by
 have hw:=h.runs;rw[zbu]at hm ⊢;rw[List.length_append]at hm;simp[hsz,-z2f]
 refine zak (λk e=> ∃i,k=r.runs.length-i/\i<=r.runs.length/\e.size=144/\e.get 1=.one (.ptr 1 0)/\e.box 1=some (RB1 r)/\e.get 3=.one (.ro (T (m++nlT ((r.runs.map (lnN zca)).take i))))/\e.get 6=.one (.ro (N i)))
  ?_ r.runs.length _ ⟨0,rfl,Nat.zero_le _,by simp[hsz],by simp[e1],by simp[b1],by simp[e3,nlT],by simp⟩
 clear hsz e1 b1 e3;rintro k e ⟨i,rfl,hi,hsz,e1,b1,e3,ei⟩ ih;rcases Nat.lt_or_ge i r.runs.length with hlt|hge
 ·have hwi:IntKind.i64.wrap ((i:Int)+1)=((i+1:Nat):Int):=zae (by omega)
  have htk:=zc1 (f:=lnN zca) hlt;have hle:=zbi (r.runs.map (lnN zca)) (i+1);have hM2:m++nlT ((r.runs.map (lnN zca)).take (i+1))=(m++nlT ((r.runs.map (lnN zca)).take i))++((lnN zca) r.runs[i]++[10]):=by rw[htk,List.append_assoc]
  have hlen:(m++nlT ((r.runs.map (lnN zca)).take (i+1))).length<=900000:=by rw[List.length_append];omega
  generalize m++nlT ((r.runs.map (lnN zca)).take i)=M1 at *;have hl2:=congrArg List.length hM2;simp only[List.length_append,List.length_singleton,lnN,zg4]at hl2 hlen;have hnd:=zre r.runs[i] (h.run _ (List.getElem_mem hlt));have z0:M1.length+4<=zai:=by unfold zai;omega
  have z1:M1.length+4+(zdj r.runs[i]).length<=zai:=by unfold zai;omega
  have z2:M1.length+((zdj r.runs[i]).length+1+1+1+1)+1<=zai:=by unfold zai;omega
  simp[hsz,e1,b1,e3,ei,hlt,hwi,hnd,z0,z1,z2];exact ih _ _ (by omega) ⟨i+1,rfl,by omega,by simp[hsz],by simp[e1],by simp[b1],by rw[hM2];simp[ln1,ln2,lnN],by simp⟩
 ·obtain rfl:i=r.runs.length:=by omega
  rw[List.take_of_length_le (by simp)]at e3
  simp[hsz,e1,b1,ei,-z2f];have:=z7k r h (m++nlT (r.runs.map (lnN zca)));rw[List.append_assoc]at this;exact this _ (by rw[List.length_append];omega) (by simp[hsz]) (by simp[e1]) (by simp[b1]) (by simp[e3])
theorem z7m(r:Rc)(h:RcSz r)(m:List UInt8)(e:Env)(hm:m.length+(nlT (r.builds.map (lnN za3)++(r.runs.map (lnN zca)++(r.srcs.map (ln2 zb3)++(r.pcs.map (ln2 kwPc)++(r.steps.map (ln1 za0))))))).length<=900000)(hsz:e.size=144)(e1:e.get 1=.one (.ptr 1 0))(b1:e.box 1=some (RB1 r))(e3:e.get 3=.one (.ro (T m))):
 Run cx q61c17 e [.fn [(.tmp 2,9)] []]=some (.one (.ro (T (m++nlT (r.builds.map (lnN za3)++(r.runs.map (lnN zca)++(r.srcs.map (ln2 zb3)++(r.pcs.map (ln2 kwPc)++(r.steps.map (ln1 za0))))))))),[]):=by
 have hw:=h.builds;rw[zbu]at hm ⊢;rw[List.length_append]at hm;simp[hsz,-z2g]
 refine zak (λk e=> ∃i,k=r.builds.length-i/\i<=r.builds.length/\e.size=144/\e.get 1=.one (.ptr 1 0)/\e.box 1=some (RB1 r)/\e.get 3=.one (.ro (T (m++nlT ((r.builds.map (lnN za3)).take i))))/\e.get 5=.one (.ro (N i)))
  ?_ r.builds.length _ ⟨0,rfl,Nat.zero_le _,by simp[hsz],by simp[e1],by simp[b1],by simp[e3,nlT],by simp⟩
 clear hsz e1 b1 e3;rintro k e ⟨i,rfl,hi,hsz,e1,b1,e3,ei⟩ ih;rcases Nat.lt_or_ge i r.builds.length with hlt|hge
 ·have hwi:IntKind.i64.wrap ((i:Int)+1)=((i+1:Nat):Int):=zae (by omega)
  have htk:=zc1 (f:=lnN za3) hlt;have hle:=zbi (r.builds.map (lnN za3)) (i+1);have hM2:m++nlT ((r.builds.map (lnN za3)).take (i+1))=(m++nlT ((r.builds.map (lnN za3)).take i))++((lnN za3) r.builds[i]++[10]):=by rw[htk,List.append_assoc]
  have hlen:(m++nlT ((r.builds.map (lnN za3)).take (i+1))).length<=900000:=by rw[List.length_append];omega
  generalize m++nlT ((r.builds.map (lnN za3)).take i)=M1 at *;have hl2:=congrArg List.length hM2;simp only[List.length_append,List.length_singleton,lnN,zg4]at hl2 hlen;have hnd:=zre r.builds[i] (h.bld _ (List.getElem_mem hlt));have z0:M1.length+6<=zai:=by unfold zai;omega
  have z1:M1.length+6+(zdj r.builds[i]).length<=zai:=by unfold zai;omega
  have z2:M1.length+((zdj r.builds[i]).length+1+1+1+1+1+1)+1<=zai:=by unfold zai;omega
  simp[hsz,e1,b1,e3,ei,hlt,hwi,hnd,z0,z1,z2];exact ih _ _ (by omega) ⟨i+1,rfl,by omega,by simp[hsz],by simp[e1],by simp[b1],by rw[hM2];simp[ln1,ln2,lnN],by simp⟩
 ·obtain rfl:i=r.builds.length:=by omega
  rw[List.take_of_length_le (by simp)]at e3
  simp[hsz,e1,b1,ei,-z2g];have:=z7l r h (m++nlT (r.builds.map (lnN za3)));rw[List.append_assoc]at this;exact this _ (by rw[List.length_append];omega) (by simp[hsz]) (by simp[e1]) (by simp[b1]) (by simp[e3])
set_option maxHeartbeats 1000000 in
theorem zx1(r:Rc)(h:RcSz r)(hm:(putR r).length<=900000):C Fn61 [.ro (RcD r)] []=some (.one (.ro (T (putR r))),[]):=by
 refine zaf Tryz.func61 Cv61 rfl ?_;have hw:=h.lets;have h1:=h.name;have h2:=h.ver
 have hP:putR r=(ln1 kwName r.name++[10])++(ln1 kwVer r.ver++[10])++(nlT (r.lets.map (ln2 zdm))++nlT (r.builds.map (lnN za3)++(r.runs.map (lnN zca)++(r.srcs.map (ln2 zb3)++(r.pcs.map (ln2 kwPc)++(r.steps.map (ln1 za0))))))):=by
  unfold putR zea;rw[zg1,zg1,zbu];simp
 rw[hP]at hm ⊢;obtain⟨m,hmm⟩:∃m,m=(ln1 kwName r.name++[10])++(ln1 kwVer r.ver++[10]):=⟨_,rfl⟩;rw[<-hmm]at hm ⊢;simp only[List.length_append]at hm;have z1:5+r.name.length<=zai:=by unfold zai;omega
 have z2:r.name.length+1+1+1+1+1+9<=zai:=by unfold zai;omega
 have z3:r.name.length+9+1+1+1+1+1+r.ver.length<=zai:=by unfold zai;omega
 have z4:r.name.length+(r.ver.length+1+1+1+1+1+1+1+1+1)+1+1+1+1+1+1<=zai:=by unfold zai;omega
 simp[z1,z2,z3,z4,-z2h]
 refine zak (λk e=> ∃i,k=r.lets.length-i/\i<=r.lets.length/\e.size=144/\e.get 1=.one (.ptr 1 0)/\e.box 1=some (RB1 r)/\e.get 3=.one (.ro (T (m++nlT ((r.lets.map (ln2 zdm)).take i))))/\e.get 4=.one (.ro (N i)))
  ?_ r.lets.length _ ⟨0,rfl,Nat.zero_le _,by simp,by simp,by simp,by rw[hmm];simp[nlT,ln1],by simp⟩
 rintro k e ⟨i,rfl,hi,hsz,e1,b1,e3,ei⟩ ih;rcases Nat.lt_or_ge i r.lets.length with hlt|hge
 ·have hwi:IntKind.i64.wrap ((i:Int)+1)=((i+1:Nat):Int):=zae (by omega)
  have htk:=zc1 (f:=ln2 zdm) hlt;have hle:=zbi (r.lets.map (ln2 zdm)) (i+1);have hM2:m++nlT ((r.lets.map (ln2 zdm)).take (i+1))=(m++nlT ((r.lets.map (ln2 zdm)).take i))++((ln2 zdm) r.lets[i]++[10]):=by rw[htk,List.append_assoc]
  have hlen:(m++nlT ((r.lets.map (ln2 zdm)).take (i+1))).length<=900000:=by rw[List.length_append];omega
  generalize m++nlT ((r.lets.map (ln2 zdm)).take i)=M1 at *;have hl2:=congrArg List.length hM2;simp only[List.length_append,List.length_singleton,zlr]at hl2 hlen;have z0:M1.length+4<=zai:=by unfold zai;omega
  have z1:M1.length+4+r.lets[i].1.length<=zai:=by unfold zai;omega
  have z2:M1.length+(r.lets[i].1.length+1+1+1+1)+1<=zai:=by unfold zai;omega
  have z3:M1.length+(r.lets[i].1.length+1+1+1+1+1)+r.lets[i].2.length<=zai:=by unfold zai;omega
  have z4:M1.length+(r.lets[i].1.length+(r.lets[i].2.length+1)+1+1+1+1)+1<=zai:=by unfold zai;omega
  have z5:M1.length+(r.lets[i].1.length+4)<=zai:=by unfold zai;omega
  have z6:M1.length+(r.lets[i].1.length+1+1+1+1+1)+r.lets[i].2.length<=zai:=by unfold zai;omega
  simp[hsz,e1,b1,e3,ei,hlt,hwi,z0,z1,z2,z3,z4,z5,z6];exact ih _ _ (by omega) ⟨i+1,rfl,by omega,by simp[hsz],by simp[e1],by simp[b1],by rw[hM2];simp[ln1,ln2,lnN],by simp⟩
 ·obtain rfl:i=r.lets.length:=by omega
  rw[List.take_of_length_le (by simp)]at e3
  simp[hsz,e1,b1,ei,-z2h];have:=z7m r h (m++nlT (r.lets.map (ln2 zdm)));rw[List.append_assoc]at this;exact this _ (by rw[List.length_append];omega) (by simp[hsz]) (by simp[e1]) (by simp[b1]) (by simp[e3])
theorem zkv(r:Rc)(h:RcSz r):C Fn25 [.ro (RcD r)] []=some (.one (.ro (T (zcv r))),[]):=by
 refine zaf Tryz.func25 Cv25 rfl ?_;have h1:=zh8 r h;unfold zcv;by_cases hc:zb9 r=0
 ·rw[if_pos hc];rw[hc]at h1;have hp:=zx1 r h (by have:=zkt (zh5 (zdc hc).1);omega)
  simp[h1,hp]
 ·rw[if_neg hc];have hc':(zb9 r==0)=false:=by simpa using hc
  generalize zb9 r=c at *;simp[h1,hc']
end Go.Qz
namespace Go.Qz
open Go.Proofs
theorem RcSm.sz{r:Rc}{n:Nat}(h:RcSm r n)(hn:n<=100):RcSz r where
 name:=by have:=h.name;omega
 ver:=by have:=h.ver;omega
 lets:=by have:=h.lets.1;omega
 builds:=by have:=h.builds.1;omega
 runs:=by have:=h.runs.1;omega
 srcs:=by have:=h.srcs.1;omega
 pcs:=by have:=h.pcs.1;omega
 steps:=by have:=h.steps.1;omega
 letz:=λf hf=>⟨by have:=(h.lets.2 f hf).1;omega,by have:=(h.lets.2 f hf).2;omega⟩
 bld:=λf hf=>⟨by have:=(h.builds.2 f hf).1;omega,by have:=(h.builds.2 f hf).2;omega⟩
 run:=λf hf=>⟨by have:=(h.runs.2 f hf).1;omega,by have:=(h.runs.2 f hf).2;omega⟩
 src:=λf hf=>⟨by have:=(h.srcs.2 f hf).1;omega,by have:=(h.srcs.2 f hf).2;omega⟩
 pc:=λf hf=>⟨by have:=(h.pcs.2 f hf).1;omega,by have:=(h.pcs.2 f hf).2;omega⟩
 step:=λx hx=>by have:=h.steps.2 x hx;omega
end Go.Qz
namespace Go.Qz
open Go.Proofs
theorem zme(xs:List Ne)(hn:xs.length<=1048576):C Fn76 [.ro (NeS xs),.ro (NeS xs)] []=some (.one (.ro (.bool true)),[]):=by
 refine zaf Tryz.func76 Cv76 rfl ?_;simp
 refine zak (λm e=> ∃i,m=xs.length-i/\i<=xs.length/\e.size=26/\e.get 0=.one (.ro (NeS xs))/\e.get 1=.one (.ro (NeS xs))/\e.get 5=.one (.ro (N i)))
  ?_ xs.length _ ⟨0,rfl,Nat.zero_le _,by simp,by simp,by simp,by simp⟩
 rintro m e ⟨i,rfl,hi,hsz,h0,h1,h5⟩ ih;rcases Nat.lt_or_ge i xs.length with hlt|hge
 ·have hwi:IntKind.i64.wrap ((i:Int)+1)=((i+1:Nat):Int):=zae (by omega)
  simp[hsz,h0,h1,h5,hlt,hwi];exact ih _ _ (by omega) ⟨i+1,rfl,by omega,by simp[hsz],by simp[h0],by simp[h1],by simp⟩
 ·obtain rfl:i=xs.length:=by omega
  simp[hsz,h0,h5]
set_option maxHeartbeats 1000000 in
theorem zkw(r:Rc)(h:RcSz r):C Fn31 [.ro (RcD r),.ro (RcD r)] []=some (.one (.ro (.bool true)),[]):=by
 refine zaf Tryz.func31 Cv31 rfl ?_;have h1:=zme r.builds h.builds;have h2:=zme r.runs h.runs;have h3:=ztx r.steps h.steps;have l1:=h.lets;have l2:=h.srcs;have l3:=h.pcs
 have go3:∀e:Env,e.size=123->e.get 2=.one (.ptr 2 0)->e.box 2=some (RB1 r)->e.get 3=.one (.ptr 3 0)->e.box 3=some (RB1 r)->Run cx q31c7 e [.fn [(.tmp 4,4)] []]=some (.one (.ro (.bool true)),[]):=by
  intro e hsz e2 b2 e3 b3;simp[hsz]
  refine zak (λm e=> ∃i,m=r.pcs.length-i/\i<=r.pcs.length/\e.size=123/\e.get 2=.one (.ptr 2 0)/\e.box 2=some (RB1 r)/\e.get 3=.one (.ptr 3 0)/\e.box 3=some (RB1 r)/\e.get 7=.one (.ro (N i)))
   ?_ r.pcs.length _ ⟨0,rfl,Nat.zero_le _,by simp[hsz],by simp[e2],by simp[b2],by simp[e3],by simp[b3],by simp⟩
  clear hsz e2 b2 e3 b3;rintro m e ⟨i,rfl,hi,hsz,e2,b2,e3,b3,e7⟩ ih;rcases Nat.lt_or_ge i r.pcs.length with hlt|hge
  ·have hwi:IntKind.i64.wrap ((i:Int)+1)=((i+1:Nat):Int):=zae (by omega)
   simp[hsz,e2,b2,e3,b3,e7,hlt,hwi];exact ih _ _ (by omega) ⟨i+1,rfl,by omega,by simp[hsz],by simp[e2],by simp[b2],by simp[e3],by simp[b3],by simp⟩
  ·obtain rfl:i=r.pcs.length:=by omega
   simp[hsz,e2,b2,e7]
 have go2:∀e:Env,e.size=123->e.get 2=.one (.ptr 2 0)->e.box 2=some (RB1 r)->e.get 3=.one (.ptr 3 0)->e.box 3=some (RB1 r)->Run cx q31c8 e [.fn [(.tmp 4,4)] []]=some (.one (.ro (.bool true)),[]):=by
  intro e hsz e2 b2 e3 b3;simp[hsz,-z8a]
  refine zak (λm e=> ∃i,m=r.srcs.length-i/\i<=r.srcs.length/\e.size=123/\e.get 2=.one (.ptr 2 0)/\e.box 2=some (RB1 r)/\e.get 3=.one (.ptr 3 0)/\e.box 3=some (RB1 r)/\e.get 6=.one (.ro (N i)))
   ?_ r.srcs.length _ ⟨0,rfl,Nat.zero_le _,by simp[hsz],by simp[e2],by simp[b2],by simp[e3],by simp[b3],by simp⟩
  clear hsz e2 b2 e3 b3;rintro m e ⟨i,rfl,hi,hsz,e2,b2,e3,b3,e7⟩ ih;rcases Nat.lt_or_ge i r.srcs.length with hlt|hge
  ·have hwi:IntKind.i64.wrap ((i:Int)+1)=((i+1:Nat):Int):=zae (by omega)
   simp[hsz,e2,b2,e3,b3,e7,hlt,hwi];exact ih _ _ (by omega) ⟨i+1,rfl,by omega,by simp[hsz],by simp[e2],by simp[b2],by simp[e3],by simp[b3],by simp⟩
  ·obtain rfl:i=r.srcs.length:=by omega
   simp[hsz,e2,b2,e7,-z8a];exact go3 _ (by simp[hsz]) (by simp[e2]) (by simp[b2]) (by simp[e3]) (by simp[b3])
 have go1:∀e:Env,e.size=123->e.get 2=.one (.ptr 2 0)->e.box 2=some (RB1 r)->e.get 3=.one (.ptr 3 0)->e.box 3=some (RB1 r)->Run cx q31c9 e [.fn [(.tmp 4,4)] []]=some (.one (.ro (.bool true)),[]):=by
  intro e hsz e2 b2 e3 b3;simp[hsz,-z8b]
  refine zak (λm e=> ∃i,m=r.lets.length-i/\i<=r.lets.length/\e.size=123/\e.get 2=.one (.ptr 2 0)/\e.box 2=some (RB1 r)/\e.get 3=.one (.ptr 3 0)/\e.box 3=some (RB1 r)/\e.get 5=.one (.ro (N i)))
   ?_ r.lets.length _ ⟨0,rfl,Nat.zero_le _,by simp[hsz],by simp[e2],by simp[b2],by simp[e3],by simp[b3],by simp⟩
  clear hsz e2 b2 e3 b3;rintro m e ⟨i,rfl,hi,hsz,e2,b2,e3,b3,e7⟩ ih;rcases Nat.lt_or_ge i r.lets.length with hlt|hge
  ·have hwi:IntKind.i64.wrap ((i:Int)+1)=((i+1:Nat):Int):=zae (by omega)
   simp[hsz,e2,b2,e3,b3,e7,hlt,hwi];exact ih _ _ (by omega) ⟨i+1,rfl,by omega,by simp[hsz],by simp[e2],by simp[b2],by simp[e3],by simp[b3],by simp⟩
  ·obtain rfl:i=r.lets.length:=by omega
   simp[hsz,e2,b2,e7,-z8b];exact go2 _ (by simp[hsz]) (by simp[e2]) (by simp[b2]) (by simp[e3]) (by simp[b3])
 simp[h1,h2,h3,-ydl];exact go1 _ (by simp) (by simp) (by simp) (by simp) (by simp)
def yel(bs:List Int)(i:Nat)(y:V×zar):Prop:=∃(x:List UInt8) (j:Nat),x.length<=5001/\j<=i+3/\y=(.one (.ro (T x)),[(5000,RB bs j)])
section
variable{bs:List Int}(hb:Seed bs){i:Nat}
include hb
theorem yaj(s:List UInt8)(hs:s.length<=5000)(hi:i<=10000):∃(x:List UInt8) (j:Nat),x.length<=5001/\j<=i+3/\C Fn77 [.ptr 5000 0,.ro (T s)] [(5000,RB bs i)]=some (.one (.ro (T x)),[(5000,RB bs j)]):=by
 have h:Ends (yel bs i) (C Fn77 [.ptr 5000 0,.ro (T s)] [(5000,RB bs i)]):=by
  refine zcu Tryz.func77 Cv77 rfl ?_;obtain⟨k,j1,hk,hj1,c1⟩:=zbk hb (i:=i) (by omega) (s.length+1) ((s.length:Int)+1) (by omega) (by omega) (by omega)
  obtain⟨q,j2,hq,hj2,c2⟩:=zbk hb (i:=j1) (by omega) 5 5 rfl (by omega) (by omega)
  have hwl:IntKind.i64.wrap ((s.length:Int)+1)=((s.length+1:Nat):Int):=zae (by omega)
  have hkl:(k:Int)<=(s.length:Int):=by omega
  by_cases q0:q=0
  ·subst q0;obtain⟨x,j3,hx,hj3,c3⟩:=zb0 hb (i:=j2) (by omega) [[32],[10],[48],[120],[47],[45]] (by simp) (by simp)
   simp only[List.map_cons,List.map_nil]at c3
   have hxl:x.length=1:=by
    clear c3;revert x;decide
   have z1:min k s.length+x.length<=zai:=by unfold zai;omega
   have z2:min k s.length+(x.length+(s.length-k))<=zai:=by unfold zai;omega
   have z3:min k s.length+x.length+(s.length-k)<=zai:=by unfold zai;omega
   simp[hwl,c1,c2,c3,hkl,z1,z2,z3];exact .of ⟨s.take k++(x++s.drop k),j3,by simp;omega,by omega,by simp⟩
  by_cases q1:q=1
  ·subst q1;simp[hwl,c1,c2,hkl];exact .of ⟨s.take k,j2,by simp;omega,by omega,by simp⟩
  have b0:(q==0)=false:=by simpa using q0
  have b1:(q==1)=false:=by simpa using q1
  simp[hwl,c1,c2,b0,b1];exact .of ⟨s,j2,by omega,by omega,by simp⟩
 obtain⟨_,⟨x,j,h1,h2,rfl⟩,h3⟩:=h;exact⟨x,j,h1,h2,h3⟩
end
theorem zmi(bs:List Int)(hb:∀b∈bs,0<=b/\b<=255):∃r:Rc,RcSm r 13/\C Fn30 [.ro (BS bs)] []=some (.one (.own (RcD r)),[]):=by
 have h:Ends (λx=> ∃r:Rc,RcSm r 13/\x=(.one (.own (RcD r)),[])) (C Fn30 [.ro (BS bs)] []):=by
  refine zcu Tryz.func30 Cv30 rfl ?_;have hs:=zte hb;have ho:=z2u (bs.map (D.int .u8));rw[<-List.map_take]at ho;generalize bs.take 2000=ts at *;obtain⟨_,⟨r,j,hr,hj,rfl⟩,hl⟩:=zq8 hs (i:=0) (by omega)
  have hl:C Fn33 [.ptr 5000 0] [(5000,[.ro (BS ts),.ro (.int .i64 0)])]=some (.one (.own (RcD r)),[(5000,RB ts j)]):=hl;simp[ho,hl];exact .of ⟨r,hr,by simp⟩
 obtain⟨_,⟨r,h1,rfl⟩,h2⟩:=h;exact⟨r,h1,h2⟩
theorem zmj(bs:List Int)(hb:∀b∈bs,0<=b/\b<=255):∃x:List UInt8,x.length<=5001/\C Fn32 [.ro (BS bs)] []=some (.one (.ro (T x)),[]):=by
 have h:Ends (λy=> ∃x:List UInt8,x.length<=5001/\y=(.one (.ro (T x)),[])) (C Fn32 [.ro (BS bs)] []):=by
  refine zcu Tryz.func32 Cv32 rfl ?_;have hs:=zte hb;have ho:=z2u (bs.map (D.int .u8));rw[<-List.map_take]at ho;generalize bs.take 2000=ts at *;obtain⟨_,⟨r,j,hr,hj,rfl⟩,hl⟩:=zp0 hs [111,110,101] (by simp) (i:=0) (by omega)
  have hl:C Fn78 [.ptr 5000 0,.ro (T [111,110,101])] [(5000,[.ro (BS ts),.ro (.int .i64 0)])]=some (.one (.own (RcD r)),[(5000,RB ts j)]):=hl;have hput:=zkv r (hr.sz (by omega))
  have hpl:(zcv r).length<=5000:=by
   unfold zcv;split
   ·rename_i h0;have:=zkt (zh5 (zdc h0).1);omega
   ·simp
  obtain⟨x,j2,hx,hj2,hc⟩:=yaj hs (zcv r) hpl (i:=j) (by omega)
  generalize zcv r=p at *;simp[ho,hl,hput,hc];exact .of ⟨x,hx,by simp⟩
 obtain⟨_,⟨x,h1,rfl⟩,h2⟩:=h;exact⟨x,h1,h2⟩
end Go.Qz
namespace Go.Qz
open Go.Proofs
theorem z4e:∀t:List UInt8,(zfs t=[]/\zgh t=t/\Lib.indexAny t [61,60,62]= -1)∨ ∃c v,zfs t=c::v/\zhe c=true/\t=zgh t++c::v/\Lib.indexAny t [61,60,62]=(zgh t).length
 | []=>.inl ⟨rfl,rfl,rfl⟩
 |b::l=>by
  have hcon:[61,60,62].contains b=zhe b:=by
   unfold zhe;rw[Bool.eq_iff_iff];simp[or_assoc]
  unfold Lib.indexAny;rw[hcon]
  cases hb:zhe b with
  |true=>exact .inr ⟨b,l,by simp[zfs,hb],hb,by simp[zgh,hb],by simp[zgh,hb]⟩
  |false=>
   have e1:zgh (b::l)=b::zgh l:=by simp[zgh,hb]
   have e2:zfs (b::l)=zfs l:=by simp[zfs,hb]
   rcases z4e l with⟨h1,h2,h3⟩|⟨c,v,h1,h2,h3,h4⟩
   ·exact .inl ⟨by rw[e2,h1],by rw[e1,h2],by rw[h3];rfl⟩
   ·refine .inr ⟨c,v,by rw[e2,h1],h2,by rw[e1,List.cons_append,<-h3],?_⟩
    have hn:(((zgh l).length:Int)== -1)=false:=by rw[beq_eq_false_iff_ne];omega
    rw[h4,e1,hn];simp
def preB(d:List UInt8):Bool:=match d with
 |c::e::_=>c==62&&e==61
 |_=>false
theorem zzy(d:List UInt8)(hn:d.length<=1048576):C z9u [.ro (T d),.ro (T [62,61])] []=some (.one (.ro (.bool (preB d))),[]):=by
 refine zaf Tryz.func192 z9v rfl ?_
 cases d with
 |nil=>simp[preB]
 |cons c r=>
  cases r with
  |nil=>simp[preB]
  |cons e q=>
   have f2:(2:Int)<=(q.length:Int)+1+1:=by omega
   cases hc:c==62<;>cases he:e==61<;>simp[preB,f2,hc,he]
theorem z4f(d:List UInt8)(hn:d.length<=1048576):C ym2 [.ro (T d),.ro (T [62,61])] []=some (.one (.ro (.bool (preB d))),[]):=by
 refine zaf Tryz.func171 ym3 rfl ?_;simp[zzy d hn]
theorem zwv(t:List UInt8)(h:t.length<=1048576):C yko [.ro (T t)] []=some (.tup [.ro (NeD (zh7 t).1),.ro (.bool (zh7 t).2)],[]):=by
 refine zaf Tryz.func138 ykr rfl ?_;have hA:=yd7 t (by omega)
 unfold zh7 zg3;rcases z4e t with⟨h1,h2,h3⟩|⟨c,v,h1,h2,h3,h4⟩
 ·rw[h3]at hA;rw[h1,h2];have hok:=zev ⟨t,0,[]⟩ ⟨h,by simp⟩
  simp only[zbl,List.isEmpty_nil,Bool.not_true,Bool.false_and,Bool.false_eq_true,if_false];rcases Bool.eq_false_or_eq_true (za7 ⟨t,0,[]⟩)with hq|hq<;>rw[hq]at hok<;>simp[hA,hok,ne0,hq]
 ·rw[h4]at hA;rw[h1];generalize zgh t=a at *;subst h3;have hal:a.length<=1048576:=by simp at h;omega
  have hvl:v.length+1<=1048576:=by simp at h;omega
  have hpre:=z4f (c::v) (by simp;omega)
  have b1:(a.length:Int)<=(a.length:Int)+((v.length:Int)+1):=by omega
  have hdr:List.drop a.length (List.take (a.length+(v.length+1)) (a++c::v))=c::v:=by rw[List.take_of_length_le (by simp),List.drop_left]
  unfold zhe at h2;rcases(by simpa [Bool.or_eq_true]using h2:(c=61∨c=60)∨c=62)with(rfl|rfl)|rfl
  ·have hok:=zev ⟨a,1,v⟩ ⟨hal,by show v.length<=_;omega⟩
   rw[show preB (61::v)=false by cases v<;>rfl]at hpre
   simp only[zbl,beq_self_eq_true,if_true];rcases Bool.eq_false_or_eq_true (za7 ⟨a,1,v⟩)with hq|hq<;>rw[hq]at hok<;>simp[hA,hok,ne0,hpre,b1,hdr,hq]
  ·have hok:=zev ⟨a,3,v⟩ ⟨hal,by show v.length<=_;omega⟩
   rw[show preB (60::v)=false by cases v<;>rfl]at hpre
   simp only[zbl,beq_self_eq_true,if_true,show ((60:UInt8)==61)=false from rfl,Bool.false_eq_true,if_false]
   rcases Bool.eq_false_or_eq_true (za7 ⟨a,3,v⟩)with hq|hq<;>rw[hq]at hok<;>simp[hA,hok,ne0,hpre,b1,hdr,hq]
  ·simp only[zbl,show ((62:UInt8)==61)=false from rfl,show ((62:UInt8)==60)=false from rfl,Bool.false_eq_true,if_false]
   cases v with
   |nil=>
    rw[show preB [62]=false from rfl]at hpre
    simp only[List.length_nil,Nat.zero_add]at hdr;have b3:(a.length:Int)<=(a.length:Int)+1:=by omega
    simp[hA,ne0,hpre,b3,hdr]
   |cons d u=>
    simp only[List.length_cons]at hdr;have b3:(a.length:Int)<=(a.length:Int)+((u.length:Int)+1+1):=by omega
    cases hd:d==61 with
    |true=>
     have hd':d=61:=by simpa using hd
     subst hd';have hok:=zev ⟨a,2,u⟩ ⟨hal,by show u.length<=_;simp at hvl;omega⟩
     rw[show preB (62::61::u)=true from rfl]at hpre
     have b2:(2:Int)<=(u.length:Int)+1+1:=by omega
     simp only[beq_self_eq_true,if_true];rcases Bool.eq_false_or_eq_true (za7 ⟨a,2,u⟩)with hq|hq<;>rw[hq]at hok<;>simp[hA,hok,ne0,hpre,b1,b2,b3,hdr,hq]
    |false=>
     rw[show preB (62::d::u)=false by simp[preB,hd]]at hpre
     have hd2:¬d=61:=by simpa using hd
     simp[hA,ne0,hpre,b3,hdr,hd2]
theorem z4g(rest:List UInt8)(k:Nat)(hk:1<=k)(hk3:k<=3)(hs:∀c v,rest=c::v->zhe c=true):
 ((zd1 k).length<=rest.length/\rest.take (zd1 k).length=zd1 k)↔(zbl rest).1=k:=by
 have hc3:k=1∨k=2∨k=3:=by omega
 cases rest with
 |nil=>rcases hc3 with rfl|rfl|rfl<;>simp[zd1,zbl]
 |cons c v=>
  have h2:=hs c v rfl;unfold zhe at h2;rcases(by simpa [Bool.or_eq_true]using h2:(c=61∨c=60)∨c=62)with(rfl|rfl)|rfl
  ·rcases hc3 with rfl|rfl|rfl<;>simp[zd1,zbl]
  ·rcases hc3 with rfl|rfl|rfl<;>simp[zd1,zbl]
  ·cases v with
   |nil=>rcases hc3 with rfl|rfl|rfl<;>simp[zd1,zbl]
   |cons d u=>
    cases hd:d==61<;>rcases hc3 with rfl|rfl|rfl<;>simp_all[zd1,zbl]
theorem z4h(rest:List UInt8)(k:Nat)(hk:1<=k)(hk3:k<=3)(hs:∀c v,rest=c::v->zhe c=true)(h:(zbl rest).1=k):rest.drop (zd1 k).length=(zbl rest).2:=by
 have hc3:k=1∨k=2∨k=3:=by omega
 cases rest with
 |nil=>rcases hc3 with rfl|rfl|rfl<;>simp[zd1,zbl]
 |cons c v=>
  have h2:=hs c v rfl;unfold zhe at h2;rcases(by simpa [Bool.or_eq_true]using h2:(c=61∨c=60)∨c=62)with(rfl|rfl)|rfl
  ·rcases hc3 with rfl|rfl|rfl<;>simp_all[zd1,zbl]
  ·rcases hc3 with rfl|rfl|rfl<;>simp_all[zd1,zbl]
  ·cases v with
   |nil=>rcases hc3 with rfl|rfl|rfl<;>simp_all[zd1,zbl]
   |cons d u=>
    cases hd:d==61<;>rcases hc3 with rfl|rfl|rfl<;>simp_all[zd1,zbl]
theorem z4i(rest:List UInt8):(zbl rest).1=0/\(zbl rest).2=[]∨(zbl rest).1=1∨(zbl rest).1=2∨(zbl rest).1=3:=by
 unfold zbl;split
 ·simp
 ·split
  ·simp
  ·split
   ·simp
   ·split
    ·split<;>simp
    ·simp
def okS(t:List UInt8):Bool:=za7 (zg3 t)&&(zdj (zg3 t)==t)
theorem zx2(t:List UInt8):t=zgh t++zfs t:=(List.takeWhile_append_dropWhile).symm
theorem z4j(s:List UInt8):(zbl s).2.length<=s.length:=by
 unfold zbl;split
 ·simp
 ·split
  ·simp
  ·split
   ·simp
   ·split
    ·split<;>simp<;>omega
    ·simp
theorem zrf(t:List UInt8)(h:t.length<=1048576):neSz (zg3 t):=by
 have h1:=congrArg List.length (zx2 t);rw[List.length_append]at h1;have h2:=z4j (zfs t);exact⟨by show (zgh t).length<=_;omega,by show (zbl (zfs t)).2.length<=_;omega⟩
set_option maxHeartbeats 1000000 in
theorem z7n(t:List UInt8)(h:t.length<=1048576):C ykc [.ro (T t)] []=some (.tup [.ro (NeD (zg3 t)),.ro (.bool (okS t))],[]):=by
 refine zaf Tryz.func134 ykj rfl ?_;have ht:=zx2 t;have hsz0:=zrf t h
 have hna:∀c∈zgh t,zhe c=false:=by
  intro c hc;have:=List.all_eq_true.1 (List.all_takeWhile (p:=λc=> !zhe c) (l:=t)) c hc
  simpa using this
 have hrs:∀c v,zfs t=c::v->zhe c=true:=by
  intro c v e;rcases z4e t with⟨h1,_,_⟩|⟨c',v',h1,h2,_,_⟩
  ·rw[e]at h1;cases h1
  ·rw[e]at h1;cases h1;exact h2
 obtain⟨hN,hO⟩:zg3 t=⟨zgh t,(zbl (zfs t)).1,(zbl (zfs t)).2⟩/\okS t=(za7 (zg3 t)&&(zdj (zg3 t)==t)):=⟨rfl,rfl⟩;have hok:=zps (zg3 t) hsz0;have hput:=zre (zg3 t) hsz0;rw[hO];generalize za7 (zg3 t)=b at *;generalize zdj (zg3 t)=pt at *;rw[hN]at hok hput ⊢;clear hN hO hsz0;generalize zgh t=a at *;generalize zfs t=s at *;subst ht;have hal:a.length+s.length<=1048576:=by simpa using h
 have hsn:=z4i s
 have go2:∀e:Env,e.size=75->e.get 0=.one (.ro (T (a++s)))->e.get 2=.one (.ptr 2 0)->e.box 2=some [.ro (T []),.ro (I 0),.ro (T [])]->e.get 4=.one (.ro (N a.length))->
  Run cx q134c4 e [.fn [(.cell 2 94,94),(.tmp 3,4)] []]=some (.tup [.ro (.agg [T a,I (zbl s).1,T (zbl s).2]),.ro (.bool (b&&(pt==a++s)))],[]):=by
  intro e hsz e0 e2 b2 e4;have z1:(a.length:Int)<=(a.length:Int)+(s.length:Int):=by omega
  have hdr0:List.drop a.length (List.take (a.length+s.length) (a++s))=s:=by rw[List.take_of_length_le (by simp),List.drop_left]
  simp[hsz,e0,e4,z1,hdr0]
  refine zak (λm e=> ∃k:Nat,m=4-k/\1<=k/\k<=4/\e.size=75/\e.get 0=.one (.ro (T (a++s)))/\e.get 2=.one (.ptr 2 0)/\e.box 2=some [.ro (T []),.ro (I 0),.ro (T [])]/\e.get 5=.one (.ptr 5 0)/\e.get 6=.one (.ro (T s))/\e.get 7=.one (.ro (N k))/\
   e.box 5=some (if (zbl s).1<k then [.ro (T a),.ro (I (zbl s).1),.ro (T (zbl s).2)]else [.ro (T a),.ro (I 0),.ro (T [])]))
   ?_ 3 _ ⟨1,rfl,by omega,by omega,by simp[hsz],by simp[e0],by simp[e2],by simp[b2],by simp,by simp,by simp,?_⟩
  ·rintro m e ⟨k,rfl,hk1,hk4,hsz,e0,e2,b2,e5,e6,e7,b5⟩ ih;rcases Nat.lt_or_ge k 4 with hlt|hge
   ·have hk3:k<=3:=by omega
    have hk3':(k:Int)<=3:=by omega
    have hwk:IntKind.i64.wrap ((k:Int)+1)=((k+1:Nat):Int):=zae (by omega)
    have hsg:=zuf k;have hst:=z4g s k hk1 hk3 hrs;have hdr:=z4h s k hk1 hk3 hrs;generalize zd1 (k:Int)=S at *;have hbox:∀x:Int×List UInt8,x=zbl s->(((zbl s).1=k->x=((k:Int),(zbl s).2))/\((zbl s).1≠k->True)):=λx hx=>⟨λe=>by rw[hx,<-e],λ_=>trivial⟩
    by_cases hle:S.length<=s.length
    ·have hle':(S.length:Int)<=(s.length:Int):=by omega
     by_cases hta:s.take S.length=S
     ·have hk:=hst.1 ⟨hle,hta⟩;have hd:=hdr hk;have hta':(s.take S.length==S)=true:=by simpa using hta
      have n1:¬(zbl s).1<(k:Int):=by omega
      rw[if_neg n1]at b5;simp[hsz,e5,e6,e7,b5,hk3',hwk,hsg,hle',hta'];refine ih _ _ (by omega) ⟨k+1,rfl,by omega,by omega,by simp[hsz],by simp[e0],by simp[e2],by simp[b2],by simp[e5],by simp[e6],by simp,?_⟩
      rw[if_pos (by omega)]
      simp[b5,hd,hk]
     ·have hne:(zbl s).1≠k:=λe=>hta (hst.2 e).2
      have hta':(s.take S.length==S)=false:=by simpa using hta
      simp[hsz,e5,e6,e7,hk3',hwk,hsg,hle',hta'];refine ih _ _ (by omega) ⟨k+1,rfl,by omega,by omega,by simp[hsz],by simp[e0],by simp[e2],by simp[b2],by simp[e5],by simp[e6],by simp,?_⟩
      have:((zbl s).1<((k+1:Nat):Int))↔(zbl s).1<(k:Int):=by omega
      simp only[this];simp[b5]
    ·have hne:(zbl s).1≠k:=λe=>hle (hst.2 e).1
     have hle':¬(S.length:Int)<=(s.length:Int):=by omega
     simp[hsz,e5,e6,e7,hk3',hwk,hsg,hle'];refine ih _ _ (by omega) ⟨k+1,rfl,by omega,by omega,by simp[hsz],by simp[e0],by simp[e2],by simp[b2],by simp[e5],by simp[e6],by simp,?_⟩
     have:((zbl s).1<((k+1:Nat):Int))↔(zbl s).1<(k:Int):=by omega
     simp only[this];simp[b5]
   ·obtain rfl:k=4:=by omega
    rw[if_pos (by omega)]at b5
    cases b with
    |false=>simp[hsz,e0,e2,b2,e5,e7,b5,hok]
    |true=>simp[hsz,e0,e2,b2,e5,e7,b5,hok,hput]
  ·have:((zbl s).1<((1:Nat):Int))↔(zbl s).1=0:=by omega
   simp only[this];split
   ·rename_i e0';rcases hsn with⟨h1,h2⟩|h1|h1|h1
    ·simp[h1,h2]
    ·rw[h1]at e0';cases e0'
    ·rw[h1]at e0';cases e0'
    ·rw[h1]at e0';cases e0'
   ·simp
 simp
 refine zak (λm e=> ∃i,m=a.length-i/\i<=a.length/\e.size=75/\e.get 0=.one (.ro (T (a++s)))/\e.get 2=.one (.ptr 2 0)/\e.box 2=some [.ro (T []),.ro (I 0),.ro (T [])]/\e.get 4=.one (.ro (N i)))
  ?_ a.length _ ⟨0,rfl,Nat.zero_le _,by simp,by simp,by simp,by simp,by simp⟩
 rintro m e ⟨i,rfl,hi,hsz,e0,e2,b2,e4⟩ ih;rcases Nat.lt_or_ge i a.length with hlt|hge
 ·have hwi:IntKind.i64.wrap ((i:Int)+1)=((i+1:Nat):Int):=zae (by omega)
  have hin:(i:Int)<(a.length:Int)+(s.length:Int):=by omega
  have hin2:i<a.length+s.length:=by omega
  have hx:=hna a[i] (List.getElem_mem hlt);unfold zhe at hx;simp only[Bool.or_eq_false_iff]at hx;obtain⟨⟨x1,x2⟩,x3⟩:=hx;have hget:(a++s)[i]'(by rw[List.length_append];omega)=a[i]:=List.getElem_append_left hlt
  simp[hsz,e0,e4,hin,hin2,hget,hwi,x1,x2,x3];exact ih _ _ (by omega) ⟨i+1,rfl,by omega,by simp[hsz],by simp[e0],by simp[e2],by simp[b2],by simp⟩
 ·obtain rfl:i=a.length:=by omega
  rcases(show s=[]∨ ∃c v,s=c::v by cases s<;>simp)with h0|⟨c,v,h0⟩
  ·have hl0:s.length=0:=by rw[h0];rfl
   have hin:¬(a.length:Int)<(a.length:Int)+(s.length:Int):=by omega
   have hin2:¬0<s.length:=by omega
   simp[hsz,e0,e4,hin,hin2,-zqt];exact go2 _ (by simp[hsz]) (by simp[e0]) (by simp[e2]) (by simp[b2]) (by simp[e4])
  ·have hc:=hrs c v h0;unfold zhe at hc;have hl0:s.length=v.length+1:=by rw[h0];rfl
   have hin:(a.length:Int)<(a.length:Int)+(s.length:Int):=by omega
   have hin2:a.length<a.length+s.length:=by omega
   have hget:(a++s)[a.length]'(by rw[List.length_append];omega)=c:=by subst h0;simp
   have hin3:0<s.length:=by omega
   have hget2:s[0]'hin3=c:=by subst h0;rfl
   rcases(by simpa [Bool.or_eq_true]using hc:(c=61∨c=60)∨c=62)with(rfl|rfl)|rfl
   ·simp[hsz,e0,e4,hin,hin2,hin3,hget,hget2,-zqt];exact go2 _ (by simp[hsz]) (by simp[e0]) (by simp[e2]) (by simp[b2]) (by simp[e4])
   ·simp[hsz,e0,e4,hin,hin2,hin3,hget,hget2,-zqt];exact go2 _ (by simp[hsz]) (by simp[e0]) (by simp[e2]) (by simp[b2]) (by simp[e4])
   ·simp[hsz,e0,e4,hin,hin2,hin3,hget,hget2,-zqt];exact go2 _ (by simp[hsz]) (by simp[e0]) (by simp[e2]) (by simp[b2]) (by simp[e4])
end Go.Qz
namespace Go.Qz
open Go.Proofs
theorem zrg(l:List UInt8):(two l).1.length<=l.length/\(two l).2.length<=l.length:=by
 unfold two
 cases h:brk 32 l with
 |none=>simp
 |some p=>
  have:=congrArg List.length (zv8 (n:=p.1) (r:=p.2) h);simp at this ⊢;omega
theorem z4k(l:List UInt8)(h:l.length<=1048576):∃b,C ykn [.ro (T l),.ro (T [32])] []=some (.tup [.ro (T (two l).1),.ro (T (two l).2),.ro (.bool b)],[]):=by
 have h1:=z2s l [32] (by omega)
 refine⟨(Lib.cut l [32]).2.2,?_⟩;rw[h1,z9x];unfold two;cases brk 32 l<;>rfl
structure RcN(n:Nat)(r:Rc):Prop where
 sz:RcSz r
 lets:r.lets.length<=n
 builds:r.builds.length<=n
 runs:r.runs.length<=n
 srcs:r.srcs.length<=n
 pcs:r.pcs.length<=n
 steps:r.steps.length<=n
theorem rc0_N:RcN 0 rc0:=⟨⟨by simp[rc0],by simp[rc0],by simp[rc0],by simp[rc0],by simp[rc0],by simp[rc0],by simp[rc0],by simp[rc0],by simp[rc0],by simp[rc0],by simp[rc0],by simp[rc0],by simp[rc0],by simp[rc0]⟩,by simp[rc0],by simp[rc0],by simp[rc0],by simp[rc0],by simp[rc0],by simp[rc0]⟩
abbrev RBo(r:Rc):List A:=[.ro (T r.name),.ro (T r.ver),.own (FS r.lets),.own (NeS r.builds),.own (NeS r.runs),.own (FS r.srcs),.own (FS r.pcs),.own (SS r.steps)]
set_option maxHeartbeats 2000000 in
theorem zww(r:Rc)(l:List UInt8)(n:Nat)(h:RcN n r)(hn:n<=1000000)(hl:l.length<=1048576):
 C Fn71 [.ptr 5000 0,.ro (T l)] [(5000,RBo r)]=some (.one (.ro (.bool (zdl zh7 r l).2)),[(5000,RBo (zdl zh7 r l).1)]):=by
 refine zaf Tryz.func71 Cv71 rfl ?_;obtain⟨b1,c1⟩:=z4k l hl;have l1:=zrg l;obtain⟨b2,c2⟩:=z4k (two l).2 (by omega)
 have hng:=zwv (two l).2 (by omega)
 unfold zdl;generalize (two l).1=w at *;generalize (two l).2=x at *;generalize two x=ab at *;generalize zh7 x=nd at *;obtain⟨a,b⟩:=ab;obtain⟨⟨dn,dk,dv⟩,db⟩:=nd;simp only at c2 hng;have a1:r.lets.length+1<=zad:=by have:=h.lets;simp only[zad];omega
 have a2:r.builds.length+1<=zad:=by have:=h.builds;simp only[zad];omega
 have a3:r.runs.length+1<=zad:=by have:=h.runs;simp only[zad];omega
 have a4:r.srcs.length+1<=zad:=by have:=h.srcs;simp only[zad];omega
 have a5:r.pcs.length+1<=zad:=by have:=h.pcs;simp only[zad];omega
 have a6:r.steps.length+1<=zad:=by have:=h.steps;simp only[zad];omega
 cases k1:w==kwName
 ·cases k2:w==kwVer
  ·cases k3:w==zdm
   ·cases k4:w==za3
    ·cases k5:w==zca
     ·cases k6:w==zb3
      ·cases k7:w==kwPc
       ·cases k8:w==za0
        ·simp[c1,c2,k1,k2,k3,k4,k5,k6,k7,k8]
        ·simp[c1,c2,k1,k2,k3,k4,k5,k6,k7,k8,a6]
       ·simp[c1,c2,k1,k2,k3,k4,k5,k6,k7,a5]
      ·simp[c1,c2,k1,k2,k3,k4,k5,k6,a4]
     ·simp[c1,c2,k1,k2,k3,k4,k5,hng,a3]
    ·simp[c1,c2,k1,k2,k3,k4,hng,a2]
   ·simp[c1,c2,k1,k2,k3,a1]
  ·simp[c1,c2,k1,k2]
 ·simp[c1,c2,k1]
theorem zx3(l:List UInt8)(h:l.length<=1048576):C yj9 [.ro (T l)] []=some (.tup [.ro (T (two l).1),.ro (T (two l).2)],[]):=by
 refine zaf Tryz.func133 ykb rfl ?_;have hc:=zxp l 32 1 1 rfl h (by omega)
 rw[show (1:Nat)=0+1 from rfl,zxo]at hc
 unfold two
 cases hb:brk 32 l with
 |none=>rw[hb]at hc;simp at hc;simp[hc]
 |some p=>rw[hb]at hc;simp[z25]at hc;simp[hc]
set_option maxHeartbeats 2000000 in
theorem z4l(r:Rc)(l:List UInt8)(n:Nat)(h:RcN n r)(hn:n<=1000000)(hl:l.length<=1048576):
 C Fn68 [.view ⟨.cell 10000 0,[]⟩,.ro (T l)] [(10000,[.own (RcD r)])]=some (.tup [.own (RcD (zdl zlq r l).1),.ro (.bool (zdl zlq r l).2)],[(10000,[.dead])]):=by
 refine zaf Tryz.func68 Cv68 rfl ?_;have c1:=zx3 l hl;have l1:=zrg l;have c2:=zx3 (two l).2 (by omega)
 have hng:=z7n (two l).2 (by omega)
 unfold zdl zlq;generalize (two l).1=w at *;generalize (two l).2=x at *;generalize two x=ab at *;generalize zg3 x=nd at *;generalize okS x=ob at *;obtain⟨a,b⟩:=ab;obtain⟨dn,dk,dv⟩:=nd;simp only at c2 hng;have a1:r.lets.length+1<=zad:=by have:=h.lets;simp only[zad];omega
 have a2:r.builds.length+1<=zad:=by have:=h.builds;simp only[zad];omega
 have a3:r.runs.length+1<=zad:=by have:=h.runs;simp only[zad];omega
 have a4:r.srcs.length+1<=zad:=by have:=h.srcs;simp only[zad];omega
 have a5:r.pcs.length+1<=zad:=by have:=h.pcs;simp only[zad];omega
 have a6:r.steps.length+1<=zad:=by have:=h.steps;simp only[zad];omega
 cases k1:w==kwName
 ·cases k2:w==kwVer
  ·cases k3:w==zdm
   ·cases k4:w==za3
    ·cases k5:w==zca
     ·cases k6:w==zb3
      ·cases k7:w==kwPc
       ·cases k8:w==za0
        ·simp[c1,c2,k1,k2,k3,k4,k5,k6,k7,k8]
        ·simp[c1,c2,k1,k2,k3,k4,k5,k6,k7,k8,a6]
       ·simp[c1,c2,k1,k2,k3,k4,k5,k6,k7,a5]
      ·simp[c1,c2,k1,k2,k3,k4,k5,k6,a4]
     ·simp[c1,c2,k1,k2,k3,k4,k5,hng,a3]
    ·simp[c1,c2,k1,k2,k3,k4,hng,a2]
   ·simp[c1,c2,k1,k2,k3,a1]
  ·simp[c1,c2,k1,k2]
 ·simp[c1,c2,k1]
end Go.Qz
namespace Go.Qz
open Go.Proofs
theorem z4m(q:List UInt8)(c:UInt8)(h:q.length<=1048576):C ydv [.ro (T (q++[c])),.ro (T [10])] []=some (.one (.ro (.bool (c==10))),[]):=by
 refine zaf Tryz.func165 ydw rfl ?_;have h1:(1:Int)<=(q.length:Int)+1:=by omega
 have hw:IntKind.i64.wrap (q.length:Int)=(q.length:Int):=wrap64 (by omega) (by omega)
 have h2:(q.length:Int)<=(q.length:Int)+1:=by omega
 have hd:List.drop q.length (List.take (q.length+1) (q++[c]))=[c]:=by rw[List.take_of_length_le (by simp),List.drop_left]
 cases hc:c==10<;>simp[h1,hw,h2,hd,hc]
theorem zzz:C ydv [.ro (T []),.ro (T [10])] []=some (.one (.ro (.bool false)),[]):=by
 refine zaf Tryz.func165 ydw rfl ?_;simp
def sufB(t:List UInt8):Bool:=t.getLast? ==some 10
theorem zz0(t:List UInt8)(h:t.length<=1048576):C ykk [.ro (T t),.ro (T [10])] []=some (.tup [.ro (T (if sufB t then t.dropLast else t)),.ro (.bool (sufB t))],[]):=by
 refine zaf Tryz.func135 ykm rfl ?_;rcases List.eq_nil_or_concat t with rfl|⟨q,c,rfl⟩
 ·simp[zzz,sufB]
 ·rw[List.concat_eq_append]at *;have hq:q.length<=1048576:=by simp at h;omega
  have hs:=z4m q c hq;have he:sufB (q++[c])=(c==10):=by simp[sufB]
  rw[he,List.dropLast_concat];have hw:IntKind.i64.wrap (q.length:Int)=(q.length:Int):=wrap64 (by omega) (by omega)
  have h2:(q.length:Int)<=(q.length:Int)+1:=by omega
  cases hc:c==10<;>rw[hc]at hs<;>simp[hs,hw,h2,hc]
theorem z4n(t:List UInt8)(h:t.length<=1048576):C Fn69 [.ro (T t),.ro (T [10])] []=some (.tup [.ro (T (if sufB t then t.dropLast else t)),.ro (.bool (sufB t))],[]):=by
 refine zaf Tryz.func69 Cv69 rfl ?_;have hs:=zz0 t h;simp[hs]
theorem z7o(t:List UInt8)(h:t.length<=1048576):neSz (zh7 t).1:=by
 unfold zh7;split
 ·exact⟨by simp[ne0],by simp[ne0]⟩
 ·split
  ·exact zrf t h
  ·exact⟨by simp[ne0],by simp[ne0]⟩
theorem z4o{nd:List UInt8->Ne×Bool}(hnd:∀t,t.length<=1048576->neSz (nd t).1){n:Nat}{r:Rc}(h:RcN n r)(hn:n<1048576){l:List UInt8}(hl:l.length<=1048576):RcN (n+1) (zdl nd r l).1:=by
 obtain⟨⟨z1,z2,z3,z4,z5,z6,z7,z8,f1,f2,f3,f4,f5,f6⟩,m1,m2,m3,m4,m5,m6⟩:=h;have l1:=zrg l;have l2:=zrg (two l).2;have hN:=hnd (two l).2 (by omega)
 unfold zdl
 repeat' split
 all_goals
  refine⟨⟨?_,?_,?_,?_,?_,?_,?_,?_,?_,?_,?_,?_,?_,?_⟩,?_,?_,?_,?_,?_,?_⟩
  all_goals first
   |assumption
   |(simp only[List.length_append,List.length_singleton];omega)
   |(show _<=_;omega)
   |(intro f hf;rw[List.mem_append,List.mem_singleton]at hf;rcases hf with hf|rfl;(first|exact f1 f hf|exact f2 f hf|exact f3 f hf|exact f4 f hf|exact f5 f hf|exact f6 f hf);first|exact hN|exact⟨by omega,by omega⟩|omega)
set_option maxHeartbeats 4000000 in
theorem zkx(t:List UInt8)(h:t.length<=1048576):C Fn28 [.ro (T t)] []=some (.tup [.own (RcD (getI t).1),.ro (.bool (getI t).2)],[]):=by
 refine zaf Tryz.func28 Cv28 rfl ?_;have hcs:=z4n t h;unfold getI;rw[show (t.getLast? ==some 10)=sufB t from rfl]
 cases hsb:sufB t with
 |false=>
  rw[hsb]at hcs;simp only[Bool.and_false,Bool.false_eq_true,if_false];by_cases hlen:t.length<=1500
  ·have h1:¬(1500:Int)<(t.length:Int):=by omega
   simp[hcs,h1,rc0]
  ·have h1:(1500:Int)<(t.length:Int):=by omega
   simp[hcs,h1,rc0]
 |true=>
  rw[hsb]at hcs;simp only[if_true]at hcs;by_cases hlen:t.length<=1500
  ·have h1:¬(1500:Int)<(t.length:Int):=by omega
   have hs:=zv2 ⟨t.dropLast.toArray⟩ ⟨#[10]⟩;have h10:(⟨#[10]⟩:ByteArray).size=1:=rfl
   have hmem:∀x∈zav 10 t.dropLast,x.length<=1048576:=λx hx=>by
    have:=zfe 10 _ x hx;simp only[List.length_dropLast]at this;omega
   have hcnt:(zav 10 t.dropLast).length<=1501:=by
    have:=zff 10 t.dropLast;simp only[List.length_dropLast]at this;omega
   have hbl:t.dropLast.length<=9223372036854775807:=by simp only[List.length_dropLast];omega
   rw[decide_eq_true hlen];simp only[Bool.and_self,if_true];obtain⟨R,hR⟩:∃R,zb4 zh7 rc0 (zav 10 t.dropLast)=R:=⟨_,rfl⟩;rw[hR];generalize t.dropLast=body at *;simp[hcs,h1,hs,h10,hbl,-ydk];refine zn7 (λo ho=>?_)
   have o0:o.get 0=.one (.ro (T t)):=by rw[ho];simp
   have o2:o.get 2=.one (.ptr 2 0):=by rw[ho];simp
   have o3:o.get 3=.one (.ptr 3 0):=by rw[ho];simp
   have o6:o.get 6=.one (.ptr 6 0):=by rw[ho];simp
   have os:o.size=34:=by rw[ho];simp
   have b2:o.box 2=some (RBo rc0):=by rw[ho];simp[rc0]
   have b3:o.box 3=some [.ro (.bool false)]:=by rw[ho];simp
   have b6:o.box 6=some (RBo rc0):=by rw[ho];simp[rc0]
   clear ho
   refine zn6 (λxs e=> ∃r n,(∀x∈xs,x.length<=1048576)/\n+xs.length<=1501/\RcN n r/\e.size=34/\e.get 2=.one (.ptr 9002 0)/\e.get 3=.one (.ptr 9003 0)/\e.get 6=.one (.ptr 9006 0)/\e.box 9002=some (RBo rc0)/\e.box 9003=some [.ro (.bool false)]/\
    e.box 9006=some (RBo r)/\zb4 zh7 r xs=R)
    ?_ _ _ ⟨rc0,0,hmem,by omega,rc0_N,by simp[os],by simp[o2],by simp[o3],by simp[o6],by simp[za1,b2],by simp[za1,b3],by simp[za1,b6],hR⟩
   clear hR hmem hcnt;rintro xs e ⟨r,n,hx,hcn,hN,es,e2,e3,e6,c2,c3,c6,hr⟩ ih
   cases xs with
   |nil=>
    rw[zb4]at hr;have hput:=zg5 r hN.sz;subst hr;simp only[Bool.true_and]
    cases hq:zcv r==t with
    |true=>
     have hq2:zcv r=t:=by simpa using hq
     simp[o0,o2,o3,o6,os,b2,b3,b6,c2,c3,c6,zdh,hput,hq2]
    |false=>
     have hq2:¬zcv r=t:=by simpa using hq
     simp[o0,o2,o3,o6,os,b2,b3,b6,c2,c3,c6,zdh,hput,hq,hq2,rc0]
   |cons x xs=>
    have hrl:=zww r x n hN (by simp at hcn;omega) (hx x (by simp))
    have hN2:=z4o z7o hN (by simp at hcn;omega) (hx x (by simp))
    rw[zb4]at hr;generalize zdl zh7 r x=v at *;obtain⟨r2,b⟩:=v;simp only at hrl hr hN2
    cases b with
    |false=>
     simp only[Bool.false_eq_true,if_false]at hr;subst hr;simp[o2,o3,o6,b2,b3,b6,es,e2,e3,e6,c2,c3,c6,hrl,zdh,zbz,za1,rc0]
    |true=>
     simp only[if_true]at hr;simp[es,e6,c6,hrl];refine ih _ _ (by simp) ⟨r2,n+1,λy hy=>hx y (by simp[hy]),by simp at hcn;omega,hN2,by simp[os],by simp[o2],by simp[o3],by simp[o6],by simp[zbz,za1,b2,c2],by simp[zbz,za1,b3,c3],by simp[zbz,za1,b6],hr⟩
  ·have h1:(1500:Int)<(t.length:Int):=by omega
   rw[decide_eq_false hlen];simp[hcs,h1,rc0]
end Go.Qz
namespace Go.Qz
open Go.Proofs
def zmk:List QOp:=match q27c2 with
 | .seq (.block _ (.seq (.free qs _) _)) _=>qs
 |_=>[]
theorem zab{k j:Nat}{d:List Nat}(h:j≠k):(k::d).contains j=d.contains j:=by
 rw[List.contains_cons,show (j==k)=false by simpa using h,Bool.false_or]
theorem zg6(k:Nat)(d:List Nat):(k::d).contains k=true:=by
 rw[List.contains_cons,beq_self_eq_true,Bool.true_or]
theorem zcc{P:Program}{io:FuncId->List Nat}{call:zam}{qs:List QOp}{k:Nat}{q:QOp}(hq:qs[k]? =some q){E:Env}{G:Env->Prop}(h:∃e1,zdd P io call q E=some e1/\G e1):∃q e1,qs[k]? =some q/\zdd P io call q E=some e1/\G e1:=by
 obtain⟨e1,h1,h2⟩:=h;exact⟨q,e1,hq,h1,h2⟩
structure GetI(t:List UInt8)(xs:zaz)(x:List UInt8)(r r2:Rc)(b:Bool)(i:Nat)(B:Nat->Option (List A))(d:List Nat)(E:Env):Prop where
 c50:d.contains 5=true->d.contains 0=true
 c109:d.contains 10=true->d.contains 9=true
 c76:d.contains 7=true->d.contains 6=true
 sz:E.size=55
 g0:E.get 0=.one (.ro (T t))
 g2:E.get 2=.one (.ptr 2 0)
 g4:E.get 4=.one (.ptr 4 0)
 g5:E.get 5=.one (.own (SS xs))
 g6:E.get 6=.one (.ro (N i))
 bo:∀k,k≠4->k≠7->E.box k=B k
 b4:E.box 4=some (if d.contains 5 then [.ro (T r.name),.ro (T r.ver),.dead,.dead,.dead,.dead,.dead,.dead]else RBo r)
 b7:d.contains 9=true->E.box 7=some (if d.contains 10 then RBo r2 else RBo rc0)
 f27:d.contains 0=true->d.contains 5=false->E.get 27=.agg [.ro (T r.name),.ro (T r.ver),.view ⟨.cell 4 2,[]⟩,.view ⟨.cell 4 3,[]⟩,.view ⟨.cell 4 4,[]⟩,.view ⟨.cell 4 5,[]⟩,.view ⟨.cell 4 6,[]⟩,.view ⟨.cell 4 7,[]⟩]
 f28:d.contains 1=true->E.get 28=.one (.view ⟨.tmp 5,[]⟩)
 f29:d.contains 2=true->E.get 29=.one (.ro (N i))
 f30:d.contains 3=true->E.get 30=.one (.eptr ⟨.tmp 5,[]⟩ 1 i 0)
 f31:d.contains 4=true->E.get 31=.one (.ro (T x))
 f32:d.contains 5=true->d.contains 6=false->E.get 32=.tup [.own (RcD r2),.ro (.bool b)]
 f26a:d.contains 6=true->d.contains 7=false->E.get 26=.tup [.own (RcD r2),.ro (.bool b)]
 f26b:d.contains 6=true->d.contains 7=true->E.get 26=.tup [.dead,.ro (.bool b)]
 f33:d.contains 7=true->d.contains 10=false->E.get 33=.one (.own (RcD r2))
 f34:d.contains 8=true->E.get 34=.one (.ro (.bool b))
 f7:d.contains 9=true->E.get 7=.one (.ptr 7 0)
 f8:d.contains 11=true->E.get 8=.one (.ro (.bool b))
structure GetH(xs:zaz)(x:List UInt8)(r r2:Rc)(b:Bool)(i:Nat):Prop where
 hix:i<xs.length
 hxe:xs[i]? =some x
 hln:C Fn68 [.view ⟨.cell 10000 0,[]⟩,.ro (T x)] [(10000,[.own (RcD r)])]=some (.tup [.own (RcD r2),.ro (.bool b)],[(10000,[.dead])])
set_option maxHeartbeats 1000000 in
theorem z7p{t:List UInt8}{xs:zaz}{x:List UInt8}{r r2:Rc}{b:Bool}{i:Nat}(H:GetH xs x r r2 b i){B:Nat->Option (List A)}{d:List Nat}{E:Env}(h:GetI t xs x r r2 b i B d E)(hc:d.contains 0=false):
 ∃q e1,zmk[0]? =some q/\zdd Tryz.prog ioS C q E=some e1/\GetI t xs x r r2 b i B (0::d) e1:=by
 refine zcc rfl ?_;have sz:=h.sz;have g0:=h.g0;have g2:=h.g2;have g4:=h.g4;have g5:=h.g5;have g6:=h.g6;have bb:=h.b4
 have c5:d.contains 5=false:=by
  cases h5:d.contains 5 with
  |false=>rfl
  |true=>rw[h.c50 h5]at hc;cases hc
 rw[c5]at bb;simp only[Bool.false_eq_true,if_false]at bb;simp[sz,g0,g2,g4,g5,g6,bb]
 exact{
  c50:=λ_=>zg6 _ _
  c109:=λa=>by rw[zab (by decide)]at a ⊢;exact h.c109 a
  c76:=λa=>by rw[zab (by decide)]at a ⊢;exact h.c76 a
  sz:=by simp[sz,g0,g2,g4,g5,g6,bb]
  g0:=by simp[sz,g0,g2,g4,g5,g6,bb]
  g2:=by simp[sz,g0,g2,g4,g5,g6,bb]
  g4:=by simp[sz,g0,g2,g4,g5,g6,bb]
  g5:=by simp[sz,g0,g2,g4,g5,g6,bb]
  g6:=by simp[sz,g0,g2,g4,g5,g6,bb]
  bo:=λj j4 j7=>by
   have:=h.bo j j4 j7;simp[j4,j7,this,sz,g0,g2,g4,g5,g6,bb]
  b4:=by
   rw[zab (show (5:Nat)≠0 by decide),c5]
   simp[sz,g0,g2,g4,g5,g6,bb]
  b7:=λa=>by
   rw[zab (show (9:Nat)≠0 by decide)]at a
   rw[zab (show (10:Nat)≠0 by decide)]
   simp[h.b7 a,sz,g0,g2,g4,g5,g6,bb]
  f27:=λa0 a5=>by
   rw[zab (show (5:Nat)≠0 by decide)]at a5
   simp[sz,g0,g2,g4,g5,g6,bb]
  f28:=λa1=>by
   rw[zab (show (1:Nat)≠0 by decide)]at a1
   simp[h.f28 a1,sz,g0,g2,g4,g5,g6,bb]
  f29:=λa2=>by
   rw[zab (show (2:Nat)≠0 by decide)]at a2
   simp[h.f29 a2,sz,g0,g2,g4,g5,g6,bb]
  f30:=λa3=>by
   rw[zab (show (3:Nat)≠0 by decide)]at a3
   simp[h.f30 a3,sz,g0,g2,g4,g5,g6,bb]
  f31:=λa4=>by
   rw[zab (show (4:Nat)≠0 by decide)]at a4
   simp[h.f31 a4,sz,g0,g2,g4,g5,g6,bb]
  f32:=λa5 a6=>by
   rw[zab (show (5:Nat)≠0 by decide)]at a5
   rw[zab (show (6:Nat)≠0 by decide)]at a6
   simp[h.f32 a5 a6,sz,g0,g2,g4,g5,g6,bb]
  f26a:=λa6 a7=>by
   rw[zab (show (6:Nat)≠0 by decide)]at a6
   rw[zab (show (7:Nat)≠0 by decide)]at a7
   simp[h.f26a a6 a7,sz,g0,g2,g4,g5,g6,bb]
  f26b:=λa6 a7=>by
   rw[zab (show (6:Nat)≠0 by decide)]at a6
   rw[zab (show (7:Nat)≠0 by decide)]at a7
   simp[h.f26b a6 a7,sz,g0,g2,g4,g5,g6,bb]
  f33:=λa7 a10=>by
   rw[zab (show (7:Nat)≠0 by decide)]at a7
   rw[zab (show (10:Nat)≠0 by decide)]at a10
   simp[h.f33 a7 a10,sz,g0,g2,g4,g5,g6,bb]
  f34:=λa8=>by
   rw[zab (show (8:Nat)≠0 by decide)]at a8
   simp[h.f34 a8,sz,g0,g2,g4,g5,g6,bb]
  f7:=λa9=>by
   rw[zab (show (9:Nat)≠0 by decide)]at a9
   simp[h.f7 a9,sz,g0,g2,g4,g5,g6,bb]
  f8:=λa11=>by
   rw[zab (show (11:Nat)≠0 by decide)]at a11
   simp[h.f8 a11,sz,g0,g2,g4,g5,g6,bb]}
set_option maxHeartbeats 1000000 in
theorem z7q{t:List UInt8}{xs:zaz}{x:List UInt8}{r r2:Rc}{b:Bool}{i:Nat}(H:GetH xs x r r2 b i){B:Nat->Option (List A)}{d:List Nat}{E:Env}(h:GetI t xs x r r2 b i B d E)(hc:d.contains 1=false):
 ∃q e1,zmk[1]? =some q/\zdd Tryz.prog ioS C q E=some e1/\GetI t xs x r r2 b i B (1::d) e1:=by
 refine zcc rfl ?_;have sz:=h.sz;have g0:=h.g0;have g2:=h.g2;have g4:=h.g4;have g5:=h.g5;have g6:=h.g6;have bb:=h.b4;simp[sz,g0,g2,g4,g5,g6]
 exact{
  c50:=λa=>by rw[zab (by decide)]at a ⊢;exact h.c50 a
  c109:=λa=>by rw[zab (by decide)]at a ⊢;exact h.c109 a
  c76:=λa=>by rw[zab (by decide)]at a ⊢;exact h.c76 a
  sz:=by simp[sz,g0,g2,g4,g5,g6]
  g0:=by simp[sz,g0,g2,g4,g5,g6]
  g2:=by simp[sz,g0,g2,g4,g5,g6]
  g4:=by simp[sz,g0,g2,g4,g5,g6]
  g5:=by simp[sz,g0,g2,g4,g5,g6]
  g6:=by simp[sz,g0,g2,g4,g5,g6]
  bo:=λj j4 j7=>by
   have:=h.bo j j4 j7;simp[j4,j7,this,sz,g0,g2,g4,g5,g6]
  b4:=by
   rw[zab (show (5:Nat)≠1 by decide)]
   simp[sz,g0,g2,g4,g5,g6,h.b4]
  b7:=λa=>by
   rw[zab (show (9:Nat)≠1 by decide)]at a
   rw[zab (show (10:Nat)≠1 by decide)]
   simp[h.b7 a,sz,g0,g2,g4,g5,g6]
  f27:=λa0 a5=>by
   rw[zab (show (0:Nat)≠1 by decide)]at a0
   rw[zab (show (5:Nat)≠1 by decide)]at a5
   simp[h.f27 a0 a5,sz,g0,g2,g4,g5,g6]
  f28:=λa1=>by
   simp[sz,g0,g2,g4,g5,g6]
  f29:=λa2=>by
   rw[zab (show (2:Nat)≠1 by decide)]at a2
   simp[h.f29 a2,sz,g0,g2,g4,g5,g6]
  f30:=λa3=>by
   rw[zab (show (3:Nat)≠1 by decide)]at a3
   simp[h.f30 a3,sz,g0,g2,g4,g5,g6]
  f31:=λa4=>by
   rw[zab (show (4:Nat)≠1 by decide)]at a4
   simp[h.f31 a4,sz,g0,g2,g4,g5,g6]
  f32:=λa5 a6=>by
   rw[zab (show (5:Nat)≠1 by decide)]at a5
   rw[zab (show (6:Nat)≠1 by decide)]at a6
   simp[h.f32 a5 a6,sz,g0,g2,g4,g5,g6]
  f26a:=λa6 a7=>by
   rw[zab (show (6:Nat)≠1 by decide)]at a6
   rw[zab (show (7:Nat)≠1 by decide)]at a7
   simp[h.f26a a6 a7,sz,g0,g2,g4,g5,g6]
  f26b:=λa6 a7=>by
   rw[zab (show (6:Nat)≠1 by decide)]at a6
   rw[zab (show (7:Nat)≠1 by decide)]at a7
   simp[h.f26b a6 a7,sz,g0,g2,g4,g5,g6]
  f33:=λa7 a10=>by
   rw[zab (show (7:Nat)≠1 by decide)]at a7
   rw[zab (show (10:Nat)≠1 by decide)]at a10
   simp[h.f33 a7 a10,sz,g0,g2,g4,g5,g6]
  f34:=λa8=>by
   rw[zab (show (8:Nat)≠1 by decide)]at a8
   simp[h.f34 a8,sz,g0,g2,g4,g5,g6]
  f7:=λa9=>by
   rw[zab (show (9:Nat)≠1 by decide)]at a9
   simp[h.f7 a9,sz,g0,g2,g4,g5,g6]
  f8:=λa11=>by
   rw[zab (show (11:Nat)≠1 by decide)]at a11
   simp[h.f8 a11,sz,g0,g2,g4,g5,g6]}
set_option maxHeartbeats 1000000 in
theorem z7r{t:List UInt8}{xs:zaz}{x:List UInt8}{r r2:Rc}{b:Bool}{i:Nat}(H:GetH xs x r r2 b i){B:Nat->Option (List A)}{d:List Nat}{E:Env}(h:GetI t xs x r r2 b i B d E)(hc:d.contains 2=false):
 ∃q e1,zmk[2]? =some q/\zdd Tryz.prog ioS C q E=some e1/\GetI t xs x r r2 b i B (2::d) e1:=by
 refine zcc rfl ?_;have sz:=h.sz;have g0:=h.g0;have g2:=h.g2;have g4:=h.g4;have g5:=h.g5;have g6:=h.g6;have bb:=h.b4;simp[sz,g0,g2,g4,g5,g6]
 exact{
  c50:=λa=>by rw[zab (by decide)]at a ⊢;exact h.c50 a
  c109:=λa=>by rw[zab (by decide)]at a ⊢;exact h.c109 a
  c76:=λa=>by rw[zab (by decide)]at a ⊢;exact h.c76 a
  sz:=by simp[sz,g0,g2,g4,g5,g6]
  g0:=by simp[sz,g0,g2,g4,g5,g6]
  g2:=by simp[sz,g0,g2,g4,g5,g6]
  g4:=by simp[sz,g0,g2,g4,g5,g6]
  g5:=by simp[sz,g0,g2,g4,g5,g6]
  g6:=by simp[sz,g0,g2,g4,g5,g6]
  bo:=λj j4 j7=>by
   have:=h.bo j j4 j7;simp[j4,j7,this,sz,g0,g2,g4,g5,g6]
  b4:=by
   rw[zab (show (5:Nat)≠2 by decide)]
   simp[sz,g0,g2,g4,g5,g6,h.b4]
  b7:=λa=>by
   rw[zab (show (9:Nat)≠2 by decide)]at a
   rw[zab (show (10:Nat)≠2 by decide)]
   simp[h.b7 a,sz,g0,g2,g4,g5,g6]
  f27:=λa0 a5=>by
   rw[zab (show (0:Nat)≠2 by decide)]at a0
   rw[zab (show (5:Nat)≠2 by decide)]at a5
   simp[h.f27 a0 a5,sz,g0,g2,g4,g5,g6]
  f28:=λa1=>by
   rw[zab (show (1:Nat)≠2 by decide)]at a1
   simp[h.f28 a1,sz,g0,g2,g4,g5,g6]
  f29:=λa2=>by
   simp[sz,g0,g2,g4,g5,g6]
  f30:=λa3=>by
   rw[zab (show (3:Nat)≠2 by decide)]at a3
   simp[h.f30 a3,sz,g0,g2,g4,g5,g6]
  f31:=λa4=>by
   rw[zab (show (4:Nat)≠2 by decide)]at a4
   simp[h.f31 a4,sz,g0,g2,g4,g5,g6]
  f32:=λa5 a6=>by
   rw[zab (show (5:Nat)≠2 by decide)]at a5
   rw[zab (show (6:Nat)≠2 by decide)]at a6
   simp[h.f32 a5 a6,sz,g0,g2,g4,g5,g6]
  f26a:=λa6 a7=>by
   rw[zab (show (6:Nat)≠2 by decide)]at a6
   rw[zab (show (7:Nat)≠2 by decide)]at a7
   simp[h.f26a a6 a7,sz,g0,g2,g4,g5,g6]
  f26b:=λa6 a7=>by
   rw[zab (show (6:Nat)≠2 by decide)]at a6
   rw[zab (show (7:Nat)≠2 by decide)]at a7
   simp[h.f26b a6 a7,sz,g0,g2,g4,g5,g6]
  f33:=λa7 a10=>by
   rw[zab (show (7:Nat)≠2 by decide)]at a7
   rw[zab (show (10:Nat)≠2 by decide)]at a10
   simp[h.f33 a7 a10,sz,g0,g2,g4,g5,g6]
  f34:=λa8=>by
   rw[zab (show (8:Nat)≠2 by decide)]at a8
   simp[h.f34 a8,sz,g0,g2,g4,g5,g6]
  f7:=λa9=>by
   rw[zab (show (9:Nat)≠2 by decide)]at a9
   simp[h.f7 a9,sz,g0,g2,g4,g5,g6]
  f8:=λa11=>by
   rw[zab (show (11:Nat)≠2 by decide)]at a11
   simp[h.f8 a11,sz,g0,g2,g4,g5,g6]}
set_option maxHeartbeats 1000000 in
theorem z7s{t:List UInt8}{xs:zaz}{x:List UInt8}{r r2:Rc}{b:Bool}{i:Nat}(H:GetH xs x r r2 b i){B:Nat->Option (List A)}{d:List Nat}{E:Env}(h:GetI t xs x r r2 b i B d E)(hc:d.contains 3=false)(hw:∀j∈[1,2],d.contains j=true):
 ∃q e1,zmk[3]? =some q/\zdd Tryz.prog ioS C q E=some e1/\GetI t xs x r r2 b i B (3::d) e1:=by
 refine zcc rfl ?_;have w1:d.contains 1=true:=hw 1 (by simp)
 have w2:d.contains 2=true:=hw 2 (by simp)
 have sz:=h.sz;have g0:=h.g0;have g2:=h.g2;have g4:=h.g4;have g5:=h.g5;have g6:=h.g6;have bb:=h.b4;have n_f28:=h.f28 w1;have n_f29:=h.f29 w2;have hix:=H.hix;have hxe:xs[i]=x:=by have:=H.hxe;rw[List.getElem?_eq_getElem hix]at this;exact Option.some.inj this
 simp[sz,g0,g2,g4,g5,g6,n_f28,n_f29,hix,hxe]
 exact{
  c50:=λa=>by rw[zab (by decide)]at a ⊢;exact h.c50 a
  c109:=λa=>by rw[zab (by decide)]at a ⊢;exact h.c109 a
  c76:=λa=>by rw[zab (by decide)]at a ⊢;exact h.c76 a
  sz:=by simp[sz,g0,g2,g4,g5,g6,n_f28,n_f29,hix,hxe]
  g0:=by simp[sz,g0,g2,g4,g5,g6,n_f28,n_f29,hix,hxe]
  g2:=by simp[sz,g0,g2,g4,g5,g6,n_f28,n_f29,hix,hxe]
  g4:=by simp[sz,g0,g2,g4,g5,g6,n_f28,n_f29,hix,hxe]
  g5:=by simp[sz,g0,g2,g4,g5,g6,n_f28,n_f29,hix,hxe]
  g6:=by simp[sz,g0,g2,g4,g5,g6,n_f28,n_f29,hix,hxe]
  bo:=λj j4 j7=>by
   have:=h.bo j j4 j7;simp[j4,j7,this,sz,g0,g2,g4,g5,g6,n_f28,n_f29,hix,hxe]
  b4:=by
   rw[zab (show (5:Nat)≠3 by decide)]
   simp[sz,g0,g2,g4,g5,g6,n_f28,n_f29,hix,hxe,h.b4]
  b7:=λa=>by
   rw[zab (show (9:Nat)≠3 by decide)]at a
   rw[zab (show (10:Nat)≠3 by decide)]
   simp[h.b7 a,sz,g0,g2,g4,g5,g6,n_f28,n_f29,hix,hxe]
  f27:=λa0 a5=>by
   rw[zab (show (0:Nat)≠3 by decide)]at a0
   rw[zab (show (5:Nat)≠3 by decide)]at a5
   simp[h.f27 a0 a5,sz,g0,g2,g4,g5,g6,n_f28,n_f29,hix,hxe]
  f28:=λa1=>by
   rw[zab (show (1:Nat)≠3 by decide)]at a1
   simp[h.f28 a1,sz,g0,g2,g4,g5,g6,n_f28,n_f29,hix,hxe]
  f29:=λa2=>by
   rw[zab (show (2:Nat)≠3 by decide)]at a2
   simp[h.f29 a2,sz,g0,g2,g4,g5,g6,n_f28,n_f29,hix,hxe]
  f30:=λa3=>by
   simp[sz,g0,g2,g4,g5,g6,n_f28,n_f29,hix,hxe]
  f31:=λa4=>by
   rw[zab (show (4:Nat)≠3 by decide)]at a4
   simp[h.f31 a4,sz,g0,g2,g4,g5,g6,n_f28,n_f29,hix,hxe]
  f32:=λa5 a6=>by
   rw[zab (show (5:Nat)≠3 by decide)]at a5
   rw[zab (show (6:Nat)≠3 by decide)]at a6
   simp[h.f32 a5 a6,sz,g0,g2,g4,g5,g6,n_f28,n_f29,hix,hxe]
  f26a:=λa6 a7=>by
   rw[zab (show (6:Nat)≠3 by decide)]at a6
   rw[zab (show (7:Nat)≠3 by decide)]at a7
   simp[h.f26a a6 a7,sz,g0,g2,g4,g5,g6,n_f28,n_f29,hix,hxe]
  f26b:=λa6 a7=>by
   rw[zab (show (6:Nat)≠3 by decide)]at a6
   rw[zab (show (7:Nat)≠3 by decide)]at a7
   simp[h.f26b a6 a7,sz,g0,g2,g4,g5,g6,n_f28,n_f29,hix,hxe]
  f33:=λa7 a10=>by
   rw[zab (show (7:Nat)≠3 by decide)]at a7
   rw[zab (show (10:Nat)≠3 by decide)]at a10
   simp[h.f33 a7 a10,sz,g0,g2,g4,g5,g6,n_f28,n_f29,hix,hxe]
  f34:=λa8=>by
   rw[zab (show (8:Nat)≠3 by decide)]at a8
   simp[h.f34 a8,sz,g0,g2,g4,g5,g6,n_f28,n_f29,hix,hxe]
  f7:=λa9=>by
   rw[zab (show (9:Nat)≠3 by decide)]at a9
   simp[h.f7 a9,sz,g0,g2,g4,g5,g6,n_f28,n_f29,hix,hxe]
  f8:=λa11=>by
   rw[zab (show (11:Nat)≠3 by decide)]at a11
   simp[h.f8 a11,sz,g0,g2,g4,g5,g6,n_f28,n_f29,hix,hxe]}
set_option maxHeartbeats 1000000 in
theorem z7t{t:List UInt8}{xs:zaz}{x:List UInt8}{r r2:Rc}{b:Bool}{i:Nat}(H:GetH xs x r r2 b i){B:Nat->Option (List A)}{d:List Nat}{E:Env}(h:GetI t xs x r r2 b i B d E)(hc:d.contains 4=false)(hw:∀j∈[3],d.contains j=true):
 ∃q e1,zmk[4]? =some q/\zdd Tryz.prog ioS C q E=some e1/\GetI t xs x r r2 b i B (4::d) e1:=by
 refine zcc rfl ?_;have w3:d.contains 3=true:=hw 3 (by simp)
 have sz:=h.sz;have g0:=h.g0;have g2:=h.g2;have g4:=h.g4;have g5:=h.g5;have g6:=h.g6;have bb:=h.b4;have n_f30:=h.f30 w3;have hix:=H.hix;have hxe:xs[i]=x:=by have:=H.hxe;rw[List.getElem?_eq_getElem hix]at this;exact Option.some.inj this
 simp[sz,g0,g2,g4,g5,g6,n_f30,hix,hxe]
 exact{
  c50:=λa=>by rw[zab (by decide)]at a ⊢;exact h.c50 a
  c109:=λa=>by rw[zab (by decide)]at a ⊢;exact h.c109 a
  c76:=λa=>by rw[zab (by decide)]at a ⊢;exact h.c76 a
  sz:=by simp[sz,g0,g2,g4,g5,g6,n_f30,hix,hxe]
  g0:=by simp[sz,g0,g2,g4,g5,g6,n_f30,hix,hxe]
  g2:=by simp[sz,g0,g2,g4,g5,g6,n_f30,hix,hxe]
  g4:=by simp[sz,g0,g2,g4,g5,g6,n_f30,hix,hxe]
  g5:=by simp[sz,g0,g2,g4,g5,g6,n_f30,hix,hxe]
  g6:=by simp[sz,g0,g2,g4,g5,g6,n_f30,hix,hxe]
  bo:=λj j4 j7=>by
   have:=h.bo j j4 j7;simp[j4,j7,this,sz,g0,g2,g4,g5,g6,n_f30,hix,hxe]
  b4:=by
   rw[zab (show (5:Nat)≠4 by decide)]
   simp[sz,g0,g2,g4,g5,g6,n_f30,hix,hxe,h.b4]
  b7:=λa=>by
   rw[zab (show (9:Nat)≠4 by decide)]at a
   rw[zab (show (10:Nat)≠4 by decide)]
   simp[h.b7 a,sz,g0,g2,g4,g5,g6,n_f30,hix,hxe]
  f27:=λa0 a5=>by
   rw[zab (show (0:Nat)≠4 by decide)]at a0
   rw[zab (show (5:Nat)≠4 by decide)]at a5
   simp[h.f27 a0 a5,sz,g0,g2,g4,g5,g6,n_f30,hix,hxe]
  f28:=λa1=>by
   rw[zab (show (1:Nat)≠4 by decide)]at a1
   simp[h.f28 a1,sz,g0,g2,g4,g5,g6,n_f30,hix,hxe]
  f29:=λa2=>by
   rw[zab (show (2:Nat)≠4 by decide)]at a2
   simp[h.f29 a2,sz,g0,g2,g4,g5,g6,n_f30,hix,hxe]
  f30:=λa3=>by
   rw[zab (show (3:Nat)≠4 by decide)]at a3
   simp[h.f30 a3,sz,g0,g2,g4,g5,g6,n_f30,hix,hxe]
  f31:=λa4=>by
   simp[sz,g0,g2,g4,g5,g6,n_f30,hix,hxe]
  f32:=λa5 a6=>by
   rw[zab (show (5:Nat)≠4 by decide)]at a5
   rw[zab (show (6:Nat)≠4 by decide)]at a6
   simp[h.f32 a5 a6,sz,g0,g2,g4,g5,g6,n_f30,hix,hxe]
  f26a:=λa6 a7=>by
   rw[zab (show (6:Nat)≠4 by decide)]at a6
   rw[zab (show (7:Nat)≠4 by decide)]at a7
   simp[h.f26a a6 a7,sz,g0,g2,g4,g5,g6,n_f30,hix,hxe]
  f26b:=λa6 a7=>by
   rw[zab (show (6:Nat)≠4 by decide)]at a6
   rw[zab (show (7:Nat)≠4 by decide)]at a7
   simp[h.f26b a6 a7,sz,g0,g2,g4,g5,g6,n_f30,hix,hxe]
  f33:=λa7 a10=>by
   rw[zab (show (7:Nat)≠4 by decide)]at a7
   rw[zab (show (10:Nat)≠4 by decide)]at a10
   simp[h.f33 a7 a10,sz,g0,g2,g4,g5,g6,n_f30,hix,hxe]
  f34:=λa8=>by
   rw[zab (show (8:Nat)≠4 by decide)]at a8
   simp[h.f34 a8,sz,g0,g2,g4,g5,g6,n_f30,hix,hxe]
  f7:=λa9=>by
   rw[zab (show (9:Nat)≠4 by decide)]at a9
   simp[h.f7 a9,sz,g0,g2,g4,g5,g6,n_f30,hix,hxe]
  f8:=λa11=>by
   rw[zab (show (11:Nat)≠4 by decide)]at a11
   simp[h.f8 a11,sz,g0,g2,g4,g5,g6,n_f30,hix,hxe]}
set_option maxHeartbeats 1000000 in
theorem z7u{t:List UInt8}{xs:zaz}{x:List UInt8}{r r2:Rc}{b:Bool}{i:Nat}(H:GetH xs x r r2 b i){B:Nat->Option (List A)}{d:List Nat}{E:Env}(h:GetI t xs x r r2 b i B d E)(hc:d.contains 5=false)(hw:∀j∈[0,4],d.contains j=true):
 ∃q e1,zmk[5]? =some q/\zdd Tryz.prog ioS C q E=some e1/\GetI t xs x r r2 b i B (5::d) e1:=by
 refine zcc rfl ?_;have w0:d.contains 0=true:=hw 0 (by simp)
 have w4:d.contains 4=true:=hw 4 (by simp)
 have sz:=h.sz;have g0:=h.g0;have g2:=h.g2;have g4:=h.g4;have g5:=h.g5;have g6:=h.g6;have bb:=h.b4;rw[hc]at bb;simp only[Bool.false_eq_true,if_false]at bb;have n_f27:=h.f27 w0 hc;have n_f31:=h.f31 w4;have hln:=H.hln;simp[sz,g0,g2,g4,g5,g6,bb,n_f27,n_f31,hln]
 exact{
  c50:=λ_=>by rw[zab (by decide)];exact w0
  c109:=λa=>by rw[zab (by decide)]at a ⊢;exact h.c109 a
  c76:=λa=>by rw[zab (by decide)]at a ⊢;exact h.c76 a
  sz:=by simp[sz,g0,g2,g4,g5,g6,bb,n_f27,n_f31,hln]
  g0:=by simp[sz,g0,g2,g4,g5,g6,bb,n_f27,n_f31,hln]
  g2:=by simp[sz,g0,g2,g4,g5,g6,bb,n_f27,n_f31,hln]
  g4:=by simp[sz,g0,g2,g4,g5,g6,bb,n_f27,n_f31,hln]
  g5:=by simp[sz,g0,g2,g4,g5,g6,bb,n_f27,n_f31,hln]
  g6:=by simp[sz,g0,g2,g4,g5,g6,bb,n_f27,n_f31,hln]
  bo:=λj j4 j7=>by
   have:=h.bo j j4 j7;simp[j4,j7,this,sz,g0,g2,g4,g5,g6,bb,n_f27,n_f31,hln]
  b4:=by
   rw[zg6];simp[sz,g0,g2,g4,g5,g6,bb,n_f27,n_f31,hln]
  b7:=λa=>by
   rw[zab (show (9:Nat)≠5 by decide)]at a
   rw[zab (show (10:Nat)≠5 by decide)]
   simp[h.b7 a,sz,g0,g2,g4,g5,g6,bb,n_f27,n_f31,hln]
  f27:=λa0 a5=>by rw[zg6]at a5;cases a5
  f28:=λa1=>by
   rw[zab (show (1:Nat)≠5 by decide)]at a1
   simp[h.f28 a1,sz,g0,g2,g4,g5,g6,bb,n_f27,n_f31,hln]
  f29:=λa2=>by
   rw[zab (show (2:Nat)≠5 by decide)]at a2
   simp[h.f29 a2,sz,g0,g2,g4,g5,g6,bb,n_f27,n_f31,hln]
  f30:=λa3=>by
   rw[zab (show (3:Nat)≠5 by decide)]at a3
   simp[h.f30 a3,sz,g0,g2,g4,g5,g6,bb,n_f27,n_f31,hln]
  f31:=λa4=>by
   rw[zab (show (4:Nat)≠5 by decide)]at a4
   simp[h.f31 a4,sz,g0,g2,g4,g5,g6,bb,n_f27,n_f31,hln]
  f32:=λa5 a6=>by
   rw[zab (show (6:Nat)≠5 by decide)]at a6
   simp[sz,g0,g2,g4,g5,g6,bb,n_f27,n_f31,hln]
  f26a:=λa6 a7=>by
   rw[zab (show (6:Nat)≠5 by decide)]at a6
   rw[zab (show (7:Nat)≠5 by decide)]at a7
   simp[h.f26a a6 a7,sz,g0,g2,g4,g5,g6,bb,n_f27,n_f31,hln]
  f26b:=λa6 a7=>by
   rw[zab (show (6:Nat)≠5 by decide)]at a6
   rw[zab (show (7:Nat)≠5 by decide)]at a7
   simp[h.f26b a6 a7,sz,g0,g2,g4,g5,g6,bb,n_f27,n_f31,hln]
  f33:=λa7 a10=>by
   rw[zab (show (7:Nat)≠5 by decide)]at a7
   rw[zab (show (10:Nat)≠5 by decide)]at a10
   simp[h.f33 a7 a10,sz,g0,g2,g4,g5,g6,bb,n_f27,n_f31,hln]
  f34:=λa8=>by
   rw[zab (show (8:Nat)≠5 by decide)]at a8
   simp[h.f34 a8,sz,g0,g2,g4,g5,g6,bb,n_f27,n_f31,hln]
  f7:=λa9=>by
   rw[zab (show (9:Nat)≠5 by decide)]at a9
   simp[h.f7 a9,sz,g0,g2,g4,g5,g6,bb,n_f27,n_f31,hln]
  f8:=λa11=>by
   rw[zab (show (11:Nat)≠5 by decide)]at a11
   simp[h.f8 a11,sz,g0,g2,g4,g5,g6,bb,n_f27,n_f31,hln]}
set_option maxHeartbeats 1000000 in
theorem z7v{t:List UInt8}{xs:zaz}{x:List UInt8}{r r2:Rc}{b:Bool}{i:Nat}(H:GetH xs x r r2 b i){B:Nat->Option (List A)}{d:List Nat}{E:Env}(h:GetI t xs x r r2 b i B d E)(hc:d.contains 6=false)(hw:∀j∈[5],d.contains j=true):
 ∃q e1,zmk[6]? =some q/\zdd Tryz.prog ioS C q E=some e1/\GetI t xs x r r2 b i B (6::d) e1:=by
 refine zcc rfl ?_;have w5:d.contains 5=true:=hw 5 (by simp)
 have sz:=h.sz;have g0:=h.g0;have g2:=h.g2;have g4:=h.g4;have g5:=h.g5;have g6:=h.g6;have bb:=h.b4;have n_f32:=h.f32 w5 hc;simp[sz,g0,g2,g4,g5,g6,n_f32]
 exact{
  c50:=λa=>by rw[zab (by decide)]at a ⊢;exact h.c50 a
  c109:=λa=>by rw[zab (by decide)]at a ⊢;exact h.c109 a
  c76:=λ_=>zg6 _ _
  sz:=by simp[sz,g0,g2,g4,g5,g6,n_f32]
  g0:=by simp[sz,g0,g2,g4,g5,g6,n_f32]
  g2:=by simp[sz,g0,g2,g4,g5,g6,n_f32]
  g4:=by simp[sz,g0,g2,g4,g5,g6,n_f32]
  g5:=by simp[sz,g0,g2,g4,g5,g6,n_f32]
  g6:=by simp[sz,g0,g2,g4,g5,g6,n_f32]
  bo:=λj j4 j7=>by
   have:=h.bo j j4 j7;simp[j4,j7,this,sz,g0,g2,g4,g5,g6,n_f32]
  b4:=by
   rw[zab (show (5:Nat)≠6 by decide)]
   simp[sz,g0,g2,g4,g5,g6,n_f32,h.b4]
  b7:=λa=>by
   rw[zab (show (9:Nat)≠6 by decide)]at a
   rw[zab (show (10:Nat)≠6 by decide)]
   simp[h.b7 a,sz,g0,g2,g4,g5,g6,n_f32]
  f27:=λa0 a5=>by
   rw[zab (show (0:Nat)≠6 by decide)]at a0
   rw[zab (show (5:Nat)≠6 by decide)]at a5
   simp[h.f27 a0 a5,sz,g0,g2,g4,g5,g6,n_f32]
  f28:=λa1=>by
   rw[zab (show (1:Nat)≠6 by decide)]at a1
   simp[h.f28 a1,sz,g0,g2,g4,g5,g6,n_f32]
  f29:=λa2=>by
   rw[zab (show (2:Nat)≠6 by decide)]at a2
   simp[h.f29 a2,sz,g0,g2,g4,g5,g6,n_f32]
  f30:=λa3=>by
   rw[zab (show (3:Nat)≠6 by decide)]at a3
   simp[h.f30 a3,sz,g0,g2,g4,g5,g6,n_f32]
  f31:=λa4=>by
   rw[zab (show (4:Nat)≠6 by decide)]at a4
   simp[h.f31 a4,sz,g0,g2,g4,g5,g6,n_f32]
  f32:=λa5 a6=>by rw[zg6]at a6;cases a6
  f26a:=λa6 a7=>by
   rw[zab (show (7:Nat)≠6 by decide)]at a7
   simp[sz,g0,g2,g4,g5,g6,n_f32]
  f26b:=λ_ a7=>by
   rw[zab (show (7:Nat)≠6 by decide)]at a7
   rw[h.c76 a7]at hc;cases hc
  f33:=λa7 a10=>by
   rw[zab (show (7:Nat)≠6 by decide)]at a7
   rw[zab (show (10:Nat)≠6 by decide)]at a10
   simp[h.f33 a7 a10,sz,g0,g2,g4,g5,g6,n_f32]
  f34:=λa8=>by
   rw[zab (show (8:Nat)≠6 by decide)]at a8
   simp[h.f34 a8,sz,g0,g2,g4,g5,g6,n_f32]
  f7:=λa9=>by
   rw[zab (show (9:Nat)≠6 by decide)]at a9
   simp[h.f7 a9,sz,g0,g2,g4,g5,g6,n_f32]
  f8:=λa11=>by
   rw[zab (show (11:Nat)≠6 by decide)]at a11
   simp[h.f8 a11,sz,g0,g2,g4,g5,g6,n_f32]}
set_option maxHeartbeats 1000000 in
theorem z7w{t:List UInt8}{xs:zaz}{x:List UInt8}{r r2:Rc}{b:Bool}{i:Nat}(H:GetH xs x r r2 b i){B:Nat->Option (List A)}{d:List Nat}{E:Env}(h:GetI t xs x r r2 b i B d E)(hc:d.contains 7=false)(hw:∀j∈[6],d.contains j=true):
 ∃q e1,zmk[7]? =some q/\zdd Tryz.prog ioS C q E=some e1/\GetI t xs x r r2 b i B (7::d) e1:=by
 refine zcc rfl ?_;have w6:d.contains 6=true:=hw 6 (by simp)
 have sz:=h.sz;have g0:=h.g0;have g2:=h.g2;have g4:=h.g4;have g5:=h.g5;have g6:=h.g6;have bb:=h.b4;have n_f26a:=h.f26a w6 hc;simp[sz,g0,g2,g4,g5,g6,n_f26a]
 exact{
  c50:=λa=>by rw[zab (by decide)]at a ⊢;exact h.c50 a
  c109:=λa=>by rw[zab (by decide)]at a ⊢;exact h.c109 a
  c76:=λ_=>by rw[zab (by decide)];exact w6
  sz:=by simp[sz,g0,g2,g4,g5,g6,n_f26a]
  g0:=by simp[sz,g0,g2,g4,g5,g6,n_f26a]
  g2:=by simp[sz,g0,g2,g4,g5,g6,n_f26a]
  g4:=by simp[sz,g0,g2,g4,g5,g6,n_f26a]
  g5:=by simp[sz,g0,g2,g4,g5,g6,n_f26a]
  g6:=by simp[sz,g0,g2,g4,g5,g6,n_f26a]
  bo:=λj j4 j7=>by
   have:=h.bo j j4 j7;simp[j4,j7,this,sz,g0,g2,g4,g5,g6,n_f26a]
  b4:=by
   rw[zab (show (5:Nat)≠7 by decide)]
   simp[sz,g0,g2,g4,g5,g6,n_f26a,h.b4]
  b7:=λa=>by
   rw[zab (show (9:Nat)≠7 by decide)]at a
   rw[zab (show (10:Nat)≠7 by decide)]
   simp[h.b7 a,sz,g0,g2,g4,g5,g6,n_f26a]
  f27:=λa0 a5=>by
   rw[zab (show (0:Nat)≠7 by decide)]at a0
   rw[zab (show (5:Nat)≠7 by decide)]at a5
   simp[h.f27 a0 a5,sz,g0,g2,g4,g5,g6,n_f26a]
  f28:=λa1=>by
   rw[zab (show (1:Nat)≠7 by decide)]at a1
   simp[h.f28 a1,sz,g0,g2,g4,g5,g6,n_f26a]
  f29:=λa2=>by
   rw[zab (show (2:Nat)≠7 by decide)]at a2
   simp[h.f29 a2,sz,g0,g2,g4,g5,g6,n_f26a]
  f30:=λa3=>by
   rw[zab (show (3:Nat)≠7 by decide)]at a3
   simp[h.f30 a3,sz,g0,g2,g4,g5,g6,n_f26a]
  f31:=λa4=>by
   rw[zab (show (4:Nat)≠7 by decide)]at a4
   simp[h.f31 a4,sz,g0,g2,g4,g5,g6,n_f26a]
  f32:=λa5 a6=>by
   rw[zab (show (5:Nat)≠7 by decide)]at a5
   rw[zab (show (6:Nat)≠7 by decide)]at a6
   simp[h.f32 a5 a6,sz,g0,g2,g4,g5,g6,n_f26a]
  f26a:=λa6 a7=>by rw[zg6]at a7;cases a7
  f26b:=λa6 a7=>by
   rw[zab (show (6:Nat)≠7 by decide)]at a6
   simp[sz,g0,g2,g4,g5,g6,n_f26a]
  f33:=λa7 a10=>by
   rw[zab (show (10:Nat)≠7 by decide)]at a10
   simp[sz,g0,g2,g4,g5,g6,n_f26a]
  f34:=λa8=>by
   rw[zab (show (8:Nat)≠7 by decide)]at a8
   simp[h.f34 a8,sz,g0,g2,g4,g5,g6,n_f26a]
  f7:=λa9=>by
   rw[zab (show (9:Nat)≠7 by decide)]at a9
   simp[h.f7 a9,sz,g0,g2,g4,g5,g6,n_f26a]
  f8:=λa11=>by
   rw[zab (show (11:Nat)≠7 by decide)]at a11
   simp[h.f8 a11,sz,g0,g2,g4,g5,g6,n_f26a]}
set_option maxHeartbeats 1000000 in
theorem z7x{t:List UInt8}{xs:zaz}{x:List UInt8}{r r2:Rc}{b:Bool}{i:Nat}(H:GetH xs x r r2 b i){B:Nat->Option (List A)}{d:List Nat}{E:Env}(h:GetI t xs x r r2 b i B d E)(hc:d.contains 8=false)(hw:∀j∈[6],d.contains j=true):
 ∃q e1,zmk[8]? =some q/\zdd Tryz.prog ioS C q E=some e1/\GetI t xs x r r2 b i B (8::d) e1:=by
 refine zcc rfl ?_;have w6:d.contains 6=true:=hw 6 (by simp)
 have sz:=h.sz;have g0:=h.g0;have g2:=h.g2;have g4:=h.g4;have g5:=h.g5;have g6:=h.g6;have bb:=h.b4
 cases h7:d.contains 7 with
 |true=>
  have n_f26:=h.f26b w6 h7;simp[sz,g0,g2,g4,g5,g6,n_f26]
  exact{
   c50:=λa=>by rw[zab (by decide)]at a ⊢;exact h.c50 a
   c109:=λa=>by rw[zab (by decide)]at a ⊢;exact h.c109 a
   c76:=λa=>by rw[zab (by decide)]at a ⊢;exact h.c76 a
   sz:=by simp[sz,g0,g2,g4,g5,g6,n_f26]
   g0:=by simp[sz,g0,g2,g4,g5,g6,n_f26]
   g2:=by simp[sz,g0,g2,g4,g5,g6,n_f26]
   g4:=by simp[sz,g0,g2,g4,g5,g6,n_f26]
   g5:=by simp[sz,g0,g2,g4,g5,g6,n_f26]
   g6:=by simp[sz,g0,g2,g4,g5,g6,n_f26]
   bo:=λj j4 j7=>by
    have:=h.bo j j4 j7;simp[j4,j7,this,sz,g0,g2,g4,g5,g6,n_f26]
   b4:=by
    rw[zab (show (5:Nat)≠8 by decide)]
    simp[sz,g0,g2,g4,g5,g6,n_f26,h.b4]
   b7:=λa=>by
    rw[zab (show (9:Nat)≠8 by decide)]at a
    rw[zab (show (10:Nat)≠8 by decide)]
    simp[h.b7 a,sz,g0,g2,g4,g5,g6,n_f26]
   f27:=λa0 a5=>by
    rw[zab (show (0:Nat)≠8 by decide)]at a0
    rw[zab (show (5:Nat)≠8 by decide)]at a5
    simp[h.f27 a0 a5,sz,g0,g2,g4,g5,g6,n_f26]
   f28:=λa1=>by
    rw[zab (show (1:Nat)≠8 by decide)]at a1
    simp[h.f28 a1,sz,g0,g2,g4,g5,g6,n_f26]
   f29:=λa2=>by
    rw[zab (show (2:Nat)≠8 by decide)]at a2
    simp[h.f29 a2,sz,g0,g2,g4,g5,g6,n_f26]
   f30:=λa3=>by
    rw[zab (show (3:Nat)≠8 by decide)]at a3
    simp[h.f30 a3,sz,g0,g2,g4,g5,g6,n_f26]
   f31:=λa4=>by
    rw[zab (show (4:Nat)≠8 by decide)]at a4
    simp[h.f31 a4,sz,g0,g2,g4,g5,g6,n_f26]
   f32:=λa5 a6=>by
    rw[zab (show (5:Nat)≠8 by decide)]at a5
    rw[zab (show (6:Nat)≠8 by decide)]at a6
    simp[h.f32 a5 a6,sz,g0,g2,g4,g5,g6,n_f26]
   f26a:=λa6 a7=>by
    rw[zab (show (6:Nat)≠8 by decide)]at a6
    rw[zab (show (7:Nat)≠8 by decide)]at a7
    simp[h.f26a a6 a7,sz,g0,g2,g4,g5,g6,n_f26]
   f26b:=λa6 a7=>by
    rw[zab (show (6:Nat)≠8 by decide)]at a6
    rw[zab (show (7:Nat)≠8 by decide)]at a7
    simp[h.f26b a6 a7,sz,g0,g2,g4,g5,g6,n_f26]
   f33:=λa7 a10=>by
    rw[zab (show (7:Nat)≠8 by decide)]at a7
    rw[zab (show (10:Nat)≠8 by decide)]at a10
    simp[h.f33 a7 a10,sz,g0,g2,g4,g5,g6,n_f26]
   f34:=λa8=>by
    simp[sz,g0,g2,g4,g5,g6,n_f26]
   f7:=λa9=>by
    rw[zab (show (9:Nat)≠8 by decide)]at a9
    simp[h.f7 a9,sz,g0,g2,g4,g5,g6,n_f26]
   f8:=λa11=>by
    rw[zab (show (11:Nat)≠8 by decide)]at a11
    simp[h.f8 a11,sz,g0,g2,g4,g5,g6,n_f26]}
 |false=>
  have n_f26:=h.f26a w6 h7;simp[sz,g0,g2,g4,g5,g6,n_f26]
  exact{
   c50:=λa=>by rw[zab (by decide)]at a ⊢;exact h.c50 a
   c109:=λa=>by rw[zab (by decide)]at a ⊢;exact h.c109 a
   c76:=λa=>by rw[zab (by decide)]at a ⊢;exact h.c76 a
   sz:=by simp[sz,g0,g2,g4,g5,g6,n_f26]
   g0:=by simp[sz,g0,g2,g4,g5,g6,n_f26]
   g2:=by simp[sz,g0,g2,g4,g5,g6,n_f26]
   g4:=by simp[sz,g0,g2,g4,g5,g6,n_f26]
   g5:=by simp[sz,g0,g2,g4,g5,g6,n_f26]
   g6:=by simp[sz,g0,g2,g4,g5,g6,n_f26]
   bo:=λj j4 j7=>by
    have:=h.bo j j4 j7;simp[j4,j7,this,sz,g0,g2,g4,g5,g6,n_f26]
   b4:=by
    rw[zab (show (5:Nat)≠8 by decide)]
    simp[sz,g0,g2,g4,g5,g6,n_f26,h.b4]
   b7:=λa=>by
    rw[zab (show (9:Nat)≠8 by decide)]at a
    rw[zab (show (10:Nat)≠8 by decide)]
    simp[h.b7 a,sz,g0,g2,g4,g5,g6,n_f26]
   f27:=λa0 a5=>by
    rw[zab (show (0:Nat)≠8 by decide)]at a0
    rw[zab (show (5:Nat)≠8 by decide)]at a5
    simp[h.f27 a0 a5,sz,g0,g2,g4,g5,g6,n_f26]
   f28:=λa1=>by
    rw[zab (show (1:Nat)≠8 by decide)]at a1
    simp[h.f28 a1,sz,g0,g2,g4,g5,g6,n_f26]
   f29:=λa2=>by
    rw[zab (show (2:Nat)≠8 by decide)]at a2
    simp[h.f29 a2,sz,g0,g2,g4,g5,g6,n_f26]
   f30:=λa3=>by
    rw[zab (show (3:Nat)≠8 by decide)]at a3
    simp[h.f30 a3,sz,g0,g2,g4,g5,g6,n_f26]
   f31:=λa4=>by
    rw[zab (show (4:Nat)≠8 by decide)]at a4
    simp[h.f31 a4,sz,g0,g2,g4,g5,g6,n_f26]
   f32:=λa5 a6=>by
    rw[zab (show (5:Nat)≠8 by decide)]at a5
    rw[zab (show (6:Nat)≠8 by decide)]at a6
    simp[h.f32 a5 a6,sz,g0,g2,g4,g5,g6,n_f26]
   f26a:=λa6 a7=>by
    rw[zab (show (6:Nat)≠8 by decide)]at a6
    rw[zab (show (7:Nat)≠8 by decide)]at a7
    simp[h.f26a a6 a7,sz,g0,g2,g4,g5,g6,n_f26]
   f26b:=λa6 a7=>by
    rw[zab (show (6:Nat)≠8 by decide)]at a6
    rw[zab (show (7:Nat)≠8 by decide)]at a7
    simp[h.f26b a6 a7,sz,g0,g2,g4,g5,g6,n_f26]
   f33:=λa7 a10=>by
    rw[zab (show (7:Nat)≠8 by decide)]at a7
    rw[zab (show (10:Nat)≠8 by decide)]at a10
    simp[h.f33 a7 a10,sz,g0,g2,g4,g5,g6,n_f26]
   f34:=λa8=>by
    simp[sz,g0,g2,g4,g5,g6,n_f26]
   f7:=λa9=>by
    rw[zab (show (9:Nat)≠8 by decide)]at a9
    simp[h.f7 a9,sz,g0,g2,g4,g5,g6,n_f26]
   f8:=λa11=>by
    rw[zab (show (11:Nat)≠8 by decide)]at a11
    simp[h.f8 a11,sz,g0,g2,g4,g5,g6,n_f26]}
set_option maxHeartbeats 1000000 in
theorem z7y{t:List UInt8}{xs:zaz}{x:List UInt8}{r r2:Rc}{b:Bool}{i:Nat}(H:GetH xs x r r2 b i){B:Nat->Option (List A)}{d:List Nat}{E:Env}(h:GetI t xs x r r2 b i B d E)(hc:d.contains 9=false):
 ∃q e1,zmk[9]? =some q/\zdd Tryz.prog ioS C q E=some e1/\GetI t xs x r r2 b i B (9::d) e1:=by
 refine zcc rfl ?_;have sz:=h.sz;have g0:=h.g0;have g2:=h.g2;have g4:=h.g4;have g5:=h.g5;have g6:=h.g6;have bb:=h.b4;simp[sz,g0,g2,g4,g5,g6]
 exact{
  c50:=λa=>by rw[zab (by decide)]at a ⊢;exact h.c50 a
  c109:=λ_=>zg6 _ _
  c76:=λa=>by rw[zab (by decide)]at a ⊢;exact h.c76 a
  sz:=by simp[sz,g0,g2,g4,g5,g6]
  g0:=by simp[sz,g0,g2,g4,g5,g6]
  g2:=by simp[sz,g0,g2,g4,g5,g6]
  g4:=by simp[sz,g0,g2,g4,g5,g6]
  g5:=by simp[sz,g0,g2,g4,g5,g6]
  g6:=by simp[sz,g0,g2,g4,g5,g6]
  bo:=λj j4 j7=>by
   have:=h.bo j j4 j7;simp[j4,j7,this,sz,g0,g2,g4,g5,g6]
  b4:=by
   rw[zab (show (5:Nat)≠9 by decide)]
   simp[sz,g0,g2,g4,g5,g6,h.b4]
  b7:=λ_=>by
   have c10:d.contains 10=false:=by
    cases h10:d.contains 10 with
    |false=>rfl
    |true=>rw[h.c109 h10]at hc;cases hc
   rw[zab (show (10:Nat)≠9 by decide),c10]
   simp[sz,g0,g2,g4,g5,g6,rc0]
  f27:=λa0 a5=>by
   rw[zab (show (0:Nat)≠9 by decide)]at a0
   rw[zab (show (5:Nat)≠9 by decide)]at a5
   simp[h.f27 a0 a5,sz,g0,g2,g4,g5,g6]
  f28:=λa1=>by
   rw[zab (show (1:Nat)≠9 by decide)]at a1
   simp[h.f28 a1,sz,g0,g2,g4,g5,g6]
  f29:=λa2=>by
   rw[zab (show (2:Nat)≠9 by decide)]at a2
   simp[h.f29 a2,sz,g0,g2,g4,g5,g6]
  f30:=λa3=>by
   rw[zab (show (3:Nat)≠9 by decide)]at a3
   simp[h.f30 a3,sz,g0,g2,g4,g5,g6]
  f31:=λa4=>by
   rw[zab (show (4:Nat)≠9 by decide)]at a4
   simp[h.f31 a4,sz,g0,g2,g4,g5,g6]
  f32:=λa5 a6=>by
   rw[zab (show (5:Nat)≠9 by decide)]at a5
   rw[zab (show (6:Nat)≠9 by decide)]at a6
   simp[h.f32 a5 a6,sz,g0,g2,g4,g5,g6]
  f26a:=λa6 a7=>by
   rw[zab (show (6:Nat)≠9 by decide)]at a6
   rw[zab (show (7:Nat)≠9 by decide)]at a7
   simp[h.f26a a6 a7,sz,g0,g2,g4,g5,g6]
  f26b:=λa6 a7=>by
   rw[zab (show (6:Nat)≠9 by decide)]at a6
   rw[zab (show (7:Nat)≠9 by decide)]at a7
   simp[h.f26b a6 a7,sz,g0,g2,g4,g5,g6]
  f33:=λa7 a10=>by
   rw[zab (show (7:Nat)≠9 by decide)]at a7
   rw[zab (show (10:Nat)≠9 by decide)]at a10
   simp[h.f33 a7 a10,sz,g0,g2,g4,g5,g6]
  f34:=λa8=>by
   rw[zab (show (8:Nat)≠9 by decide)]at a8
   simp[h.f34 a8,sz,g0,g2,g4,g5,g6]
  f7:=λa9=>by
   simp[sz,g0,g2,g4,g5,g6]
  f8:=λa11=>by
   rw[zab (show (11:Nat)≠9 by decide)]at a11
   simp[h.f8 a11,sz,g0,g2,g4,g5,g6]}
set_option maxHeartbeats 1000000 in
theorem z4p{t:List UInt8}{xs:zaz}{x:List UInt8}{r r2:Rc}{b:Bool}{i:Nat}(H:GetH xs x r r2 b i){B:Nat->Option (List A)}{d:List Nat}{E:Env}(h:GetI t xs x r r2 b i B d E)(hc:d.contains 10=false)(hw:∀j∈[9,7,5,0,1,2,3,4,6],d.contains j=true):
 ∃q e1,zmk[10]? =some q/\zdd Tryz.prog ioS C q E=some e1/\GetI t xs x r r2 b i B (10::d) e1:=by
 refine zcc rfl ?_;have w9:d.contains 9=true:=hw 9 (by simp)
 have w7:d.contains 7=true:=hw 7 (by simp)
 have w5:d.contains 5=true:=hw 5 (by simp)
 have w0:d.contains 0=true:=hw 0 (by simp)
 have w1:d.contains 1=true:=hw 1 (by simp)
 have w2:d.contains 2=true:=hw 2 (by simp)
 have w3:d.contains 3=true:=hw 3 (by simp)
 have w4:d.contains 4=true:=hw 4 (by simp)
 have w6:d.contains 6=true:=hw 6 (by simp)
 have sz:=h.sz;have g0:=h.g0;have g2:=h.g2;have g4:=h.g4;have g5:=h.g5;have g6:=h.g6;have bb:=h.b4;have n_f33:=h.f33 w7 hc;have n_f7:=h.f7 w9;have n_b7:=h.b7 w9;rw[hc]at n_b7;simp only[Bool.false_eq_true,if_false]at n_b7;simp[sz,g0,g2,g4,g5,g6,n_f33,n_f7,n_b7]
 exact{
  c50:=λa=>by rw[zab (by decide)]at a ⊢;exact h.c50 a
  c109:=λ_=>by rw[zab (by decide)];exact w9
  c76:=λa=>by rw[zab (by decide)]at a ⊢;exact h.c76 a
  sz:=by simp[sz,g0,g2,g4,g5,g6,n_f33,n_f7,n_b7]
  g0:=by simp[sz,g0,g2,g4,g5,g6,n_f33,n_f7,n_b7]
  g2:=by simp[sz,g0,g2,g4,g5,g6,n_f33,n_f7,n_b7]
  g4:=by simp[sz,g0,g2,g4,g5,g6,n_f33,n_f7,n_b7]
  g5:=by simp[sz,g0,g2,g4,g5,g6,n_f33,n_f7,n_b7]
  g6:=by simp[sz,g0,g2,g4,g5,g6,n_f33,n_f7,n_b7]
  bo:=λj j4 j7=>by
   have:=h.bo j j4 j7;simp[j4,j7,this,sz,g0,g2,g4,g5,g6,n_f33,n_f7,n_b7]
  b4:=by
   rw[zab (show (5:Nat)≠10 by decide)]
   simp[sz,g0,g2,g4,g5,g6,n_f33,n_f7,n_b7,h.b4]
  b7:=λ_=>by
   rw[zg6];simp[sz,g0,g2,g4,g5,g6,n_f33,n_f7,n_b7]
  f27:=λa0 a5=>by
   rw[zab (show (0:Nat)≠10 by decide)]at a0
   rw[zab (show (5:Nat)≠10 by decide)]at a5
   simp[h.f27 a0 a5,sz,g0,g2,g4,g5,g6,n_f33,n_f7,n_b7]
  f28:=λa1=>by
   rw[zab (show (1:Nat)≠10 by decide)]at a1
   simp[h.f28 a1,sz,g0,g2,g4,g5,g6,n_f33,n_f7,n_b7]
  f29:=λa2=>by
   rw[zab (show (2:Nat)≠10 by decide)]at a2
   simp[h.f29 a2,sz,g0,g2,g4,g5,g6,n_f33,n_f7,n_b7]
  f30:=λa3=>by
   rw[zab (show (3:Nat)≠10 by decide)]at a3
   simp[h.f30 a3,sz,g0,g2,g4,g5,g6,n_f33,n_f7,n_b7]
  f31:=λa4=>by
   rw[zab (show (4:Nat)≠10 by decide)]at a4
   simp[h.f31 a4,sz,g0,g2,g4,g5,g6,n_f33,n_f7,n_b7]
  f32:=λa5 a6=>by
   rw[zab (show (5:Nat)≠10 by decide)]at a5
   rw[zab (show (6:Nat)≠10 by decide)]at a6
   simp[h.f32 a5 a6,sz,g0,g2,g4,g5,g6,n_f33,n_f7,n_b7]
  f26a:=λa6 a7=>by
   rw[zab (show (6:Nat)≠10 by decide)]at a6
   rw[zab (show (7:Nat)≠10 by decide)]at a7
   simp[h.f26a a6 a7,sz,g0,g2,g4,g5,g6,n_f33,n_f7,n_b7]
  f26b:=λa6 a7=>by
   rw[zab (show (6:Nat)≠10 by decide)]at a6
   rw[zab (show (7:Nat)≠10 by decide)]at a7
   simp[h.f26b a6 a7,sz,g0,g2,g4,g5,g6,n_f33,n_f7,n_b7]
  f33:=λa7 a10=>by rw[zg6]at a10;cases a10
  f34:=λa8=>by
   rw[zab (show (8:Nat)≠10 by decide)]at a8
   simp[h.f34 a8,sz,g0,g2,g4,g5,g6,n_f33,n_f7,n_b7]
  f7:=λa9=>by
   rw[zab (show (9:Nat)≠10 by decide)]at a9
   simp[h.f7 a9,sz,g0,g2,g4,g5,g6,n_f33,n_f7,n_b7]
  f8:=λa11=>by
   rw[zab (show (11:Nat)≠10 by decide)]at a11
   simp[h.f8 a11,sz,g0,g2,g4,g5,g6,n_f33,n_f7,n_b7]}
set_option maxHeartbeats 1000000 in
theorem z4q{t:List UInt8}{xs:zaz}{x:List UInt8}{r r2:Rc}{b:Bool}{i:Nat}(H:GetH xs x r r2 b i){B:Nat->Option (List A)}{d:List Nat}{E:Env}(h:GetI t xs x r r2 b i B d E)(hc:d.contains 11=false)(hw:∀j∈[8,10,0,1,2,3,4,5,6,7,9],d.contains j=true):
 ∃q e1,zmk[11]? =some q/\zdd Tryz.prog ioS C q E=some e1/\GetI t xs x r r2 b i B (11::d) e1:=by
 refine zcc rfl ?_;have w8:d.contains 8=true:=hw 8 (by simp)
 have w10:d.contains 10=true:=hw 10 (by simp)
 have w0:d.contains 0=true:=hw 0 (by simp)
 have w1:d.contains 1=true:=hw 1 (by simp)
 have w2:d.contains 2=true:=hw 2 (by simp)
 have w3:d.contains 3=true:=hw 3 (by simp)
 have w4:d.contains 4=true:=hw 4 (by simp)
 have w5:d.contains 5=true:=hw 5 (by simp)
 have w6:d.contains 6=true:=hw 6 (by simp)
 have w7:d.contains 7=true:=hw 7 (by simp)
 have w9:d.contains 9=true:=hw 9 (by simp)
 have sz:=h.sz;have g0:=h.g0;have g2:=h.g2;have g4:=h.g4;have g5:=h.g5;have g6:=h.g6;have bb:=h.b4;have n_f34:=h.f34 w8;simp[sz,g0,g2,g4,g5,g6,n_f34]
 exact{
  c50:=λa=>by rw[zab (by decide)]at a ⊢;exact h.c50 a
  c109:=λa=>by rw[zab (by decide)]at a ⊢;exact h.c109 a
  c76:=λa=>by rw[zab (by decide)]at a ⊢;exact h.c76 a
  sz:=by simp[sz,g0,g2,g4,g5,g6,n_f34]
  g0:=by simp[sz,g0,g2,g4,g5,g6,n_f34]
  g2:=by simp[sz,g0,g2,g4,g5,g6,n_f34]
  g4:=by simp[sz,g0,g2,g4,g5,g6,n_f34]
  g5:=by simp[sz,g0,g2,g4,g5,g6,n_f34]
  g6:=by simp[sz,g0,g2,g4,g5,g6,n_f34]
  bo:=λj j4 j7=>by
   have:=h.bo j j4 j7;simp[j4,j7,this,sz,g0,g2,g4,g5,g6,n_f34]
  b4:=by
   rw[zab (show (5:Nat)≠11 by decide)]
   simp[sz,g0,g2,g4,g5,g6,n_f34,h.b4]
  b7:=λa=>by
   rw[zab (show (9:Nat)≠11 by decide)]at a
   rw[zab (show (10:Nat)≠11 by decide)]
   simp[h.b7 a,sz,g0,g2,g4,g5,g6,n_f34]
  f27:=λa0 a5=>by
   rw[zab (show (0:Nat)≠11 by decide)]at a0
   rw[zab (show (5:Nat)≠11 by decide)]at a5
   simp[h.f27 a0 a5,sz,g0,g2,g4,g5,g6,n_f34]
  f28:=λa1=>by
   rw[zab (show (1:Nat)≠11 by decide)]at a1
   simp[h.f28 a1,sz,g0,g2,g4,g5,g6,n_f34]
  f29:=λa2=>by
   rw[zab (show (2:Nat)≠11 by decide)]at a2
   simp[h.f29 a2,sz,g0,g2,g4,g5,g6,n_f34]
  f30:=λa3=>by
   rw[zab (show (3:Nat)≠11 by decide)]at a3
   simp[h.f30 a3,sz,g0,g2,g4,g5,g6,n_f34]
  f31:=λa4=>by
   rw[zab (show (4:Nat)≠11 by decide)]at a4
   simp[h.f31 a4,sz,g0,g2,g4,g5,g6,n_f34]
  f32:=λa5 a6=>by
   rw[zab (show (5:Nat)≠11 by decide)]at a5
   rw[zab (show (6:Nat)≠11 by decide)]at a6
   simp[h.f32 a5 a6,sz,g0,g2,g4,g5,g6,n_f34]
  f26a:=λa6 a7=>by
   rw[zab (show (6:Nat)≠11 by decide)]at a6
   rw[zab (show (7:Nat)≠11 by decide)]at a7
   simp[h.f26a a6 a7,sz,g0,g2,g4,g5,g6,n_f34]
  f26b:=λa6 a7=>by
   rw[zab (show (6:Nat)≠11 by decide)]at a6
   rw[zab (show (7:Nat)≠11 by decide)]at a7
   simp[h.f26b a6 a7,sz,g0,g2,g4,g5,g6,n_f34]
  f33:=λa7 a10=>by
   rw[zab (show (7:Nat)≠11 by decide)]at a7
   rw[zab (show (10:Nat)≠11 by decide)]at a10
   simp[h.f33 a7 a10,sz,g0,g2,g4,g5,g6,n_f34]
  f34:=λa8=>by
   rw[zab (show (8:Nat)≠11 by decide)]at a8
   simp[h.f34 a8,sz,g0,g2,g4,g5,g6,n_f34]
  f7:=λa9=>by
   rw[zab (show (9:Nat)≠11 by decide)]at a9
   simp[h.f7 a9,sz,g0,g2,g4,g5,g6,n_f34]
  f8:=λa11=>by
   simp[sz,g0,g2,g4,g5,g6,n_f34]}
end Go.Qz
namespace Go.Qz
open Go.Proofs
theorem z7z(t:List UInt8)(h:t.length<=1048576):neSz (zlq t).1:=zrf t h
set_option maxHeartbeats 4000000 in
theorem zrh(t:List UInt8)(h:t.length<=1048576):C Fn27 [.ro (T t)] []=some (.tup [.own (RcD (getS t).1),.ro (.bool (getS t).2)],[]):=by
 refine zaf Tryz.func27 Cv27 rfl ?_;have hcut:=zjn t 10 10 rfl h;have hwl:IntKind.i64.wrap ((t.length:Int)+1)=((t.length+1:Nat):Int):=zae (by omega)
 have hcnt:=zff 10 t;have hmem:=zfe 10 t;have hne:=zgz 10 t;unfold getS;generalize zav 10 t=xs at *;obtain⟨L,hL⟩:∃L,L=xs.dropLast.take 60:=⟨_,rfl⟩;obtain⟨R,hR⟩:∃R,zb4 zlq rc0 L=R:=⟨_,rfl⟩;rw[<-hL,hR];have hxl:1<=xs.length:=by cases xs with|nil=>exact absurd rfl hne|cons a b=>simp
 have hLl:L.length=min 60 (xs.length-1):=by rw[hL,List.length_take,List.length_dropLast]
 have hLx:∀i (hi:i<L.length),∃h2:i<xs.length,xs[i]=L[i]:=by
  intro i hi;refine⟨by omega,?_⟩
  subst hL;simp
 have hLm:∀x∈L,x.length<=1048576:=λx hx=>by
  rw[hL]at hx;have:=hmem x (List.dropLast_subset _ (List.mem_of_mem_take hx));omega
 clear hL hmem;obtain⟨W,hW⟩:∃W,(if R.2&&(decide (t.length<=1500)&&(decide (zb9 R.1=0)&&putR R.1==t))then R else(rc0,false))=W:=⟨_,rfl⟩
 rw[hW]
 have go2:∀(r:Rc) (e:Env),RcN 60 r->R=(r,true)->e.size=55->e.get 0=.one (.ro (T t))->e.get 2=.one (.ptr 2 0)->e.box 2=some (RBo rc0)->e.get 4=.one (.ptr 4 0)->e.box 4=some (RBo r)->
  Run cx q27c4 e [.fn [(.cell 2 29,29),(.tmp 3,4)] []]=some (.tup [.own (RcD W.1),.ro (.bool W.2)],[]):=by
  intro r e hN hr hsz e0 e2 b2 e4 b4;rw[<-hW];subst hr;simp only[Bool.true_and];have hc:=zh8 r hN.sz;by_cases hlen:t.length<=1500
  ·have h1:¬(1500:Int)<(t.length:Int):=by omega
   by_cases hz:zb9 r=0
   ·have hput:=zx1 r hN.sz (by have:=zkt (zh5 (zdc hz).1);omega)
    rw[hz]at hc;by_cases hq:putR r=t
    ·simp[hsz,e0,e2,b2,e4,b4,h1,hc,hput,hlen,hz,hq]
    ·have hq':(putR r==t)=false:=by simpa using hq
     simp[hsz,e0,e2,b2,e4,b4,h1,hc,hput,hlen,hz,hq,hq',rc0]
   ·have hz':(zb9 r==0)=false:=by simpa using hz
    simp[hsz,e0,e2,b2,e4,b4,h1,hc,hlen,hz,hz',rc0]
  ·have h1:(1500:Int)<(t.length:Int):=by omega
   simp[hsz,e0,e2,b2,e4,b4,h1,hlen,rc0]
 simp[hwl,hcut,-z2c]
 refine zak (λm e=> ∃i r,m=L.length-i/\i<=L.length/\RcN i r/\e.size=55/\e.get 0=.one (.ro (T t))/\e.get 2=.one (.ptr 2 0)/\e.box 2=some (RBo rc0)/\e.get 4=.one (.ptr 4 0)/\e.box 4=some (RBo r)/\e.get 5=.one (.own (SS xs))/\e.get 6=.one (.ro (N i))/\zb4 zlq r (L.drop i)=R)
  ?_ L.length _ ⟨0,rc0,rfl,Nat.zero_le _,rc0_N,by simp,by simp,by simp,by simp[rc0],by simp,by simp[rc0],by simp,by simp,hR⟩
 rintro m e ⟨i,r,rfl,hi,hN,hsz,e0,e2,b2,e4,b4,e5,e6,hr⟩ ih;have hwi:IntKind.i64.wrap ((i:Int)+1)=((i+1:Nat):Int):=zae (by omega)
 rcases Nat.lt_or_ge i L.length with hlt|hge
 ·have hd:L.drop i=L[i]::L.drop (i+1):=List.drop_eq_getElem_cons hlt;obtain⟨hix,hxe⟩:=hLx i hlt;have hln:=z4l r L[i] i hN (by omega) (hLm _ (List.getElem_mem hlt))
  have hN2:=z4o z7z hN (by omega) (hLm _ (List.getElem_mem hlt))
  have hi1:(i:Int)+1<(xs.length:Int):=by omega
  have hi60:(i:Int)<60:=by omega
  rw[hd,zb4]at hr;have hxe2:xs[i]? =some L[i]:=by rw[List.getElem?_eq_getElem hix,hxe]
  generalize L[i]=x at *;generalize zdl zlq r x=v at *;obtain⟨r2,b⟩:=v;simp only at hln hr hN2;have H:GetH xs x r r2 b i:=⟨hix,hxe2,hln⟩;clear hln;simp[hsz,e0,e5,e6,hwi,hi1,hi60]
  refine z5p _ (sz:=55) (bx:=λk=>if k=7 then some (RBo r2)else if k=4 then some [.ro (T r.name),.ro (T r.ver),.dead,.dead,.dead,.dead,.dead,.dead]else e.box k)
   (ts:=[(0,.one (.ro (T t))),(2,.one (.ptr 2 0)),(4,.one (.ptr 4 0)),(5,.one (.own (SS xs))),(6,.one (.ro (N i))),(7,.one (.ptr 7 0)),(8,.one (.ro (.bool b)))]) ?_ ?_
  ·refine zvn (GetI t xs x r r2 b i e.box) (by decide) ?_ ?_ _ _ _ (by decide) ?_
   ·intro d E hd hI;have d5:=hd 5 (by decide)
    have d7:=hd 7 (by decide)
    have d9:=hd 9 (by decide)
    have d10:=hd 10 (by decide)
    have d11:=hd 11 (by decide)
    have h4:=hI.b4;have h7:=hI.b7 d9;rw[d5]at h4;rw[d10]at h7;simp only[if_true]at h4 h7;have q7:=hI.f7 d9;have q8:=hI.f8 d11;refine⟨hI.sz,λk=>?_,?_⟩
    ·by_cases k7:k=7
     ·subst k7;rw[if_pos rfl];exact h7
     ·by_cases k4:k=4
      ·subst k4;rw[if_neg (by decide),if_pos rfl];exact h4
      ·rw[if_neg k7,if_neg k4];exact hI.bo k k4 k7
    ·intro y hy;simp only[List.mem_cons,List.not_mem_nil,or_false]at hy;rcases hy with rfl|rfl|rfl|rfl|rfl|rfl|rfl
     ·exact hI.g0
     ·exact hI.g2
     ·exact hI.g4
     ·exact hI.g5
     ·exact hI.g6
     ·exact q7
     ·exact q8
   ·intro d E k hk hc hw hI;have hk12:k<12:=hk;rcases(by omega:k=0∨k=1∨k=2∨k=3∨k=4∨k=5∨k=6∨k=7∨k=8∨k=9∨k=10∨k=11)with rfl|rfl|rfl|rfl|rfl|rfl|rfl|rfl|rfl|rfl|rfl|rfl
    ·exact z7p H hI hc
    ·exact z7q H hI hc
    ·exact z7r H hI hc
    ·exact z7s H hI hc hw
    ·exact z7t H hI hc hw
    ·exact z7u H hI hc hw
    ·exact z7v H hI hc hw
    ·exact z7w H hI hc hw
    ·exact z7x H hI hc hw
    ·exact z7y H hI hc
    ·exact z4p H hI hc (λj hj=>hw j (by simp at hj ⊢;omega))
    ·exact z4q H hI hc (λj hj=>hw j (by simp at hj ⊢;omega))
   ·exact{
     c50:=(λa=>nomatch a)
     c109:=(λa=>nomatch a)
     c76:=(λa=>nomatch a)
     sz:=by simp[hsz]
     g0:=by simp[e0]
     g2:=by simp[e2]
     g4:=by simp[e4]
     g5:=by simp[e5]
     g6:=by simp[e6]
     bo:=λk _ _=>by simp
     b4:=by simp[b4]
     b7:=(λa=>nomatch a)
     f27:=(λa=>nomatch a)
     f28:=(λa=>nomatch a)
     f29:=(λa=>nomatch a)
     f30:=(λa=>nomatch a)
     f31:=(λa=>nomatch a)
     f32:=(λa=>nomatch a)
     f26a:=(λa=>nomatch a)
     f26b:=(λa=>nomatch a)
     f33:=(λa=>nomatch a)
     f34:=(λa=>nomatch a)
     f7:=(λa=>nomatch a)
     f8:=(λa=>nomatch a)}
  ·intro e' s' b' t';have n0:=t' _ (by simp:((0:Nat),V.one (.ro (T t)))∈_)
   have n2:=t' (2,.one (.ptr 2 0)) (by simp)
   have n4:=t' (4,.one (.ptr 4 0)) (by simp)
   have n5:=t' (5,.one (.own (SS xs))) (by simp)
   have n6:=t' (6,.one (.ro (N i))) (by simp)
   have n7:=t' (7,.one (.ptr 7 0)) (by simp)
   have n8:=t' (8,.one (.ro (.bool b))) (by simp)
   have m7:=b' 7;have m4:=b' 4;have m2:=b' 2;simp only at n0 n2 n4 n5 n6 n7 n8;simp only[if_true,show ¬((4:Nat)=7) by decide,show ¬((2:Nat)=7) by decide,show ¬((2:Nat)=4) by decide,if_false,b2]at m7 m4 m2
   cases b with
   |false=>
    simp only[Bool.false_eq_true,if_false]at hr;have hW2:W=(rc0,false):=by rw[<-hW,<-hr];rfl
    rw[hW2];simp[s',n0,n2,n4,n5,n6,n7,n8,m7,m4,m2,rc0]
   |true=>
    simp only[if_true]at hr;simp[s',n0,n2,n4,n5,n6,n7,n8,m7,m4,m2,hwi];exact ih _ _ (by omega) ⟨i+1,r2,rfl,by omega,hN2,by simp[s'],by simp[n0],by simp[n2],by simp[m2],by simp[n4],by simp,by simp[n5],by simp,hr⟩
 ·obtain rfl:i=L.length:=by omega
  rw[List.drop_length,zb4]at hr;have hN60:RcN 60 r:=⟨hN.sz,by have:=hN.lets;omega,by have:=hN.builds;omega,by have:=hN.runs;omega,by have:=hN.srcs;omega,by have:=hN.pcs;omega,by have:=hN.steps;omega⟩
  by_cases h1:(L.length:Int)+1<(xs.length:Int)
  ·have h60:¬(L.length:Int)<60:=by omega
   simp[hsz,e5,e6,hwi,h1,h60,-z2c];exact go2 r _ hN60 hr.symm (by simp[hsz]) (by simp[e0]) (by simp[e2]) (by simp[b2]) (by simp[e4]) (by simp[b4])
  ·simp[hsz,e5,e6,hwi,h1,-z2c];exact go2 r _ hN60 hr.symm (by simp[hsz]) (by simp[e0]) (by simp[e2]) (by simp[b2]) (by simp[e4]) (by simp[b4])
end Go.Qz
namespace Go.Qz
open Go.Proofs
theorem yem:RcSz rc0:=rc0_N.sz
theorem yak{r:Rc}(h:Fine r):RcSz r:=by
 have hl:=h.lets;have hb:=h.builds;have hu:=h.runs;have hs:=h.srcs;have hp:=h.pcs;have ht:=h.steps;refine⟨by have:=(zcb h.name).2;omega,by have:=(zkr h.ver).2;omega,by omega,by omega,by omega,by omega,by omega,by omega,λf hf=>?_,λf hf=>?_,λf hf=>?_,λf hf=>?_,λf hf=>?_,λf hf=>?_⟩
 ·have:=hl.1 f hf;unfold letB at this;rw[Bool.and_eq_true]at this;exact⟨by have:=(zcb this.1).2;omega,by have:=(zh6 this.2).2;omega⟩
 ·obtain⟨h1,h2⟩:=zks (hb.1 f hf);refine⟨by have:=(zcb h1).2;omega,?_⟩
  rcases h2 with⟨_,h2⟩|⟨_,h2⟩
  ·rw[h2];simp
  ·have:=(zkr h2).2;omega
 ·obtain⟨h1,h2⟩:=zks (hu.1 f hf);refine⟨by have:=(zcb h1).2;omega,?_⟩
  rcases h2 with⟨_,h2⟩|⟨_,h2⟩
  ·rw[h2];simp
  ·have:=(zkr h2).2;omega
 ·have:=zrb (hs.1 f hf);exact⟨by omega,by omega⟩
 ·have:=hp.1 f hf;unfold pcOk at this;rw[Bool.and_eq_true]at this;exact⟨by have:=(zcb this.1).2;omega,by have:=(zt7 this.2).2;omega⟩
 ·have:=(zh6 (ht.1 f hf)).2;omega
theorem yal(t:List UInt8):RcSz (getI t).1:=by
 cases h:(getI t).2 with
 |true=>exact yak (zh5 (zdc (zol h).1).1)
 |false=>rw[zxz h];exact yem
theorem z71(t:List UInt8)(h:(getI t).2=true):zcv (getI t).1=t:=by
 obtain⟨h1,h2,_⟩:=zol h;unfold zcv;rw[if_pos h1,h2]
set_option maxHeartbeats 1000000 in
set_option maxRecDepth 4000 in
theorem zoy(bs cs:List Int)(hb:∀b∈bs,0<=b/\b<=255)(hc:∀b∈cs,0<=b/\b<=255):C Fn10 [.ro (BS bs),.ro (BS cs)] []=some (.one (.ro (.bool true)),[]):=by
 refine zaf Tryz.func10 Cv10 rfl ?_;by_cases hl:1048576<bs.length
 ·simp[hl]
 by_cases hl2:1048576<cs.length
 ·simp[hl,hl2]
 obtain⟨r,hr,d1⟩:=zmi bs hb;obtain⟨x,hx,d2⟩:=zmj cs hc;have hz:=hr.sz (by omega)
 have pI:=zg5 r hz;have pS:=zkv r hz;have jr:=zkw r hz;have gI:=zkx x (by omega)
 have gS:=zrh x (by omega)
 rw[<-z7a]at gS;have hy:=yal x;have jy:=zkw _ hy;have py:=zg5 _ hy;have hp2:=z71 x
 have hpl:(zcv r).length<=5000:=by
  unfold zcv;split
  ·rename_i h0;have:=zkt (zh5 (zdc h0).1);omega
  ·simp
 have gP:=zkx (zcv r) (by omega)
 have key:getI (zcv r)=(r,true)/\zcv r≠[]/\(zcv r).length<=1500∨getI (zcv r)=(rc0,false)/\(zcv r=[]∨ ¬(zcv r).length<=1500):=by
  by_cases h0:zb9 r=0
  ·have e:zcv r=putR r:=by unfold zcv;rw[if_pos h0]
   rw[e];by_cases h15:(putR r).length<=1500
   ·exact .inl ⟨zwt ⟨h0,rfl,h15⟩,yag r,h15⟩
   ·refine .inr ⟨?_,.inr h15⟩;unfold getI;rw[decide_eq_false h15];simp
  ·have e:zcv r=[]:=by unfold zcv;rw[if_neg h0]
   rw[e];exact .inr ⟨by simp[getI],.inl rfl⟩
 generalize zcv r=s at *;generalize getI x=y at *;obtain⟨y1,y2⟩:=y;simp only at gI gS hy jy py hp2;rcases key with⟨k1,k2,k3⟩|⟨k1,k2⟩
 ·rw[k1]at gP;have e1:(s==[])=false:=by simpa using k2
  have e2:(s.length:Int)<=1500:=by omega
  cases y2 with
  |false=>simp[hl,hl2,d1,d2,pI,pS,jr,gI,gS,jy,py,gP,e1,e2,k2]
  |true=>
   have e3:zcv y1=x:=hp2 rfl;rw[e3]at py;simp[hl,hl2,d1,d2,pI,pS,jr,gI,gS,jy,py,gP,e1,e2,k2]
 ·rw[k1]at gP;rcases k2 with rfl|k2
  ·cases y2 with
   |false=>simp[hl,hl2,d1,d2,pI,pS,jr,gI,gS,jy,py,gP]
   |true=>
    have e3:zcv y1=x:=hp2 rfl;rw[e3]at py;simp[hl,hl2,d1,d2,pI,pS,jr,gI,gS,jy,py,gP]
  ·have e1:(s==[])=false:=by
    cases s with
    |nil=>simp at k2
    |cons a b=>rfl
   have e2:¬(s.length:Int)<=1500:=by omega
   cases y2 with
   |false=>simp[hl,hl2,d1,d2,pI,pS,jr,gI,gS,jy,py,gP,e1,e2]
   |true=>
    have e3:zcv y1=x:=hp2 rfl;rw[e3]at py;simp[hl,hl2,d1,d2,pI,pS,jr,gI,gS,jy,py,gP,e1,e2]
end Go.Qz
