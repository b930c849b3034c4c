import Derived.Test.YtddfkpkieamlpaaGreatDoorQz0
import Derived.Test.YtddfkpkieamlpaaGreatDoorQYc0
import Derived.Test.YtddfkpkieamlpaaGreatDoorQYb0
import Derived.Test.YtddfkpkieamlpaaGreatDoorQYa0
import Derived.Test.YtddfkpkieamlpaaGreatDoorQg0
namespace Go.Qz
open Go.Proofs Go.RowKit
theorem mixed:Tryz.prog.follows .mixedOrders=true:=by kernel_rfl
theorem noGo:(Tryz.prog.funcs.all λfn=> !(fn.name== "runtime.NumGoroutine"))=true:=by kernel_rfl
theorem z5b(f:FuncId)(fn:Func)(hf:Tryz.prog.funcs[f]? =some fn):fn.name≠ "runtime.NumGoroutine" := λhn=>by
 have h:=Array.all_eq_true_iff_forall_mem.1 noGo fn (Array.mem_of_getElem? hf);rw[hn]at h;exact absurd h (by decide)
theorem zde{f:FuncId}{fn:Func}(hf:Tryz.prog.funcs[f]? =some fn)(hb:fn.body.isSome=true):zb0 Tryz.prog f:=⟨fn,hf,hb,z5b f fn hf⟩
theorem RO.takeSl{c:Mem}{z k cap:Nat}{xs:List D}{a:Option Addr}(h:RO c (.sl z xs) (.slice a xs.length cap))(hk:k<=xs.length):RO c (.sl z (xs.take k)) (.slice a k cap):=by
 obtain⟨a',cap',e1,h1,h2⟩:=h.sl_inv;cases e1;by_cases hx:xs=[]
 ·subst hx;obtain rfl:k=0:=by simpa using hk
  exact .sl0
 ·obtain⟨b,off,u,rfl,h3,h4,h5⟩:=h2 hx;have hlen:(xs.take k).length=k:=by rw[List.length_take];omega
  have:=@RO.sl c z (xs.take k) b off cap u (by omega) (λx hx=>h3 x (List.mem_of_mem_take hx)) (λm hm=>h4 m (Nat.lt_of_lt_of_le hm (Nat.mul_le_mul_right _ (by omega)))) (λm d hd=>h5 m d (zp5 h3 hk hd))
  rw[hlen]at this;exact this
theorem zup[Base]:zav Tryz.prog z57:=by
 intro f us bx r bx' h;unfold z57 at h;split at h
 ·rename_i hf;subst hf;split at h
  ·rename_i z xs;split at h
   ·rename_i hc;subst hc;simp only[Option.some.injEq,Prod.mk.injEq]at h;obtain⟨rfl,rfl⟩:=h;refine⟨zde Tryz.func52 (by kernel_rfl),λg w vs hsz hs=>?_⟩
    have e0:RO g.c (.sl 1 xs) (vs.getD 0 undef):=zmg hs (a:=.ro (.sl 1 xs)) rfl;obtain⟨a,cap,hu,hcap,_⟩:=e0.sl_inv
    have e:vs= #[.slice a xs.length cap]:=by
     simp only[List.length_singleton]at hsz;refine Array.ext (by simpa using hsz) (λk hk hk' =>?_)
     obtain rfl:k=0:=by omega
     simpa [Array.getD_eq_getD_getElem?,hk]using hu
    subst e;have hro:RO g.c (.sl 1 xs) (.slice a xs.length cap):=hu▸e0
    have fin:∀k,k<=xs.length->xs.take 2000=xs.take k->Post g (zak 1 [A.ro (.sl 1 xs)] []) w (.agg [.ro (.sl 1 (xs.take 2000)),.ro (.int .i64 0)]) [] (.pointer (some ⟨w.heap.size,0,none⟩)) (w.alloc (.cells #[.slice a k cap,.int .i64 0] 137)):=by
     intro k hk he;refine⟨#[.slice a k cap,.int .i64 0],137,rfl,rfl,rfl,λj d hd=>?_⟩
     match j,hd with
     |0,hd=>
      simp only[List.getElem?_cons_zero,Option.some.injEq,A.ro.injEq]at hd;subst hd;rw[he];exact⟨rfl,hro.takeSl hk⟩
     |1,hd=>
      simp at hd;subst hd;exact⟨rfl,.int _ _⟩
     |j+2,hd=>simp at hd
    by_cases hlen:xs.length<=2000
    ·refine(zxj a xs.length cap hlen w).mono ?_;rintro en w' ⟨rfl,rfl⟩;exact⟨_,rfl,fin xs.length (Nat.le_refl _) (by rw[List.take_of_length_le hlen,List.take_length])⟩
    ·refine(z1m a xs.length cap (by omega) hcap w).mono ?_
     rintro en w' ⟨rfl,rfl⟩;exact⟨_,rfl,fin 2000 (by omega) rfl⟩
   ·cases h
  ·cases h
 ·cases h
structure Start(W:World):Prop where
 maxLen:∃m:Int,W.cell? ⟨1,0,none⟩=some (.int .i64 m)
 sums:∀q,zys Tryz.prog q=true-> ∀(n x:Nat),sumTab[n]? =some x->W.cell? ⟨q,n,none⟩=some (.int .u32 x)
 pow10:Lib.TabIs Tryz.prog W "internal/strconv.uint64pow10" .u64 Lib.pow10Tab
theorem z4w[Base](hT:Start Base.W0):zav Tryz.prog XS:=
 zbw (zro (zde Tryz.func135 (by kernel_rfl)) hT.maxLen (λs t m w h hm=>Tryz.strings_Index s t m w h hm))<|
 zbw (ztz (zde Tryz.func200 (by kernel_rfl)) (λs c w=>Tryz.strings_IndexByte s c w))<|
 zbw (zxg (zde Tryz.func143 (by kernel_rfl)) z3y)<|
 zbw (zxf (zde Tryz.func43 (by kernel_rfl)) hT.maxLen (λs t m w h hm=>Tryz.strings_Cut s t m w h hm))<|
 zbw (zpj (zde Tryz.func139 (by kernel_rfl)) hT.maxLen (λs t n m w h hm h1 h2 h3=>Tryz.strings_SplitN s t n m w h hm h1 (by omega) (by omega)))<|
 zbw (zrq (zde Tryz.func44 (by kernel_rfl)) hT.maxLen (λs t m w h hm h1=>Tryz.strings_Split s t m w h hm h1))<|
 zbw (zty (zde Tryz.func182 (by kernel_rfl)) (λs c w h=>Tryz.strings_LastIndexByte s c h w))<|
 zbw (zt1 (by decide) (zde Tryz.func126 (by kernel_rfl)) hT.pow10 (λn w h0 h1 ht=>Tryz.strconv_Itoa n h0 h1 w ht))<|
 zbw (zt2 (zde Tryz.func125 (by kernel_rfl)) (λb w h0 h1 h2=>Tryz.copyCheck_fresh b w h0 h1 h2) (λb w h0=>Tryz.copyCheck_used b w h0))<|
 zbw (zt3 (zde Tryz.func82 (by kernel_rfl)) (λs b p v tag w h0 h1=>zv0 Tryz.lays169 Tryz.Builder_Extra_169 b s p v tag w h0 h1))<|
 zbw (zxi (zde Tryz.func137 (by kernel_rfl)) (λs t w h1 h2 h3 h4=>Any.indexAny_all Tryz.lays153 (by kernel_rfl) s t w h1 h2 h3 h4))<|
 zbw zup<|
 z1j
theorem ydr:z3i Tryz.prog ioS:=λf hf=>by
 rw[z8c]at hf;obtain rfl:f=202:=by simpa using hf
 exact⟨zde Tryz.func202 (by kernel_rfl),z3z⟩
theorem yds[Base](hT:Start Base.W0):zo2 Tryz.prog:=hT.sums
theorem sound[Base](hT:Start Base.W0):zav Tryz.prog C:=zpd (yds hT) mixed (z4w hT) ydr z5b
end Go.Qz
