import Derived.Test.YtcadiohekccmiaaGreatDoorQx0
import Derived.Test.YtcadiohekccmiaaGreatDoorQYa0
import Derived.Test.YtcadiohekccmiaaGreatDoorQs0
import Derived.Test.YtcadiohekccmiaaGreatDoorQm1
import Derived.Test.YtcadiohekccmiaaGreatDoorQy0
import Derived.Test.YtcadiohekccmiaaGreatDoorQz0
import Derived.Test.YtcadiohekccmiaaGreatDoorQg0
namespace Go.Qz
open Go.Proofs Go.RowKit
theorem mixed : Tryz.prog.follows .mixedOrders = true := by kernel_rfl
theorem noGo : (Tryz.prog.funcs.all fun fn => !(fn.name == "runtime.NumGoroutine")) = true := by kernel_rfl
theorem z19 (f : FuncId) (fn : Func) (hf : Tryz.prog.funcs[f]? = some fn) : fn.name ≠ "runtime.NumGoroutine" := fun hn => by
 have h := Array.all_eq_true_iff_forall_mem.1 noGo fn (Array.mem_of_getElem? hf)
 rw [hn] at h
 exact absurd h (by decide)
theorem zdh {f : FuncId} {fn : Func} (hf : Tryz.prog.funcs[f]? = some fn) (hb : fn.body.isSome = true) : zcs Tryz.prog f := ⟨fn,hf,hb,z19 f fn hf⟩
theorem RO.takeSl {c : Mem} {z k cap : Nat} {xs : List D} {a : Option Addr} (h : RO c (.sl z xs) (.slice a xs.length cap)) (hk : k ≤ xs.length) : RO c (.sl z (xs.take k)) (.slice a k cap) := by
 obtain ⟨a',cap',e1,h1,h2⟩ := h.sl_inv
 cases e1
 by_cases hx : xs = []
 ·subst hx
  obtain rfl : k = 0 := by simpa using hk
  exact .sl0
 ·obtain ⟨b,off,u,rfl,h3,h4,h5⟩ := h2 hx
  have hlen : (xs.take k).length = k := by rw [List.length_take]; omega
  have := @RO.sl c z (xs.take k) b off cap u (by omega) (fun x hx => h3 x (List.mem_of_mem_take hx)) (fun m hm => h4 m (Nat.lt_of_lt_of_le hm (Nat.mul_le_mul_right _ (by omega)))) (fun m d hd => h5 m d (zqk h3 hk hd))
  rw [hlen] at this
  exact this
theorem zu4 [Base] : zao Tryz.prog z6g := by
 intro f us bx r bx' h
 unfold z6g at h
 split at h
 ·rename_i hf
  subst hf
  split at h
  ·rename_i z xs
   split at h
   ·rename_i hc
    subst hc
    simp only [Option.some.injEq,Prod.mk.injEq] at h
    obtain ⟨rfl,rfl⟩ := h
    refine ⟨zdh Tryz.func34 (by kernel_rfl),fun g w vs hsz hs => ?_⟩
    have e0 : RO g.c (.sl 1 xs) (vs.getD 0 undef) := zfl hs (a := .ro (.sl 1 xs)) rfl
    obtain ⟨a,cap,hu,hcap,_⟩ := e0.sl_inv
    have e : vs = #[.slice a xs.length cap] := by
     simp only [List.length_singleton] at hsz
     refine Array.ext (by simpa using hsz) (fun k hk hk' => ?_)
     obtain rfl : k = 0 := by omega
     simpa [Array.getD_eq_getD_getElem?,hk] using hu
    subst e
    have hro : RO g.c (.sl 1 xs) (.slice a xs.length cap) := hu ▸ e0
    have fin : ∀ k,k ≤ xs.length → xs.take 2000 = xs.take k → Post g (zai 1 [A.ro (.sl 1 xs)] []) w (.agg [.ro (.sl 1 (xs.take 2000)),.ro (.int .i64 0)]) [] (.pointer (some ⟨w.heap.size,0,none⟩)) (w.alloc (.cells #[.slice a k cap,.int .i64 0] 113)) := by
     intro k hk he
     refine ⟨#[.slice a k cap,.int .i64 0],113,rfl,rfl,rfl,fun j d hd => ?_⟩
     match j,hd with
     | 0,hd =>
       simp only [List.getElem?_cons_zero,Option.some.injEq,A.ro.injEq] at hd
       subst hd
       rw [he]
       exact ⟨rfl,hro.takeSl hk⟩
     | 1,hd =>
       simp at hd
       subst hd
       exact ⟨rfl,.int _ _⟩
     | j + 2,hd => simp at hd
    by_cases hlen : xs.length ≤ 2000
    ·refine (zxj a xs.length cap hlen w).mono ?_
     rintro en w' ⟨rfl,rfl⟩
     exact ⟨_,rfl,fin xs.length (Nat.le_refl _) (by rw [List.take_of_length_le hlen,List.take_length])⟩
    ·refine (z0s a xs.length cap (by omega) hcap w).mono ?_
     rintro en w' ⟨rfl,rfl⟩
     exact ⟨_,rfl,fin 2000 (by omega) rfl⟩
   ·cases h
  ·cases h
 ·cases h
theorem yax : zzy Tryz.prog ioS := fun f hf => by
 rw [z42] at hf
 obtain rfl : f = 166 := by simpa using hf
 exact ⟨zdh Tryz.func166 (by kernel_rfl),zvt⟩
theorem yay [Base] : zao Tryz.prog (zcr Tryz.prog ioS noX) := zjh mixed zrs yax z19
theorem zx5 : zcr Tryz.prog ioS noX z28 [.ro .snil] [] = some (.one (.own (.sl 1 [])),[]) := by
 refine zac Tryz.func151 z6e rfl ?_
 simp
theorem z2a : zcr Tryz.prog ioS noX z28 [.ro .sne] [] = some (.one (.own (.sl 1 [])),[]) := by
 refine zac Tryz.func151 z6e rfl ?_
 have ha : 0 ≤ zaf := by simp [zaf]
 simp [ha]
theorem zst [Base] : zao Tryz.prog zg3 := by
 intro f us bx r bx' h
 unfold zg3 at h
 split at h
 ·rename_i hf
  subst hf
  split at h
  ·rename_i z
   split at h
   ·rename_i hz
    subst hz
    simp only [Option.some.injEq,Prod.mk.injEq] at h
    obtain ⟨rfl,rfl⟩ := h
    exact z5u yay (z := 1) (k := 0) (ds := [.sl 1 []]) rfl zx5 z2a
   ·cases h
  ·cases h
 ·cases h
theorem zu5 [Base] (hT : Base.W0.cell? ⟨0,0,none⟩ = some (.iface 246 (.agg #[hnd 88]))) : zao Tryz.prog zla := by
 intro f us bx r bx' h
 unfold zla at h
 split at h
 ·rename_i hf
  subst hf
  split at h
  ·simp only [Option.some.injEq,Prod.mk.injEq] at h
   obtain ⟨rfl,rfl⟩ := h
   refine ⟨zdh Tryz.func156 (by kernel_rfl),fun g w vs hsz hs => ?_⟩
   have e := zd8 (ds := [.nili]) hs hsz rfl
   subst e
   refine (zxl w).mono ?_
   rintro en w' ⟨rfl,rfl⟩
   exact ⟨_,rfl,g,_,zen hs ((Below.refl _ _).alloc (Nat.le_refl _) _) (RO.int _ _)⟩
  ·rename_i t k c
   split at h
   ·rename_i hc
    simp only [Bool.and_eq_true,decide_eq_true_eq] at hc
    obtain ⟨rfl,rfl⟩ := hc
    simp only [Option.some.injEq,Prod.mk.injEq] at h
    obtain ⟨rfl,rfl⟩ := h
    refine ⟨zdh Tryz.func156 (by kernel_rfl),fun g w vs hsz hs => ?_⟩
    have e0 : RO g.c (.iface 195 (.agg [.int .i64 c])) (vs.getD 0 undef) := zfl hs (a := .ro (.iface 195 (.agg [.int .i64 c]))) rfl
    obtain ⟨u,hu,hr⟩ := e0.iface_inv
    obtain ⟨us,rfl,hsz2,_,hr2⟩ := hr.agg_inv
    have hi := (hr2 0 (.int .i64 c) rfl).int_inv
    have hus : us = #[.int .i64 c] := by
     refine Array.ext (by simpa using hsz2) (fun k hk hk' => ?_)
     simp only [List.length_singleton] at hsz2
     obtain rfl : k = 0 := by omega
     simpa [Array.getD_eq_getD_getElem?,hk] using hi
    have e : vs = #[.iface 195 (.agg #[.int .i64 c])] := by
     simp only [List.length_singleton] at hsz
     refine Array.ext (by simpa using hsz) (fun k hk hk' => ?_)
     obtain rfl : k = 0 := by omega
     simpa [Array.getD_eq_getD_getElem?,hk,hus] using hu
    have hm : w.cell? ⟨0,0,none⟩ = some (.iface 246 (.agg #[hnd 88])) := zt3 hs hT
    subst e
    refine (zxm c w hm).mono ?_
    rintro en w' ⟨rfl,hb⟩
    exact ⟨_,rfl,g,_,zen hs hb (RO.int _ _)⟩
   ·cases h
  ·cases h
 ·cases h
structure Start (W : World) : Prop where
 maxLen : ∃ m : Int,W.cell? ⟨1,0,none⟩ = some (.int .i64 m)
 error : W.cell? ⟨0,0,none⟩ = some (.iface 246 (.agg #[hnd 88]))
theorem z4u [Base] (hT : Start Base.W0) : zao Tryz.prog XS :=
 zcb (zrt (zdh Tryz.func168 (by kernel_rfl)) hT.maxLen (fun s t m w h hm => Tryz.strings_Index s t m w h hm)) <|
 zcb (zt5 (zdh Tryz.func209 (by kernel_rfl)) (fun s c w => Tryz.strings_IndexByte s c w)) <|
 zcb (zu5 hT.error) <|
 zcb zst <|
 zcb (zxf (zdh Tryz.func70 (by kernel_rfl)) z3k) <|
 zcb (zxe (zdh Tryz.func137 (by kernel_rfl)) hT.maxLen (fun s t m w h hm => Tryz.strings_Cut s t m w h hm)) <|
 zcb (zt6 (zdh Tryz.func131 (by kernel_rfl)) (fun b w h0 h1 h2 => Tryz.copyCheck_fresh b w h0 h1 h2) (fun b w h0 => Tryz.copyCheck_used b w h0)) <|
 zcb (zt7 (zdh Tryz.func66 (by kernel_rfl)) (fun s b p v tag w h0 h1 => zwa Tryz.lays169 Tryz.Builder_Extra_169 b s p v tag w h0 h1)) <|
 zcb (zt9 (zdh Tryz.func64 (by kernel_rfl)) (fun bk o c xs sep w h1 h2 h3 h4 h5 => Tryz.strings_Join bk o c xs sep w h1 h2 h3 h4 h5)) <|
 zcb (zxh (zdh Tryz.func170 (by kernel_rfl)) (fun s t w h1 h2 h3 h4 => Any.indexAny_all Tryz.lays153 (by kernel_rfl) s t w h1 h2 h3 h4)) <|
 zcb zu4 <|
 zrs
theorem ylo : zzy Tryz.prog ioS := fun f hf => by
 rw [z42] at hf
 obtain rfl : f = 166 := by simpa using hf
 exact ⟨zdh Tryz.func166 (by kernel_rfl),zvt⟩
theorem sound [Base] (hT : Start Base.W0) : zao Tryz.prog C := zjh mixed (z4u hT) ylo z19
end Go.Qz
