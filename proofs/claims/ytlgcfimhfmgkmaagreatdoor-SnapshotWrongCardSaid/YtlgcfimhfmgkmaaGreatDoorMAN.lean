/- Lemmas for the statement. -/
import Derived.Shelf.SlSortCmp.WholeK
import Derived.Test.YtlgcfimhfmgkmaaGreatDoorMAK
set_option linter.unusedVariables false
set_option linter.unusedSimpArgs false
set_option maxRecDepth 100000
set_option maxHeartbeats 4000000
set_option maxRecDepth 100000
set_option maxHeartbeats 4000000
namespace Go.Proofs.YtlgcfimhfmgkmaaGreatDoor
open Go.RowKit
section
open Go.Shelf
def Zm1:Go.Shelf.Ren:=⟨fun | 6=>108 | 15=>162 | 14=>164 | 28=>195 | 29=>196 | 20=>197 | 21=>198 | 22=>199 | 23=>200 | 24=>201 | 25=>202 | 26=>203 | 27=>204 | 46=>225 | 47=>221 | 48=>222 | 49=>226 | 50=>227 | 57=>234 | n=>n,fun | 22=>22 | 24=>70 | 25=>179 | 3=>3 | 39=>208 | 0=>0 | 53=>97 | 55=>182 | 4=>4 | 46=>277 | 45=>276 | 50=>118 | 5=>5 | 9=>9 | 66=>304 | 70=>307 | 76=>319 | 77=>320 | n=>n,fun | n=>n⟩
theorem Zhb:Go.Proofs.SlLaysF0.n6 Tryz.prog Zm1 where
 mixed:=by kernel_rfl
 f6:=⟨Tryz.f108.name,by decide,Tryz.func108.trans (congrArg some (by kernel_rfl))⟩
 f14:=⟨Tryz.f164.name,by decide,Tryz.func164.trans (congrArg some (by kernel_rfl))⟩
 f15:=Tryz.func162.trans (congrArg some (by kernel_rfl))
 f20:=⟨Tryz.f197.name,by decide,Tryz.func197.trans (congrArg some (by kernel_rfl))⟩
 f21:=⟨Tryz.f198.name,by decide,Tryz.func198.trans (congrArg some (by kernel_rfl))⟩
 f22:=⟨Tryz.f199.name,by decide,Tryz.func199.trans (congrArg some (by kernel_rfl))⟩
 f23:=⟨Tryz.f200.name,by decide,Tryz.func200.trans (congrArg some (by kernel_rfl))⟩
 f24:=⟨Tryz.f201.name,by decide,Tryz.func201.trans (congrArg some (by kernel_rfl))⟩
 f25:=⟨Tryz.f202.name,by decide,Tryz.func202.trans (congrArg some (by kernel_rfl))⟩
 f26:=⟨Tryz.f203.name,by decide,Tryz.func203.trans (congrArg some (by kernel_rfl))⟩
 f27:=⟨Tryz.f204.name,by decide,Tryz.func204.trans (congrArg some (by kernel_rfl))⟩
 f28:=Tryz.func195.trans (congrArg some (by kernel_rfl))
 f29:=Tryz.func196.trans (congrArg some (by kernel_rfl))
 f46:=⟨Tryz.f225.name,by decide,Tryz.func225.trans (congrArg some (by kernel_rfl))⟩
 f47:=Tryz.func221.trans (congrArg some (by kernel_rfl))
 f48:=Tryz.func222.trans (congrArg some (by kernel_rfl))
 f49:=⟨Tryz.f226.name,by decide,Tryz.func226.trans (congrArg some (by kernel_rfl))⟩
 f50:=⟨Tryz.f227.name,by decide,Tryz.func227.trans (congrArg some (by kernel_rfl))⟩
 f57:=⟨Tryz.f234.name,by decide,Tryz.func234.trans (congrArg some (by kernel_rfl))⟩
 t0:=Tryz.underlying0
 a0:=Tryz.isAgg0
 z0:=Tryz.sizeOf0
 v0:=Tryz.zeroValue0
 t3:=Tryz.underlying3
 a3:=Tryz.isAgg3
 z3:=Tryz.sizeOf3
 v3:=Tryz.zeroValue3
 t4:=Tryz.underlying4
 a4:=Tryz.isAgg4
 z4:=Tryz.sizeOf4
 v4:=Tryz.zeroValue4
 t5:=Tryz.underlying5
 a5:=Tryz.isAgg5
 z5:=Tryz.sizeOf5
 v5:=Tryz.zeroValue5
 t9:=Tryz.underlying9
 a9:=Tryz.isAgg9
 z9:=Tryz.sizeOf9
 v9:=Tryz.zeroValue9
 t22:=Tryz.underlying22
 a22:=Tryz.isAgg22
 z22:=Tryz.sizeOf22
 v22:=Tryz.zeroValue22
 t25:=Tryz.underlying179
 a25:=Tryz.isAgg179
 z25:=Tryz.sizeOf179
 v25:=Tryz.zeroValue179
 t39:=Tryz.underlying208
 a39:=Tryz.isAgg208
 z39:=Tryz.sizeOf208
 v39:=Tryz.zeroValue208
 t45:=Tryz.underlying276
 a45:=Tryz.isAgg276
 z45:=Tryz.sizeOf276
 v45:=Tryz.zeroValue276
 t46:=Tryz.underlying277
 a46:=Tryz.isAgg277
 z46:=Tryz.sizeOf277
 v46:=Tryz.zeroValue277
 t50:=Tryz.underlying118
 a50:=Tryz.isAgg118
 z50:=Tryz.sizeOf118
 v50:=Tryz.zeroValue118
 t53:=Tryz.underlying97
 a53:=Tryz.isAgg97
 z53:=Tryz.sizeOf97
 v53:=Tryz.zeroValue97
 t55:=Tryz.underlying182
 a55:=Tryz.isAgg182
 z55:=Tryz.sizeOf182
 v55:=Tryz.zeroValue182
 t66:=Tryz.underlying304
 a66:=Tryz.isAgg304
 z66:=Tryz.sizeOf304
 v66:=Tryz.zeroValue304
 t70:=Tryz.underlying307
 a70:=Tryz.isAgg307
 z70:=Tryz.sizeOf307
 v70:=Tryz.zeroValue307
 t76:=Tryz.underlying319
 a76:=Tryz.isAgg319
 z76:=Tryz.sizeOf319
 v76:=Tryz.zeroValue319
 t77:=Tryz.underlying320
 a77:=Tryz.isAgg320
 z77:=Tryz.sizeOf320
 v77:=Tryz.zeroValue320
def Zm2:Go.Shelf.Ren:=⟨fun | 6=>103 | 15=>162 | 14=>161 | 28=>195 | 29=>196 | 20=>187 | 21=>188 | 22=>189 | 23=>190 | 24=>191 | 25=>192 | 26=>193 | 27=>194 | 46=>220 | 47=>221 | 48=>222 | 49=>223 | 50=>224 | 57=>233 | n=>n,fun | 22=>170 | 24=>173 | 25=>177 | 3=>3 | 39=>208 | 0=>0 | 53=>97 | 55=>182 | 4=>4 | 46=>277 | 45=>276 | 50=>118 | 5=>5 | 9=>9 | 66=>304 | 70=>307 | 76=>319 | 77=>320 | n=>n,fun | n=>n⟩
theorem Zhc:Go.Proofs.SlLaysF0.n6 Tryz.prog Zm2 where
 mixed:=by kernel_rfl
 f6:=⟨Tryz.f103.name,by decide,Tryz.func103.trans (congrArg some (by kernel_rfl))⟩
 f14:=⟨Tryz.f161.name,by decide,Tryz.func161.trans (congrArg some (by kernel_rfl))⟩
 f15:=Tryz.func162.trans (congrArg some (by kernel_rfl))
 f20:=⟨Tryz.f187.name,by decide,Tryz.func187.trans (congrArg some (by kernel_rfl))⟩
 f21:=⟨Tryz.f188.name,by decide,Tryz.func188.trans (congrArg some (by kernel_rfl))⟩
 f22:=⟨Tryz.f189.name,by decide,Tryz.func189.trans (congrArg some (by kernel_rfl))⟩
 f23:=⟨Tryz.f190.name,by decide,Tryz.func190.trans (congrArg some (by kernel_rfl))⟩
 f24:=⟨Tryz.f191.name,by decide,Tryz.func191.trans (congrArg some (by kernel_rfl))⟩
 f25:=⟨Tryz.f192.name,by decide,Tryz.func192.trans (congrArg some (by kernel_rfl))⟩
 f26:=⟨Tryz.f193.name,by decide,Tryz.func193.trans (congrArg some (by kernel_rfl))⟩
 f27:=⟨Tryz.f194.name,by decide,Tryz.func194.trans (congrArg some (by kernel_rfl))⟩
 f28:=Tryz.func195.trans (congrArg some (by kernel_rfl))
 f29:=Tryz.func196.trans (congrArg some (by kernel_rfl))
 f46:=⟨Tryz.f220.name,by decide,Tryz.func220.trans (congrArg some (by kernel_rfl))⟩
 f47:=Tryz.func221.trans (congrArg some (by kernel_rfl))
 f48:=Tryz.func222.trans (congrArg some (by kernel_rfl))
 f49:=⟨Tryz.f223.name,by decide,Tryz.func223.trans (congrArg some (by kernel_rfl))⟩
 f50:=⟨Tryz.f224.name,by decide,Tryz.func224.trans (congrArg some (by kernel_rfl))⟩
 f57:=⟨Tryz.f233.name,by decide,Tryz.func233.trans (congrArg some (by kernel_rfl))⟩
 t0:=Tryz.underlying0
 a0:=Tryz.isAgg0
 z0:=Tryz.sizeOf0
 v0:=Tryz.zeroValue0
 t3:=Tryz.underlying3
 a3:=Tryz.isAgg3
 z3:=Tryz.sizeOf3
 v3:=Tryz.zeroValue3
 t4:=Tryz.underlying4
 a4:=Tryz.isAgg4
 z4:=Tryz.sizeOf4
 v4:=Tryz.zeroValue4
 t5:=Tryz.underlying5
 a5:=Tryz.isAgg5
 z5:=Tryz.sizeOf5
 v5:=Tryz.zeroValue5
 t9:=Tryz.underlying9
 a9:=Tryz.isAgg9
 z9:=Tryz.sizeOf9
 v9:=Tryz.zeroValue9
 t22:=Tryz.underlying170
 a22:=Tryz.isAgg170
 z22:=Tryz.sizeOf170
 v22:=Tryz.zeroValue170
 t25:=Tryz.underlying177
 a25:=Tryz.isAgg177
 z25:=Tryz.sizeOf177
 v25:=Tryz.zeroValue177
 t39:=Tryz.underlying208
 a39:=Tryz.isAgg208
 z39:=Tryz.sizeOf208
 v39:=Tryz.zeroValue208
 t45:=Tryz.underlying276
 a45:=Tryz.isAgg276
 z45:=Tryz.sizeOf276
 v45:=Tryz.zeroValue276
 t46:=Tryz.underlying277
 a46:=Tryz.isAgg277
 z46:=Tryz.sizeOf277
 v46:=Tryz.zeroValue277
 t50:=Tryz.underlying118
 a50:=Tryz.isAgg118
 z50:=Tryz.sizeOf118
 v50:=Tryz.zeroValue118
 t53:=Tryz.underlying97
 a53:=Tryz.isAgg97
 z53:=Tryz.sizeOf97
 v53:=Tryz.zeroValue97
 t55:=Tryz.underlying182
 a55:=Tryz.isAgg182
 z55:=Tryz.sizeOf182
 v55:=Tryz.zeroValue182
 t66:=Tryz.underlying304
 a66:=Tryz.isAgg304
 z66:=Tryz.sizeOf304
 v66:=Tryz.zeroValue304
 t70:=Tryz.underlying307
 a70:=Tryz.isAgg307
 z70:=Tryz.sizeOf307
 v70:=Tryz.zeroValue307
 t76:=Tryz.underlying319
 a76:=Tryz.isAgg319
 z76:=Tryz.sizeOf319
 v76:=Tryz.zeroValue319
 t77:=Tryz.underlying320
 a77:=Tryz.isAgg320
 z77:=Tryz.sizeOf320
 v77:=Tryz.zeroValue320
end
end Go.Proofs.YtlgcfimhfmgkmaaGreatDoor
namespace Go.Proofs.YtlgcfimhfmgkmaaGreatDoor
open Go.RowKit
section
def szV (lo:Int):Value:=.agg #[.int .u64 0,.int .u64 lo]
def wiV (lo:Int) (ng:Bool):Value:=.agg #[.int .u64 0,.int .u64 lo,.bool ng]
theorem Zc4 {fn:Func} {p:Tmp} (h:fn.results=#[.cell p 244]) (tmps:Array Value) (w:World) (g:Nat) (lo:Int) (ng:Bool)
  (hp:tmps.getD p undef=.pointer (some ⟨g,0,none⟩)) (hg:w.heap[g]?=some (.cells #[.int .u64 0,.int .u64 lo,.bool ng] 244 (0,0))) :
  (results fn tmps).run Tryz.prog w=.ok (wiV lo ng) w:=by
 have hp':tmps[p]?.getD undef=.pointer (some ⟨g,0,none⟩):=by simpa using hp
 obtain ⟨c0,c1,c2⟩:=cs3 hg
 simp [results,h,hp',asAddr,go_sem,c0,c1,c2]
 rfl
def XO (w:World) (g:Nat) (a b c:Value):World:=((w.setCell ⟨g,0,none⟩ a).setCell ⟨g,1,none⟩ b).setCell ⟨g,2,none⟩ c
theorem QP {w:World} {g:Nat} {x y z:Value} {T:TypeId} (a b c:Value) (h:w.heap[g]?=some (.cells #[x,y,z] T (0,0))):(XO w g a b c).heap[g]?=some (.cells #[a,b,c] T (0,0)):=by
 unfold XO
 exact block_setCell (block_setCell (block_setCell h 0 _) 1 _) 2 _
theorem Qg (w:World) (g:Nat) (a b c:Value) {q:Nat} (hq:q≠g):(XO w g a b c).heap[q]?=w.heap[q]?:=by
 unfold XO
 rw [Below.heap_setCell _ _ _ _ hq,Below.heap_setCell _ _ _ _ hq,Below.heap_setCell _ _ _ _ hq]
theorem QQ {B:Nat} {w w':World} {g:Nat} (a b c:Value) (h:Below B w w') (hg:B≤g):Below B w (XO w' g a b c):=by
 unfold XO
 exact ((h.setCell (p:=⟨g,0,none⟩) hg _).setCell (p:=⟨g,1,none⟩) hg _).setCell (p:=⟨g,2,none⟩) hg _
theorem Zhd (lo:Nat) (ng:Bool) (hn:ng=true→lo≠0) (hl:lo<18446744073709551616) (w:World) :
  Calls Tryz.prog 219 #[szV (lo:Nat),.bool ng] w fun r w'=>r=.returned (wiV (lo:Nat) ng)∧Below w.heap.size w w':=by
 obtain ⟨w1,e1⟩:∃ W,W=(w.alloc (.cells #[.int .u64 0,.int .u64 (lo:Nat)] 242 (0,0))).alloc (.cells #[.int .u64 0,.int .u64 0,.bool false] 244 (0,0)):=⟨_,rfl⟩
 obtain ⟨g,eg⟩:∃ g,g=w.heap.size:=⟨_,rfl⟩
 have hb:Below w.heap.size w w1:=by rw [e1];exact ZQ w _ _
 have hg0:w1.heap[g]?=some (.cells #[.int .u64 0,.int .u64 (lo:Nat)] 242 (0,0)):=by rw [e1,eg];exact ZZ w _ _
 have hg1:w1.heap[g+1]?=some (.cells #[.int .u64 0,.int .u64 0,.bool false] 244 (0,0)):=by rw [e1,eg];exact Z0 w _ _
 obtain ⟨f0,f1⟩:=cs2 hg0
 obtain ⟨r0,r1,r2⟩:=cs3 hg1
 have s0:=Zd hg1 0
 have s1:=Zd hg1 1
 have s2:=Zd hg1 2
 have H:=Qh (Qi hb (Qi hg1 eg))
 unfold szV
 go_enter Tryz.func219,Tryz.ntmps219
 go_upto_region 1 with fail
 rw [←e1,←eg]
 clear e1 eg hb hg0 hg1
 rcases ng with _ | _
 ·clear hn
  go_region
  all_goals go_wp2_with fail
  all_goals
   refine bodyPost_ret (Zc4 rfl _ _ (g+1) _ _ rfl (QP (.int .u64 0) (.int .u64 (lo:Nat)) (.bool false) H.out.2.1)) rfl ?_
   exact ⟨rfl,(QQ _ _ _ H.out.1 (by have:=H.out.2.2;omega)).drew⟩
 ·have hn':((lo:Int)=0)=False:=by have:=hn rfl;simp;omega
  have hn2:((lo:Int)==0)=false:=by have:=hn rfl;rw [beq_eq_false_iff_ne];omega
  clear hn
  go_region
  all_goals go_wp2_with fail
  all_goals
   refine bodyPost_ret (Zc4 rfl _ _ (g+1) _ _ rfl (QP (.int .u64 0) (.int .u64 (lo:Nat)) (.bool true) H.out.2.1)) rfl ?_
   exact ⟨rfl,(QQ _ _ _ H.out.1 (by have:=H.out.2.2;omega)).drew⟩
theorem Zm3 (a b:Nat) (w:World) :
  Calls Tryz.prog 186 #[szV (a:Nat),szV (b:Nat)] w fun r w'=>r=.returned (.bool (decide (a<b)))∧Below w.heap.size w w':=by
 obtain ⟨w1,e1⟩:∃ W,W=(w.alloc (.cells #[.int .u64 0,.int .u64 (a:Nat)] 242 (0,0))).alloc (.cells #[.int .u64 0,.int .u64 (b:Nat)] 242 (0,0)):=⟨_,rfl⟩
 obtain ⟨g,eg⟩:∃ g,g=w.heap.size:=⟨_,rfl⟩
 have hb:Below w.heap.size w w1:=by rw [e1];exact ZQ w _ _
 have hg0:w1.heap[g]?=some (.cells #[.int .u64 0,.int .u64 (a:Nat)] 242 (0,0)):=by rw [e1,eg];exact ZZ w _ _
 have hg1:w1.heap[g+1]?=some (.cells #[.int .u64 0,.int .u64 (b:Nat)] 242 (0,0)):=by rw [e1,eg];exact Z0 w _ _
 obtain ⟨f0,f1⟩:=cs2 hg0
 obtain ⟨r0,r1⟩:=cs2 hg1
 obtain ⟨R,eR⟩:∃ R,R=decide (a<b):=⟨_,rfl⟩
 have hR:decide ((a:Int)<(b:Int))=R:=by rw [eR];simp
 rw [←eR]
 have H:=Qh hb
 unfold szV
 go_enter Tryz.func186,Tryz.ntmps186
 go_upto_region 1 with fail
 rw [←e1,←eg]
 clear e1 eg hb hg0 hg1
 go_wp2_with fail
 go_ret
 exact ⟨by rw [eR];rfl,H.out⟩
theorem Zm4 (a:Nat) (ha:a<9223372036854775808) (w:World) :
  Calls Tryz.prog 154 #[wiV (a:Nat) false] w fun r w'=>r=.returned (.int .i64 (a:Nat))∧Below w.heap.size w w':=by
 obtain ⟨w1,e1⟩:∃ W,W=w.alloc (.cells #[.int .u64 0,.int .u64 (a:Nat),.bool false] 244 (0,0)):=⟨_,rfl⟩
 obtain ⟨g,eg⟩:∃ g,g=w.heap.size:=⟨_,rfl⟩
 have hb:Below w.heap.size w w1:=by rw [e1];exact Zg w _
 have hg0:w1.heap[g]?=some (.cells #[.int .u64 0,.int .u64 (a:Nat),.bool false] 244 (0,0)):=by rw [e1,eg];exact heap_alloc_new w _
 obtain ⟨f0,f1,f2⟩:=cs3 hg0
 have i1:decide ((9223372036854775808:Int)≤(a:Int))=false:=decide_eq_false (by omega)
 have i2:wrap64 (a:Int)=(a:Int):=Zn _ (by omega) (by omega)
 have H:=Qh hb
 unfold wiV
 go_enter Tryz.func154,Tryz.ntmps154
 go_upto_region 1 with fail
 rw [←e1,←eg]
 clear e1 eg hb hg0
 go_wp2_with fail
 go_ret
 exact ⟨rfl,H.out⟩
theorem Zhe (a b:Int) (ha:-2147483648≤a∧a≤2147483648) (hb:-2147483648≤b∧b≤2147483648) (h:b≤a):IntKind.u64.wrap (IntKind.u64.wrap a-IntKind.u64.wrap b)=(((a-b).natAbs:Nat):Int):=by
 simp only [IntKind.wrap,IntKind.bits,IntKind.signed]
 simp
 omega
theorem Zhf (a b:Int) (ha:-2147483648≤a∧a≤2147483648) (hb:-2147483648≤b∧b≤2147483648) (w:World) :
  Calls Tryz.prog 185 #[.int .i64 a,.int .i64 b] w fun r w'=>r=.returned (wiV ((a-b).natAbs:Nat) (decide (a<b)))∧Below w.heap.size w w':=by
 obtain ⟨w1,e1⟩:∃ W,W=w.alloc (.cells #[.int .u64 0,.int .u64 0,.bool false] 244 (0,0)):=⟨_,rfl⟩
 obtain ⟨g,eg⟩:∃ g,g=w.heap.size:=⟨_,rfl⟩
 have hbe:Below w.heap.size w w1:=by rw [e1];exact Zg w _
 have hg0:w1.heap[g]?=some (.cells #[.int .u64 0,.int .u64 0,.bool false] 244 (0,0)):=by rw [e1,eg];exact heap_alloc_new w _
 have H:=Qh (Qi hbe (Qi hg0 eg))
 clear hbe hg0
 obtain ⟨D,eD⟩:∃ D,D=(a-b).natAbs:=⟨_,rfl⟩
 have hD:D<18446744073709551616:=by omega
 rw [←eD]
 rcases hd:decide (a<b) with _ | _
 ·have hw:=Zhe a b ha hb (by have:=of_decide_eq_false hd;omega)
  rw [←eD] at hw
  have F:=Zhd D false (by simp) hD w1
  clear hD eD ha hb
  unfold wiV szV at *
  go_enter Tryz.func185,Tryz.ntmps185
  go_upto_region 1 with fail
  rw [←e1,←eg]
  clear e1 eg
  go_wp2_with (go_at_call 219;(try rw [hw]);refine F.mono ?_;rintro e w2 ⟨rfl,hb2⟩;have hg2:=(hb2.block _ (Zh H.out.2.1)).trans H.out.2.1;have r0:w2.cell? ⟨g,0,none⟩=some (.int .u64 0):=Za hg2 0 _ rfl;have r1:w2.cell? ⟨g,1,none⟩=some (.int .u64 0):=Za hg2 1 _ rfl;have r2:w2.cell? ⟨g,2,none⟩=some (.bool false):=Za hg2 2 _ rfl;have s0:=Zd hg2 0;have s1:=Zd hg2 1;have s2:=Zd hg2 2;have H2:=Qh (Qi hb2 hg2);clear hb2 hg2)
  refine bodyPost_ret (Zc4 rfl _ _ g _ _ rfl (QP (.int .u64 0) (.int .u64 (D:Nat)) (.bool false) H2.out.2)) rfl ?_
  exact ⟨rfl,QQ _ _ _ (H.out.1.trans (H2.out.1.mono H.out.1.size)) (by have:=H.out.2.2;omega)⟩
 ·have hw:=Zhe b a hb ha (by have:=of_decide_eq_true hd;omega)
  have eD':(b-a).natAbs=D:=by omega
  rw [eD'] at hw
  have F:=Zhd D true (by intro _;have:=of_decide_eq_true hd;omega) hD w1
  clear hD eD eD' ha hb
  unfold wiV szV at *
  go_enter Tryz.func185,Tryz.ntmps185
  go_upto_region 1 with fail
  rw [←e1,←eg]
  clear e1 eg
  go_wp2_with (go_at_call 219;(try rw [hw]);refine F.mono ?_;rintro e w2 ⟨rfl,hb2⟩;have hg2:=(hb2.block _ (Zh H.out.2.1)).trans H.out.2.1;have r0:w2.cell? ⟨g,0,none⟩=some (.int .u64 0):=Za hg2 0 _ rfl;have r1:w2.cell? ⟨g,1,none⟩=some (.int .u64 0):=Za hg2 1 _ rfl;have r2:w2.cell? ⟨g,2,none⟩=some (.bool false):=Za hg2 2 _ rfl;have s0:=Zd hg2 0;have s1:=Zd hg2 1;have s2:=Zd hg2 2;have H2:=Qh (Qi hb2 hg2);clear hb2 hg2)
  refine bodyPost_ret (Zc4 rfl _ _ g _ _ rfl (QP (.int .u64 0) (.int .u64 (D:Nat)) (.bool true) H2.out.2)) rfl ?_
  exact ⟨rfl,QQ _ _ _ (H.out.1.trans (H2.out.1.mono H.out.1.size)) (by have:=H.out.2.2;omega)⟩
end
end Go.Proofs.YtlgcfimhfmgkmaaGreatDoor
namespace Go.Proofs.YtlgcfimhfmgkmaaGreatDoor
open Go.RowKit
section
structure ZaT (w:World) (g:Nat) (ax ay bx by_:Int):Prop where
 a:w.heap[g]?=some (.cells #[.int .i64 ax,.int .i64 ay] 152 (0,0))
 b:w.heap[g+1]?=some (.cells #[.int .i64 bx,.int .i64 by_] 152 (0,0))
 x:w.heap[g+1+1]?=some (.cells #[.int .u64 0,.int .u64 0,.bool false] 244 (0,0))
 y:w.heap[g+1+1+1]?=some (.cells #[.int .u64 0,.int .u64 0,.bool false] 244 (0,0))
 z:w.heap[g+1+1+1+1]?=some (.cells #[.int .u64 0,.int .u64 0,.bool false] 244 (0,0))
theorem JI {w:World} {q:Nat} {o o':Obj} (h:w.heap[q]?=some o):(w.alloc o').heap[q]?=some o:=(Below.heap_alloc _ _ _ (Zh h)).trans h
theorem Zc5 (w:World) (o:Obj) (q:Nat) (h:q=w.heap.size):(w.alloc o).heap[q]?=some o:=by rw [h];exact heap_alloc_new w o
theorem ZaT.below {w w':World} {g:Nat} {ax ay bx by_:Int} (h:ZaT w g ax ay bx by_) (hb:Below w.heap.size w w'):ZaT w' g ax ay bx by_:=
 ⟨(hb.block _ (Zh h.a)).trans h.a,(hb.block _ (Zh h.b)).trans h.b,(hb.block _ (Zh h.x)).trans h.x,(hb.block _ (Zh h.y)).trans h.y,(hb.block _ (Zh h.z)).trans h.z⟩
theorem ZaT.cells {w:World} {g:Nat} {ax ay bx by_:Int} (h:ZaT w g ax ay bx by_) :
    (w.cell? ⟨g,0,none⟩=some (.int .i64 ax)∧w.cell? ⟨g,1,none⟩=some (.int .i64 ay)∧w.cell? ⟨g+1,0,none⟩=some (.int .i64 bx)∧w.cell? ⟨g+1,1,none⟩=some (.int .i64 by_)) ∧
    (w.cell? ⟨g+1+1,0,none⟩=some (.int .u64 0)∧w.cell? ⟨g+1+1,1,none⟩=some (.int .u64 0)∧w.cell? ⟨g+1+1,2,none⟩=some (.bool false)∧w.frozen? ⟨g+1+1,0,none⟩=false∧w.frozen? ⟨g+1+1,1,none⟩=false∧w.frozen? ⟨g+1+1,2,none⟩=false) ∧
    (w.cell? ⟨g+1+1+1,0,none⟩=some (.int .u64 0)∧w.cell? ⟨g+1+1+1,1,none⟩=some (.int .u64 0)∧w.cell? ⟨g+1+1+1,2,none⟩=some (.bool false)∧w.frozen? ⟨g+1+1+1,0,none⟩=false∧w.frozen? ⟨g+1+1+1,1,none⟩=false∧w.frozen? ⟨g+1+1+1,2,none⟩=false):=
  ⟨⟨Za h.a 0 _ rfl,Za h.a 1 _ rfl,Za h.b 0 _ rfl,Za h.b 1 _ rfl⟩,
   ⟨Za h.x 0 _ rfl,Za h.x 1 _ rfl,Za h.x 2 _ rfl,Zd h.x 0,Zd h.x 1,Zd h.x 2⟩,
   ⟨Za h.y 0 _ rfl,Za h.y 1 _ rfl,Za h.y 2 _ rfl,Zd h.y 0,Zd h.y 1,Zd h.y 2⟩⟩
theorem Zm5 (w:World) (ax ay bx by_:Int):∃ W g,W=((((w.alloc (.cells #[.int .i64 ax,.int .i64 ay] 152 (0,0))).alloc (.cells #[.int .i64 bx,.int .i64 by_] 152 (0,0))).alloc (.cells #[.int .u64 0,.int .u64 0,.bool false] 244 (0,0))).alloc (.cells #[.int .u64 0,.int .u64 0,.bool false] 244 (0,0))).alloc (.cells #[.int .u64 0,.int .u64 0,.bool false] 244 (0,0)) ∧
  g=w.heap.size∧ZaT W g ax ay bx by_∧Below w.heap.size w W:=by
 refine ⟨_,_,rfl,rfl,⟨?_,?_,?_,?_,?_⟩,?_⟩
 ·exact JI (JI (JI (ZZ w _ _)))
 ·exact JI (JI (JI (Z0 w _ _)))
 ·exact JI (JI (Zc5 _ _ _ (by simp)))
 ·exact JI (Zc5 _ _ _ (by simp))
 ·exact Zc5 _ _ _ (by simp)
 ·exact (Zab w _ _ _).trans ((ZQ _ _ _).mono (by simp<;>omega))
structure WyZ (w:World) (g:Nat) (DX DY Z:Nat) (NX NY:Bool) (W:World):Prop where
 out:Below g w W
 x:W.heap[g+1+1]?=some (.cells #[.int .u64 0,.int .u64 (DX:Nat),.bool NX] 244 (0,0))
 y:W.heap[g+1+1+1]?=some (.cells #[.int .u64 0,.int .u64 (DY:Nat),.bool NY] 244 (0,0))
 z:W.heap[g+1+1+1+1]?=some (.cells #[.int .u64 0,.int .u64 (Z:Nat),.bool false] 244 (0,0))
theorem WyZ.facts {w W:World} {g DX DY Z:Nat} {NX NY:Bool} (h:WyZ w g DX DY Z NX NY W) :
    (W.cell? ⟨g+1+1,0,none⟩=some (.int .u64 0)∧W.cell? ⟨g+1+1,1,none⟩=some (.int .u64 (DX:Nat))∧W.cell? ⟨g+1+1,2,none⟩=some (.bool NX)∧W.frozen? ⟨g+1+1,0,none⟩=false∧W.frozen? ⟨g+1+1,1,none⟩=false∧W.frozen? ⟨g+1+1,2,none⟩=false) ∧
    (W.cell? ⟨g+1+1+1,0,none⟩=some (.int .u64 0)∧W.cell? ⟨g+1+1+1,1,none⟩=some (.int .u64 (DY:Nat))∧W.cell? ⟨g+1+1+1,2,none⟩=some (.bool NY)∧W.frozen? ⟨g+1+1+1,0,none⟩=false∧W.frozen? ⟨g+1+1+1,1,none⟩=false∧W.frozen? ⟨g+1+1+1,2,none⟩=false) ∧
    (W.cell? ⟨g+1+1+1+1,0,none⟩=some (.int .u64 0)∧W.cell? ⟨g+1+1+1+1,1,none⟩=some (.int .u64 (Z:Nat))∧W.cell? ⟨g+1+1+1+1,2,none⟩=some (.bool false)∧W.frozen? ⟨g+1+1+1+1,0,none⟩=false∧W.frozen? ⟨g+1+1+1+1,1,none⟩=false∧W.frozen? ⟨g+1+1+1+1,2,none⟩=false):=
  ⟨⟨Za h.x 0 _ rfl,Za h.x 1 _ rfl,Za h.x 2 _ rfl,Zd h.x 0,Zd h.x 1,Zd h.x 2⟩,
   ⟨Za h.y 0 _ rfl,Za h.y 1 _ rfl,Za h.y 2 _ rfl,Zd h.y 0,Zd h.y 1,Zd h.y 2⟩,
   ⟨Za h.z 0 _ rfl,Za h.z 1 _ rfl,Za h.z 2 _ rfl,Zd h.z 0,Zd h.z 1,Zd h.z 2⟩⟩
theorem WyZ.put {w W:World} {g DX DY Z:Nat} {NX NY:Bool} (h:WyZ w g DX DY Z NX NY W) (Z':Nat):WyZ w g DX DY Z' NX NY (XO W (g+1+1+1+1) (.int .u64 0) (.int .u64 (Z':Nat)) (.bool false)):=
 ⟨QQ _ _ _ h.out (by omega),(Qg _ _ _ _ _ (by omega)).trans h.x,(Qg _ _ _ _ _ (by omega)).trans h.y,QP _ _ _ h.z⟩
theorem WyZ.two {w W:World} {g DX DY Z:Nat} {NX NY:Bool} (h:WyZ w g DX DY Z NX NY W) (Z':Nat):WyZ w g DX DY Z' NX NY (put2 W (g+1+1+1+1) (.int .u64 0) (.int .u64 (Z':Nat))):=
 ⟨YB _ _ h.out (by omega),(YE _ _ _ _ (by omega)).trans h.x,(YE _ _ _ _ (by omega)).trans h.y,by unfold put2;exact block_setCell (block_setCell h.z 0 _) 1 _⟩
theorem WyZ.call {w W W':World} {g DX DY Z:Nat} {NX NY:Bool} (h:WyZ w g DX DY Z NX NY W) (hb:Below W.heap.size W W'):WyZ w g DX DY Z NX NY W':=by
 have hz:=Zh h.z
 exact ⟨h.out.trans (hb.mono (by omega)),(hb.block _ (Zh h.x)).trans h.x,(hb.block _ (Zh h.y)).trans h.y,(hb.block _ (Zh h.z)).trans h.z⟩
theorem WyZ.drew {w W:World} {g DX DY Z:Nat} {NX NY:Bool} (h:WyZ w g DX DY Z NX NY W):WyZ w g DX DY Z NX NY W.drew:=⟨h.out.drew,h.x,h.y,h.z⟩
theorem WyZ.fin {w W:World} {g DX DY Z:Nat} {NX NY:Bool} (h:WyZ w g DX DY Z NX NY W):WyZ w g DX DY Z NX NY
    (XO (XO (XO W (g+1+1) (.int .u64 0) (.int .u64 (DX:Nat)) (.bool NX)) (g+1+1+1) (.int .u64 0) (.int .u64 (DY:Nat)) (.bool NY)) (g+1+1+1+1) (.int .u64 0) (.int .u64 (Z:Nat)) (.bool false)):=
  ⟨QQ _ _ _ (QQ _ _ _ (QQ _ _ _ h.out (by omega)) (by omega)) (by omega),
   (Qg _ _ _ _ _ (by omega)).trans ((Qg _ _ _ _ _ (by omega)).trans (QP _ _ _ h.x)),
   (Qg _ _ _ _ _ (by omega)).trans (QP _ _ _ ((Qg _ _ _ _ _ (by omega)).trans h.y)),
   QP _ _ _ ((Qg _ _ _ _ _ (by omega)).trans ((Qg _ _ _ _ _ (by omega)).trans h.z))⟩
theorem Zhg {fn:Func} {p q r:Tmp} (h:fn.results=#[.cell p 244,.cell q 244,.cell r 244]) (tmps:Array Value) (w:World) (g g' g'':Nat) (a b c:Int) (na nb nc:Bool)
  (hp:tmps.getD p undef=.pointer (some ⟨g,0,none⟩)) (hq:tmps.getD q undef=.pointer (some ⟨g',0,none⟩)) (hr:tmps.getD r undef=.pointer (some ⟨g'',0,none⟩))
  (hg:w.heap[g]?=some (.cells #[.int .u64 0,.int .u64 a,.bool na] 244 (0,0))) (hg':w.heap[g']?=some (.cells #[.int .u64 0,.int .u64 b,.bool nb] 244 (0,0))) (hg'':w.heap[g'']?=some (.cells #[.int .u64 0,.int .u64 c,.bool nc] 244 (0,0))) :
  (results fn tmps).run Tryz.prog w=.ok (.tuple #[wiV a na,wiV b nb,wiV c nc]) w:=by
 have hp':tmps[p]?.getD undef=.pointer (some ⟨g,0,none⟩):=by simpa using hp
 have hq':tmps[q]?.getD undef=.pointer (some ⟨g',0,none⟩):=by simpa using hq
 have hr':tmps[r]?.getD undef=.pointer (some ⟨g'',0,none⟩):=by simpa using hr
 obtain ⟨c0,c1,c2⟩:=cs3 hg
 obtain ⟨d0,d1,d2⟩:=cs3 hg'
 obtain ⟨e0,e1,e2⟩:=cs3 hg''
 simp [results,h,hp',hq',hr',asAddr,go_sem,c0,c1,c2,d0,d1,d2,e0,e1,e2,wiV]
structure Yt (w:World) (g:Nat) (W:World):Prop where
 out:Below g w W
 sz:w.heap.size≤W.heap.size
 lt:g+1+1+1+1<w.heap.size
 a:W.heap[g]?=w.heap[g]?
 b:W.heap[g+1]?=w.heap[g+1]?
 z:W.heap[g+1+1+1+1]?=w.heap[g+1+1+1+1]?
 x:∃ p q r,W.heap[g+1+1]?=some (.cells #[p,q,r] 244 (0,0))
 y:∃ p q r,W.heap[g+1+1+1]?=some (.cells #[p,q,r] 244 (0,0))
theorem Yt.drew {w W:World} {g:Nat} (h:Yt w g W):Yt w g W.drew:=⟨h.out.drew,h.sz,h.lt,h.a,h.b,h.z,h.x,h.y⟩
theorem Yt.call {w W W':World} {g:Nat} (h:Yt w g W) (hb:Below W.heap.size W W'):Yt w g W':=by
 have hlt:=h.lt
 have hsz:=h.sz
 have k:∀ q,q<w.heap.size→W'.heap[q]?=W.heap[q]?:=fun q hq=>hb.block q (by omega)
 obtain ⟨p,q,r,hx⟩:=h.x
 obtain ⟨p',q',r',hy⟩:=h.y
 exact ⟨h.out.trans (hb.mono (by omega)),by have:=hb.size;omega,hlt,(k _ (by omega)).trans h.a,(k _ (by omega)).trans h.b,(k _ (by omega)).trans h.z,⟨p,q,r,(k _ (by omega)).trans hx⟩,⟨p',q',r',(k _ (by omega)).trans hy⟩⟩
theorem Yt.setX {w W:World} {g:Nat} (c d e:Value) (h:Yt w g W):Yt w g (((W.setCell ⟨g+1+1,0,none⟩ c).setCell ⟨g+1+1,1,none⟩ d).setCell ⟨g+1+1,2,none⟩ e):=by
 obtain ⟨p,q,r,hx⟩:=h.x
 obtain ⟨p',q',r',hy⟩:=h.y
 have k:∀ q,q≠g+1+1→(XO W (g+1+1) c d e).heap[q]?=W.heap[q]?:=fun q hq=>Qg W (g+1+1) c d e hq
 refine ⟨QQ c d e h.out (by omega),?_,h.lt,(k _ (by omega)).trans h.a,(k _ (by omega)).trans h.b,(k _ (by omega)).trans h.z,⟨c,d,e,QP c d e hx⟩,⟨p',q',r',(k _ (by omega)).trans hy⟩⟩
 have:=h.sz
 simpa using this
theorem Yt.setY {w W:World} {g:Nat} (c d e:Value) (h:Yt w g W):Yt w g (((W.setCell ⟨g+1+1+1,0,none⟩ c).setCell ⟨g+1+1+1,1,none⟩ d).setCell ⟨g+1+1+1,2,none⟩ e):=by
 obtain ⟨p,q,r,hx⟩:=h.x
 obtain ⟨p',q',r',hy⟩:=h.y
 have k:∀ q,q≠g+1+1+1→(XO W (g+1+1+1) c d e).heap[q]?=W.heap[q]?:=fun q hq=>Qg W (g+1+1+1) c d e hq
 refine ⟨QQ c d e h.out (by omega),?_,h.lt,(k _ (by omega)).trans h.a,(k _ (by omega)).trans h.b,(k _ (by omega)).trans h.z,⟨p,q,r,(k _ (by omega)).trans hx⟩,⟨c,d,e,QP c d e hy⟩⟩
 have:=h.sz
 simpa using this
theorem Yt.facts {w W:World} {g:Nat} (h:Yt w g W):∃ x4 x5 x6 y4 y5 y6,(W.heap[g+1+1]?=some (.cells #[x4,x5,x6] 244 (0,0))∧W.heap[g+1+1+1]?=some (.cells #[y4,y5,y6] 244 (0,0))) ∧
  (W.cell? ⟨g+1+1,0,none⟩=some x4∧W.cell? ⟨g+1+1,1,none⟩=some x5∧W.cell? ⟨g+1+1,2,none⟩=some x6∧W.frozen? ⟨g+1+1,0,none⟩=false∧W.frozen? ⟨g+1+1,1,none⟩=false∧W.frozen? ⟨g+1+1,2,none⟩=false) ∧
  (W.cell? ⟨g+1+1+1,0,none⟩=some y4∧W.cell? ⟨g+1+1+1,1,none⟩=some y5∧W.cell? ⟨g+1+1+1,2,none⟩=some y6∧W.frozen? ⟨g+1+1+1,0,none⟩=false∧W.frozen? ⟨g+1+1+1,1,none⟩=false∧W.frozen? ⟨g+1+1+1,2,none⟩=false):=by
 obtain ⟨p,q,r,hx⟩:=h.x
 obtain ⟨p',q',r',hy⟩:=h.y
 exact ⟨p,q,r,p',q',r',⟨hx,hy⟩,⟨Za hx 0 _ rfl,Za hx 1 _ rfl,Za hx 2 _ rfl,Zd hx 0,Zd hx 1,Zd hx 2⟩,⟨Za hy 0 _ rfl,Za hy 1 _ rfl,Za hy 2 _ rfl,Zd hy 0,Zd hy 1,Zd hy 2⟩⟩
theorem Yt.end_ {w W:World} {g:Nat} {DX DY:Nat} {NX NY:Bool} (h:Yt w g W) (hz:w.heap[g+1+1+1+1]?=some (.cells #[.int .u64 0,.int .u64 0,.bool false] 244 (0,0))) :
  WyZ w g DX DY 0 NX NY (XO (XO W (g+1+1) (.int .u64 0) (.int .u64 (DX:Nat)) (.bool NX)) (g+1+1+1) (.int .u64 0) (.int .u64 (DY:Nat)) (.bool NY)):=by
 obtain ⟨p,q,r,hx⟩:=h.x
 obtain ⟨p',q',r',hy⟩:=h.y
 exact ⟨QQ _ _ _ (QQ _ _ _ h.out (by omega)) (by omega),(Qg _ _ _ _ _ (by omega)).trans (QP _ _ _ hx),QP _ _ _ ((Qg _ _ _ _ _ (by omega)).trans hy),(Qg _ _ _ _ _ (by omega)).trans ((Qg _ _ _ _ _ (by omega)).trans (h.z.trans hz))⟩
theorem Zbs {ops:Array Oper} {o:Oper} {a:Act} {w:World} {K:Act→World→Prop} {Q:Exit→Act→World→Prop} {E:Prop} (f:FuncId) (xs:List Operand) (ts:Array TypeId) (hg:o.guard=none)
  (hop:o.op=.call { callee:=.value (.func f),args:=xs.toArray,argTypes:=ts }) (hcall:∀ args W,(callFunc f args).run Tryz.prog W=.ok (.enter f args) W) (args:List Value) (ha:xs.map a.eval=args)
  {R:Ending→World→Prop} (hc:Calls Tryz.prog f args.toArray w R) (hR:∀ e w',R e w'→∃ v,e=.returned v∧K (a.put o.dst v) w') :
  if Region.wanted o (yielded ops a.tmps)=true then Oper.wp Tryz.prog o a w K Q else E:=by
 have hw:Region.wanted o (yielded ops a.tmps)=true:=by simp [Region.wanted,hg]
 rw [if_pos hw]
 subst ha
 unfold Oper.wp
 have e1:(execOp a.eval o).run Tryz.prog w=.ok (.enter f (xs.map a.eval).toArray) w:=by
  simp [execOp,hop,resolve,invoke,Act.eval,hcall,Deferred.ofValue]
 rw [e1]
 refine Calls.mono hc fun e w' he=>?_
 obtain ⟨v,rfl,hk⟩:=hR e w' he
 exact hk
theorem Tq57 {p:Prop} (h:p:=by
 go_region
 all_goals go_wp2_with fail
 all_goals
  have hz:=H8.out.fin.drew
  refine bodyPost_ret (Zhg rfl _ _ _ _ _ _ _ _ _ _ _ rfl rfl rfl hz.x hz.y hz.z) rfl ?_
  exact ⟨⟨_,_,rfl⟩,H.out.1.trans (hz.out.mono (by have:=H.out.2.2;omega))⟩):p:=h
theorem Zm6 (ax ay bx by_:Int) (h0:-1073741824≤ax∧ax≤1073741824) (h1:-1073741824≤ay∧ay≤1073741824) (h2:-1073741824≤bx∧bx≤1073741824) (h3:-1073741824≤by_∧by_≤1073741824) (w:World) :
    Calls Tryz.prog 153 #[.agg #[.int .i64 ax,.int .i64 ay],.agg #[.int .i64 bx,.int .i64 by_]] w fun r w'=>
      (∃ x y,r=.returned (.tuple #[wiV x (decide (bx<ax)),wiV y (decide (by_<ay)),wiV (max (bx-ax).natAbs (by_-ay).natAbs:Nat) false]))∧Below w.heap.size w w':=by
  obtain ⟨w1,g,e1,eg,hI,hb⟩:=Zm5 w ax ay bx by_
  have KA:=fun W=>Zhf bx ax (by omega) (by omega) W
  have KB:=fun W=>Zhf by_ ay (by omega) (by omega) W
  obtain ⟨DX,eX⟩:∃ D,D=(bx-ax).natAbs:=⟨_,rfl⟩
  obtain ⟨DY,eY⟩:∃ D,D=(by_-ay).natAbs:=⟨_,rfl⟩
  obtain ⟨NX,eNX⟩:∃ D,D=decide (bx<ax):=⟨_,rfl⟩
  obtain ⟨NY,eNY⟩:∃ D,D=decide (by_<ay):=⟨_,rfl⟩
  rw [←eX,←eY,←eNX,←eNY]
  simp only [←eX,←eY,←eNX,←eNY] at KA KB
  obtain ⟨M,eM⟩:∃ M,M=max DX DY:=⟨_,rfl⟩
  rw [←eM]
  have HM:=Qh eM
  clear eM
  have H:=Qh (Qi hb (Qi hI eg))
  have FA:∀ W,Below w1.heap.size w1 W→ZaT W g ax ay bx by_:=fun W hW=>hI.below hW
  have HF:=Qh FA
  obtain ⟨⟨x0,x1,x2,x3⟩,⟨x4,x5,x6,x7,x8,x9⟩,⟨y4,y5,y6,y7,y8,y9⟩⟩:=hI.cells
  clear eX eY eNX eNY h0 h1 h2 h3 hI hb FA
  unfold wiV at KA KB ⊢
  go_enter Tryz.func153,Tryz.ntmps153
  go_upto_region 1 with fail
  rw [←e1,←eg]
  clear e1 eg
  have hlt:g+1+1+1+1<w1.heap.size:=Zh H.out.2.1.z
  have B0:Yt w1 g w1:=⟨Below.refl _ _,Nat.le_refl _,hlt,rfl,rfl,rfl,⟨_,_,_,H.out.2.1.x⟩,⟨_,_,_,H.out.2.1.y⟩⟩
  have FS:∀ W,Yt w1 g W→(W.cell? ⟨g,0,none⟩=some (.int .i64 ax)∧W.cell? ⟨g,1,none⟩=some (.int .i64 ay)∧W.cell? ⟨g+1,0,none⟩=some (.int .i64 bx)∧W.cell? ⟨g+1,1,none⟩=some (.int .i64 by_))∧Yt w1 g W:=fun W hW=>by
    have ha:=hW.a.trans H.out.2.1.a
    have hb:=hW.b.trans H.out.2.1.b
    exact ⟨⟨Za ha 0 _ rfl,Za ha 1 _ rfl,Za hb 0 _ rfl,Za hb 1 _ rfl⟩,hW⟩
  have HFS:=Qh FS
  have HKA:=Qh KA
  have HKB:=Qh KB
  clear FS KA KB x4 x5 x6 x7 x8 x9 y4 y5 y6 y7 y8 y9 hlt
  go_cut [] (fun wx=>WyZ w1 g DX DY 0 NX NY wx)
  case first=>
    go_region_held3 (fun W=>(W.cell? ⟨g,0,none⟩=some (.int .i64 ax)∧W.cell? ⟨g,1,none⟩=some (.int .i64 ay)∧W.cell? ⟨g+1,0,none⟩=some (.int .i64 bx)∧W.cell? ⟨g+1,1,none⟩=some (.int .i64 by_))∧Yt w1 g W)
      ((refine HFS.out _ ?_;repeat (first | with_reducible assumption | with_reducible exact (And.right (by with_reducible assumption)) | with_reducible apply Yt.drew | with_reducible apply Yt.setX | with_reducible apply Yt.setY)))
      (first
      | (refine Zbs 185 [.tmp 8,.tmp 10] _ rfl rfl (fun _ _=>rfl) _ rfl (HKA.out _) ?_
         rintro e wq ⟨rfl,hbq⟩
         refine ⟨_,rfl,?_⟩
         have hbw:Yt w1 g wq:=Yt.call (And.right (by with_reducible assumption)) hbq
         obtain ⟨x4,x5,x6,y4,y5,y6,-,⟨k4,k5,k6,k7,k8,k9⟩,⟨m4,m5,m6,m7,m8,m9⟩⟩:=hbw.facts
         clear hbq)
      | (refine Zbs 185 [.tmp 13,.tmp 15] _ rfl rfl (fun _ _=>rfl) _ rfl (HKB.out _) ?_
         rintro e wq ⟨rfl,hbq⟩
         refine ⟨_,rfl,?_⟩
         have hbw:Yt w1 g wq:=Yt.call (And.right (by with_reducible assumption)) hbq
         obtain ⟨x4,x5,x6,y4,y5,y6,-,⟨k4,k5,k6,k7,k8,k9⟩,⟨m4,m5,m6,m7,m8,m9⟩⟩:=hbw.facts
         clear hbq))
    all_goals go_wp2_with fail
    all_goals go_meet
    all_goals first
      | exact Yt.end_ hbw H.out.2.1.z
      | exact (Yt.end_ hbw H.out.2.1.z).drew
  case rest=>
  clear B0
  obtain ⟨w6,e6⟩:∃ w6,w6=wc:=⟨_,rfl⟩
  rw [←e6] at hcut ⊢
  clear e6
  obtain ⟨⟨k4,k5,k6,k7,k8,k9⟩,⟨m4,m5,m6,m7,m8,m9⟩,⟨n4,n5,n6,n7,n8,n9⟩⟩:=hcut.facts
  have HC:=Qh hcut
  clear hcut
  clear HKA HKB HFS HF x0 x1 x2 x3
  go_upto_region 3 with fail
  obtain ⟨w7,e7⟩:∃ w7,w7=XO w6 (g+1+1+1+1) (.int .u64 0) (.int .u64 (DX:Nat)) (.bool false):=⟨_,rfl⟩
  have h7:WyZ w1 g DX DY DX NX NY w7:=by rw [e7];exact HC.out.put DX
  unfold XO at e7
  rw [←e7]
  clear e7 HC k4 k5 k6 k7 k8 k9 m4 m5 m6 m7 m8 m9 n4 n5 n6 n7 n8 n9
  obtain ⟨⟨k4,k5,k6,k7,k8,k9⟩,⟨m4,m5,m6,m7,m8,m9⟩,⟨n4,n5,n6,n7,n8,n9⟩⟩:=h7.facts
  have FL:=Zm3 DX DY w7
  unfold szV at FL
  have H7:=Qh h7
  clear h7
  rcases hd:decide (DX<DY) with _ | _
  · rw [hd] at FL
    have hm:M=DX:=by have:=of_decide_eq_false hd;have:=HM.out;omega
    clear HM
    subst hm
    clear hd
    go_upto_region 5 with (go_at_call 186;refine FL.mono ?_;rintro e w8 ⟨rfl,hb8⟩;have h8:=H7.out.call hb8;clear hb8 FL H7 k4 k5 k6 k7 k8 k9 m4 m5 m6 m7 m8 m9 n4 n5 n6 n7 n8 n9;obtain ⟨⟨k4,k5,k6,k7,k8,k9⟩,⟨m4,m5,m6,m7,m8,m9⟩,⟨n4,n5,n6,n7,n8,n9⟩⟩:=h8.facts;have H8:=Qh h8;clear h8)
    exact Tq57
  · rw [hd] at FL
    have hm:M=DY:=by have:=of_decide_eq_true hd;have:=HM.out;omega
    clear HM
    subst hm
    clear hd
    go_upto_region 5 with (go_at_call 186;refine FL.mono ?_;rintro e w8 ⟨rfl,hb8⟩;have h8:=H7.out.call hb8;clear hb8 FL H7 k4 k5 k6 k7 k8 k9 m4 m5 m6 m7 m8 m9 n4 n5 n6 n7 n8 n9;obtain ⟨⟨k4,k5,k6,k7,k8,k9⟩,⟨m4,m5,m6,m7,m8,m9⟩,⟨n4,n5,n6,n7,n8,n9⟩⟩:=h8.facts;have H8:=Qh h8;clear h8)
    obtain ⟨w9,e9⟩:∃ w9,w9=put2 w8 (g+1+1+1+1) (.int .u64 0) (.int .u64 (M:Nat)):=⟨_,rfl⟩
    have h9:WyZ w1 g DX M M NX NY w9:=by rw [e9];exact H8.out.two M
    unfold put2 at e9
    rw [←e9]
    clear e9 H8 k4 k5 k6 k7 k8 k9 m4 m5 m6 m7 m8 m9 n4 n5 n6 n7 n8 n9
    obtain ⟨⟨k4,k5,k6,k7,k8,k9⟩,⟨m4,m5,m6,m7,m8,m9⟩,⟨n4,n5,n6,n7,n8,n9⟩⟩:=h9.facts
    have H8:=Qh h9
    clear h9
    exact Tq57
theorem Zhh (ax ay bx by_:Int) (h0:-1073741824≤ax∧ax≤1073741824) (h1:-1073741824≤ay∧ay≤1073741824) (h2:-1073741824≤bx∧bx≤1073741824) (h3:-1073741824≤by_∧by_≤1073741824) (w:World) :
  Calls Tryz.prog 94 #[.agg #[.int .i64 ax,.int .i64 ay],.agg #[.int .i64 bx,.int .i64 by_]] w fun r w'=>r=.returned (.int .i64 (max (bx-ax).natAbs (by_-ay).natAbs:Nat))∧Below w.heap.size w w':=by
 obtain ⟨w1,e1⟩:∃ W,W=(w.alloc (.cells #[.int .i64 ax,.int .i64 ay] 152 (0,0))).alloc (.cells #[.int .i64 bx,.int .i64 by_] 152 (0,0)):=⟨_,rfl⟩
 obtain ⟨g,eg⟩:∃ g,g=w.heap.size:=⟨_,rfl⟩
 have hb:Below w.heap.size w w1:=by rw [e1];exact ZQ w _ _
 have hg0:w1.heap[g]?=some (.cells #[.int .i64 ax,.int .i64 ay] 152 (0,0)):=by rw [e1,eg];exact ZZ w _ _
 have hg1:w1.heap[g+1]?=some (.cells #[.int .i64 bx,.int .i64 by_] 152 (0,0)):=by rw [e1,eg];exact Z0 w _ _
 obtain ⟨f0,f1⟩:=cs2 hg0
 obtain ⟨r0,r1⟩:=cs2 hg1
 have F:=Zm6 ax ay bx by_ h0 h1 h2 h3 w1
 obtain ⟨M,eM⟩:∃ M,M=max (bx-ax).natAbs (by_-ay).natAbs:=⟨_,rfl⟩
 have hM:M<9223372036854775808:=by omega
 rw [←eM] at F ⊢
 obtain ⟨NX,eNX⟩:∃ D,D=decide (bx<ax):=⟨_,rfl⟩
 obtain ⟨NY,eNY⟩:∃ D,D=decide (by_<ay):=⟨_,rfl⟩
 rw [←eNX,←eNY] at F
 have FS:=fun W=>Zm4 M hM W
 unfold wiV at F FS
 have H:=Qh hb
 clear hb hg0 hg1 eM hM eNX eNY h0 h1 h2 h3
 go_enter Tryz.func94,Tryz.ntmps94
 go_upto_region 1 with fail
 rw [←e1,←eg]
 clear e1 eg
 go_upto_region 2 with (go_at_call 153;refine F.mono ?_;rintro e w2 ⟨⟨x,y,rfl⟩,hb2⟩;have H2:=Qh hb2;clear hb2 F)
 obtain ⟨w3,e3⟩:∃ w3,w3=((w2.alloc (.cells #[.int .u64 0,.int .u64 x,.bool NX] 244 (0,0))).alloc (.cells #[.int .u64 0,.int .u64 y,.bool NY] 244 (0,0))).alloc (.cells #[.int .u64 0,.int .u64 (M:Nat),.bool false] 244 (0,0)):=⟨_,rfl⟩
 obtain ⟨g3,eg3⟩:∃ g3,g3=w2.heap.size:=⟨_,rfl⟩
 rw [←e3,←eg3]
 have hg3:w3.heap[g3+1+1]?=some (.cells #[.int .u64 0,.int .u64 (M:Nat),.bool false] 244 (0,0)):=by rw [e3,eg3];exact ZaQ w2 _ _ _
 have ZK:Below w2.heap.size w2 w3:=by rw [e3];exact Zab w2 _ _ _
 obtain ⟨k0,k1,k2⟩:=cs3 hg3
 have Yi:Below w1.heap.size w1 w3:=H2.out.trans (ZK.mono H2.out.size)
 have H3:=Qh (H.out.trans (Yi.mono H.out.size))
 clear e3 eg3 hg3 ZK Yi H2 f0 f1 r0 r1
 go_wp2_with (go_at_call 154;refine (FS _).mono ?_;rintro e w4 ⟨rfl,hb4⟩;have H4:=Qh hb4;clear hb4)
 go_ret
 exact ⟨rfl,H3.out.trans (H4.out.mono H3.out.size)⟩
end
end Go.Proofs.YtlgcfimhfmgkmaaGreatDoor
