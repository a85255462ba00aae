/- Lemmas for the statement. -/
import Derived.Test.YtlgcfimhfmgkmaaGreatDoorMBN
import Derived.Test.YtlgcfimhfmgkmaaGreatDoorMBK
set_option linter.unusedVariables false
set_option linter.unusedSimpArgs false
namespace Go.Proofs.YtlgcfimhfmgkmaaGreatDoor
open Go.RowKit
section
def n4 (f:Nat→Nat) (i:Nat):Nat:=f i*16777216+f (i+1)*65536+f (i+2)*256+f (i+3)
def Zbc (r:Rcv) (n b:Int) (t:Int) (fs:List Ent):Rcv:=⟨max r.base b,max r.last n,(r.log++[(⟨n,b,t,fs⟩:Rec)]).filter (fun x=>!(XK (max r.base b) (max r.last n) x.num))⟩
def YV (r:Rcv) (pn n b:Nat):Option Int:=
 if XI r=false then some 2 else if pn<8 then some 261 else if n<1∨1073741824<n∨n≤b then some 261
 else if (Z6 r.log (n:Int)).isSome∨(n:Int)<r.base then some 262 else if (Z6 r.log (b:Int)).isNone then some 260 else none
def Zcs:Obj:=.cells #[.int .i64 0,.int .i64 0,.slice none 0 0] 38 (0,0)
def ZaC:Value:=.agg #[.int .i64 0,.int .i64 0,.slice none 0 0]
def ZdR:Value:=.agg #[.int .i64 0,.slice none 0 0]
def ZaD (w:World) (r:Rcv) (v:Value):Prop:=∃ (LA:Option Addr) (ln lc:Nat),v=.agg #[.int .i64 r.base,.int .i64 r.last,.slice LA ln lc]∧Zy w LA ln lc r.log
structure RI where
 r:Rcv
 LA:Option Addr
 ln:Nat
 lc:Nat
 pb:Nat
 po:Nat
 pn:Nat
 pc:Nat
 f:Nat→Nat
 g:Nat
structure RE (W:World) (Y:RI):Prop where
 T:Tabs W
 L:Zy W Y.LA Y.ln Y.lc Y.r.log
 P:Z8 W (some ⟨Y.pb,Y.po,none⟩) Y.pn Y.f
 hr:W.heap[Y.g]?=some (.cells #[.int .i64 Y.r.base,.int .i64 Y.r.last,.slice Y.LA Y.ln Y.lc] 38 (0,0))
 hz:W.heap[Y.g+1]?=some Zcs
 hw:W.heap[Y.g+2]?=some (wO 0 (.slice none 0 0))
theorem RE.below {W W':World} {Y:RI} (h:RE W Y) (hb:Below W.heap.size W W'):RE W' Y:=
 ⟨h.T.below hb,h.L.below hb,ZdJ h.P hb,(hb.block _ (lt_of_block h.hr)).trans h.hr,(hb.block _ (Zh h.hz)).trans h.hz,(hb.block _ (lt_of_block h.hw)).trans h.hw⟩
def ZfF (w w':World) (r:Rcv) (pn:Nat) (f:Nat→Nat) (t:Int) (fs:List Ent) (v:Value):Prop:=
 (∃ e,YV r pn (n4 f 0) (n4 f 4)=some e∧v=.tuple #[ZaC,ZdR,.int .i64 e]∧Below w.heap.size w w') ∨
 (YV r pn (n4 f 0) (n4 f 4)=none∧∃ x VA vn vc,v=.tuple #[x,.agg #[.int .i64 t,.slice VA vn vc],.int .i64 0]∧ZaD w' (Zbc r (n4 f 0) (n4 f 4) t fs) x∧Zj w' VA vn vc fs∧Below w.heap.size w w')
def JY (w:World) (g:Nat) (a b c:Value):World:=((w.setCell ⟨g,0,none⟩ a).setCell ⟨g,1,none⟩ b).setCell ⟨g,2,none⟩ c
theorem Zbd (w:World) (g:Nat) (a b c:Value) {q:Nat} (hq:q≠g):(JY w g a b c).heap[q]?=w.heap[q]?:=by
 unfold JY
 rw [Below.heap_setCell _ _ _ _ hq,Below.heap_setCell _ _ _ _ hq,Below.heap_setCell _ _ _ _ hq]
theorem ZqA {w:World} {g:Nat} {x y z:Value} {T:TypeId} (a b c:Value) (h:w.heap[g]?=some (.cells #[x,y,z] T (0,0))):(JY w g a b c).heap[g]?=some (.cells #[a,b,c] T (0,0)):=by
 unfold JY
 exact block_setCell (block_setCell (block_setCell h 0 _) 1 _) 2 _
theorem ZqB {B:Nat} {w w':World} {g:Nat} (a b c:Value) (h:Below B w w') (hg:B≤g):Below B w (JY w' g a b c):=by
 unfold JY
 exact ((h.setCell (p:=⟨g,0,none⟩) hg _).setCell (p:=⟨g,1,none⟩) hg _).setCell (p:=⟨g,2,none⟩) hg _
def JZ (w:World) (g:Nat) (a b c d e:Value):World:=put2 (JY w (g+1) a b c) (g+2) d e
theorem Zct {w:World} {g:Nat} {x y z:Value} {T:TypeId} (a b c d e:Value) (h:w.heap[g+1]?=some (.cells #[x,y,z] T (0,0))):(JZ w g a b c d e).heap[g+1]?=some (.cells #[a,b,c] T (0,0)):=
 (YE _ _ _ _ (by omega)).trans (ZqA a b c h)
theorem Zcu {w:World} {g:Nat} {x y:Value} {T:TypeId} (a b c d e:Value) (h:w.heap[g+2]?=some (.cells #[x,y] T (0,0))):(JZ w g a b c d e).heap[g+2]?=some (.cells #[d,e] T (0,0)):=
 Yw d e ((Zbd _ _ _ _ _ (by omega)).trans h)
theorem ZbL {B:Nat} {w w':World} {g:Nat} (a b c d e:Value) (h:Below B w w') (hg:B≤g):Below B w (JZ w' g a b c d e):=YB _ _ (ZqB _ _ _ h (by omega)) (by omega)
theorem ZqC (w:World) (g:Nat) (a b c d e:Value) {q:Nat} (h1:q≠g+1) (h2:q≠g+2):(JZ w g a b c d e).heap[q]?=w.heap[q]?:=(YE _ _ _ _ h2).trans (Zbd _ _ _ _ _ h1)
theorem ZqD {W:World} {q:Nat} (h:W.heap[q]?=some Zcs):Zq W q:=Zco h (fun u hu=>by
 simp only [List.mem_cons,List.not_mem_nil,or_false] at hu;rcases hu with rfl|rfl|rfl<;>simp)
theorem Zj.keep32 {W:World} {g:Nat} {A:Option Addr} {n c:Nat} {l:List Ent} (x y z d e:Value) (h:Zj W A n c l) (hid:∀ e,e∈l→1≤e.id) (h1:W.heap[g+1]?=some Zcs) (h2:W.heap[g+2]?=some (wO 0 (.slice none 0 0))):Zj (JZ W g x y z d e) A n c l:=by
 have ha:=h.keepQ (W':=JY W (g+1) x y z) hid (ZqD h1) (fun b _ hb=>Zbd _ _ _ _ _ hb)
 exact ha.keepQ hid (Zfy ((Zbd _ _ _ _ _ (by omega)).trans h2)) (fun b _ hb=>YE _ _ _ _ hb)
theorem Zcv {fn:Func} {p q u:Tmp} (h:fn.results=#[.cell p 38,.cell q 24,.tmp u]) (tmps:Array Value) (w:World) (g k:Nat) (cs ds:Array Value) (hn:cs.size=3) (hm:ds.size=2)
  (hp:tmps.getD p undef=.pointer (some ⟨g,0,none⟩)) (hq:tmps.getD q undef=.pointer (some ⟨k,0,none⟩)) (hg:w.heap[g]?=some (.cells cs 38 (0,0))) (hk:w.heap[k]?=some (.cells ds 24 (0,0))) :
  (results fn tmps).run Tryz.prog w=.ok (.tuple #[.agg cs,.agg ds,tmps.getD u undef]) w:=by
 have hp':tmps[p]?.getD undef=.pointer (some ⟨g,0,none⟩):=by simpa using hp
 have hq':tmps[q]?.getD undef=.pointer (some ⟨k,0,none⟩):=by simpa using hq
 have hi:(Tryz.prog.info? 38).map (·.size)=some cs.size:=by rw [hn];kernel_rfl
 have hj:(Tryz.prog.info? 24).map (·.size)=some ds.size:=by rw [hm];kernel_rfl
 have hl:=run_loadVar_row (P:=Tryz.prog) w g 38 38 cs (0,0) _ hg Tryz.underlying38 rfl hi
 have hl2:=run_loadVar_row (P:=Tryz.prog) w k 24 24 ds (0,0) _ hk Tryz.underlying24 rfl hj
 simp [results,h,hp',hq',asAddr,hl,hl2]
theorem ZaE {r:Rcv} (h:XI r=true):(0≤r.base∧0≤r.last∧r.last≤1073741824∧r.base≤1073741824)∧r.log.length≤33∧Zaz r.log∧∀ x,x∈r.log→(0<x.num∧x.num≤1073741824)∧ZbK x:=by
 unfold XI Zdw at h
 simp only [Bool.and_eq_true,Bool.not_eq_true',Bool.or_eq_false_iff,decide_eq_false_iff_not,Bool.not_eq_false',Zji,Bool.and_eq_false_iff] at h
 obtain ⟨⟨⟨⟨⟨h1,h2⟩,h3⟩,h4⟩,h5,h6,h7⟩,_⟩:=h
 refine ⟨⟨by omega,by omega,by omega,by omega⟩,h5,h6,fun x hx=>?_⟩
 have:=h7 x hx
 exact ⟨⟨by omega,by omega⟩,this.2⟩
theorem ZqE {r:Rcv} (h:XI r=true) {k:Int} {x:Rec} (hf:Z6 r.log k=some x):Zl x.tick x.es=true:=by
 by_cases hk:k=0
 ·unfold Z6 at hf
  rw [if_pos hk] at hf
  injection hf with hf
  rw [←hf];decide
 ·obtain ⟨hx,_⟩:=Zfw hk hf
  exact ((ZaE h).2.2.2 x hx).2.2
theorem Qs {w:World} {b o n:Nat} {f:Nat→Nat} (h:Z8 w (some ⟨b,o,none⟩) n f) {i:Nat} (hi:i<n):w.cell? ⟨b,o+i,none⟩=some (.int .u8 ((f i:Nat):Int)):=by
 obtain ⟨ad,e,hc⟩:=h i hi
 injection e with e
 subst e
 rcases i with _ | i
 ·exact hc
 ·simpa [Addr.add] using hc
theorem ZqF {r:Rcv} {pn n b:Nat} (h:XI r=false):YV r pn n b=some 2:=by unfold YV;rw [if_pos h]
theorem recvE_8 {r:Rcv} {pn n b:Nat} (h:XI r=true) (h8:pn<8):YV r pn n b=some 261:=by unfold YV;rw [if_neg (by rw [h];simp),if_pos h8]
theorem ZqG {r:Rcv} {pn n b:Nat} (h:XI r=true) (h8:¬ pn<8) (h1:n<1∨1073741824<n∨n≤b):YV r pn n b=some 261:=by unfold YV;rw [if_neg (by rw [h];simp),if_neg h8,if_pos h1]
theorem ZqH {r:Rcv} {pn n b:Nat} (h:XI r=true) (h8:¬ pn<8) (h1:¬ (n<1∨1073741824<n∨n≤b)) (h2:(Z6 r.log (n:Int)).isSome∨(n:Int)<r.base):YV r pn n b=some 262:=by unfold YV;rw [if_neg (by rw [h];simp),if_neg h8,if_neg h1,if_pos h2]
theorem ZqI {r:Rcv} {pn n b:Nat} (h:XI r=true) (h8:¬ pn<8) (h1:¬ (n<1∨1073741824<n∨n≤b)) (h2:¬ ((Z6 r.log (n:Int)).isSome∨(n:Int)<r.base)) (h3:Z6 r.log (b:Int)=none):YV r pn n b=some 260:=by unfold YV;rw [if_neg (by rw [h];simp),if_neg h8,if_neg h1,if_neg h2,if_pos (by rw [h3];rfl)]
theorem ZqJ {r:Rcv} {pn n b:Nat} {x:Rec} (h:XI r=true) (h8:¬ pn<8) (h1:¬ (n<1∨1073741824<n∨n≤b)) (h2:¬ ((Z6 r.log (n:Int)).isSome∨(n:Int)<r.base)) (h3:Z6 r.log (b:Int)=some x):YV r pn n b=none:=by unfold YV;rw [if_neg (by rw [h];simp),if_neg h8,if_neg h1,if_neg h2,if_neg (by rw [h3];simp)]
def ZqK (Y:RI) (t:Int) (fs:List Ent):Prop:=YV Y.r Y.pn (n4 Y.f 0) (n4 Y.f 4)=none→∃ x,Z6 Y.r.log ((n4 Y.f 4:Nat):Int)=some x∧Y.pn=8+Zk (Xo x.tick t x.es fs)∧(∀ i,i<Zk (Xo x.tick t x.es fs)→Y.f (8+i)=M.byteOf (Xo x.tick t x.es fs) i)∧Zl t fs=true∧fs.length≤12∧∀ y,y∈Y.r.log→y.num<((n4 Y.f 0:Nat):Int)
theorem ZqL {w6 W w9:World} {Y:RI} {g9 m c9 B:Nat} {mb ml:Int} {ls:List LR} {ps:List Part}
  (hw9:∀ b,b≠Y.g+1→b≠Y.g+2→w9.heap[b]?=W.heap[b]?) (hz:W.heap.size≤w9.heap.size) (hg6:Y.g+2<w6.heap.size)
  (hm:m=(ls.filter fun x=>!(XK mb ml x.r.num)).length) (hl:ls.length≤1000000)
  (hS:Ses w6 W (rowP B 45 4 m (.slice (some ⟨g9,0,none⟩) m c9) (lrs (ls.filter fun x=>!(XK mb ml x.r.num))) :: ps)) (hp:∀ x,x∈ls→lrP x∈ps) :
  Zy w9 (some ⟨g9,0,none⟩) m c9 ((ls.filter fun x=>!(XK mb ml x.r.num)).map LR.r):=by
 have Zay:∀ p,p∈(rowP B 45 4 m (.slice (some ⟨g9,0,none⟩) m c9) (lrs (ls.filter fun x=>!(XK mb ml x.r.num))) :: ps)→p.P w9:=fun p hp=>
  (hS.sep.1 p hp).same _ (fun q hq=>hw9 q (by have:=hS.base p hp q hq;omega) (by have:=hS.base p hp q hq;omega)) hz
 have hrow:=Zay _ (.head _)
 subst hm
 refine ZiI hrow (Nat.le_trans (List.length_filter_le _ _) hl) (fun x hx=>Zay (lrP x) (.tail _ (hp x (List.mem_filter.1 hx).1)))
end
end Go.Proofs.YtlgcfimhfmgkmaaGreatDoor
