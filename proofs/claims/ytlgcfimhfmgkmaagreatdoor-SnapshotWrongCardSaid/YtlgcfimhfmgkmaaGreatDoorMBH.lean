/- Lemmas for the statement. -/
import Derived.Test.YtlgcfimhfmgkmaaGreatDoorMBF
import Derived.Test.YtlgcfimhfmgkmaaGreatDoorMBG
set_option linter.unusedVariables false
set_option linter.unusedSimpArgs false
set_option maxRecDepth 100000
set_option maxHeartbeats 4000000
namespace Go.Proofs.YtlgcfimhfmgkmaaGreatDoor
open Go.RowKit
section
def byV (n:Nat) (f:Nat→Nat):List Value:=(List.range n).map fun i=>.int .u8 ((f i:Nat):Int)
theorem Tq62 {p:Prop} (h:p:=by
 have h3:=Zg4 (b:=Zv) (c:=(st0,ZT)) ⟨ZbZ,Zb3⟩ (Zff s t (Zw es fs)) (by omega)
 have h4:made st0=0:=rfl
 unfold Zk
 rw [ZbX]
 unfold made at h3 h4
 simp only [] at h3
 omega):p:=h
theorem ZpJ {s t:Int} {es fs:List Ent} (va:Zl s es=true) (vb:Zl t fs=true) (hl:es.length≤12∧fs.length≤12):Zk (Xo s t es fs)≤40000:=by
 have h1:=Ziu s t (Zw es fs) (Zfg va vb)
 have h2:=Zdv va vb
 exact Tq62
structure TV where
 sb:Nat
 wb:Nat
 bb:Nat
 vb:Nat
 gb:Nat
 zb:Nat
 s:Snd
 LA:Option Addr
 ln:Nat
 lc:Nat
 IA:Option Addr
 iN:Nat
 ic:Nat
 NA:Option Addr
 wn:Nat
 wc:Nat
 ws:List Wt
 b:Rec
 BA:Option Addr
 bn:Nat
 bc:Nat
 vt:Int
 VA:Option Addr
 vn:Nat
 vc:Nat
 fs:List Ent
 GA:Option Addr
 gn:Nat
 gc:Nat
 gone:List Int
 size:Int
structure TE (W:World) (X:TV):Prop where
 T:Tabs W
 hs:W.heap[X.sb]?=some (.cells #[.int .i64 X.s.cl,.int .i64 X.s.next,.int .i64 X.s.acked,.slice X.LA X.ln X.lc,.slice X.IA X.iN X.ic] 33 (0,0))
 hw:W.heap[X.wb]?=some (.cells #[.slice X.NA X.wn X.wc] 101 (0,0))
 hb:W.heap[X.bb]?=some (.cells #[.int .i64 X.b.num,.int .i64 X.b.base,.int .i64 X.b.tick,.slice X.BA X.bn X.bc] 45 (0,0))
 hv:W.heap[X.vb]?=some (wO X.vt (.slice X.VA X.vn X.vc))
 hg:W.heap[X.gb]?=some (.cells #[.slice X.GA X.gn X.gc] 48 (0,0))
 hz:W.heap[X.zb]?=some (.cells #[.int .i64 X.size] 3 (0,0))
 L:Zy W X.LA X.ln X.lc X.s.log
 I:ZG 3 It.ints W X.IA X.iN X.s.items
 N:ZG 2 Wt.ints W X.NA X.wn X.ws
 B:Zj W X.BA X.bn X.bc X.b.es
 V:Zj W X.VA X.vn X.vc X.fs
 G:XF W X.GA X.gn X.gone
theorem TE.below {W W':World} {X:TV} (h:TE W X) (hb:Below W.heap.size W W'):TE W' X:=
 ⟨h.T.below hb,(hb.block _ (lt_of_block h.hs)).trans h.hs,(hb.block _ (lt_of_block h.hw)).trans h.hw,(hb.block _ (lt_of_block h.hb)).trans h.hb,(hb.block _ (lt_of_block h.hv)).trans h.hv,(hb.block _ (lt_of_block h.hg)).trans h.hg,(hb.block _ (lt_of_block h.hz)).trans h.hz,
  h.L.below hb,h.I.below hb,h.N.below hb,h.B.below hb,h.V.below hb,h.G.below hb⟩
structure TP (X:TV):Prop where
 vi:Qp X.s.items=true
 vw:Qo X.ws=true
 vb:Zl X.b.tick X.b.es=true
 vv:Zl X.vt X.fs=true
 ln:X.ln≤34
 les:∀ r,r∈X.s.log→r.es.length≤64
 lb:X.b.es.length≤12
 gn:X.GA=none→X.gn=0∧X.gc=0
 ic:X.iN≤1000000∧(X.IA=none→X.iN=0∧X.ic=0)
 nx:0≤X.s.next∧X.s.next≤1073741824
 ak:0≤X.s.acked∧X.s.acked≤1073741824
 sz:0≤X.size∧X.size≤1200
 gl:X.gn≤1000
theorem ZpK {w:World} {B B' e s n:Nat} {v:Value} {xs:List Value} (h:w.ownsRow B e s v n xs) (hB:B'≤B):w.ownsRow B' e s v n xs:=by
 refine ⟨h.1,?_⟩
 rcases h.2 with h'|⟨g,cap,cur,e,hb,r⟩
 ·exact .inl h'
 ·exact .inr ⟨g,cap,cur,e,Nat.le_trans hB hb,r⟩
theorem Ses.rowBase {w0 W:World} {B e k n:Nat} {v:Value} {xs:List Value} {l:List Part} (h:Ses w0 W (rowP B e k n v xs :: l)):∃ B',B'≤W.heap.size∧Ses w0 W (rowP B' e k n v xs :: l):=
 ⟨min B W.heap.size,Nat.min_le_right _ _,h.swap (fun q hq=>hq) (Za3 (ZpK (B:=B) h.head (Nat.min_le_left _ _)))⟩
theorem ZpL (l m:List LR):lrs (l++m)=lrs l++lrs m:=by simp [lrs]
theorem ZdJ {w w':World} {A:Option Addr} {n:Nat} {f:Nat→Nat} (h:Z8 w A n f) (hb:Below w.heap.size w w'):Z8 w' A n f:=fun i hi=>by
 obtain ⟨ad,e,hc⟩:=h i hi
 refine ⟨ad,e,?_⟩
 obtain ⟨b,o,p⟩:=ad
 have hlt:((⟨b,o,p⟩:Addr).add i).block<w.heap.size:=World.block_lt_of_cell? w _ hc
 have hs:=hb.block _ hlt
 unfold World.cell? at hc ⊢
 rw [hs]
 exact hc
theorem ZiV {w:World} {A:Option Addr} {n c:Nat} {f:Nat→Nat} (h:Z8 w A n f) (hn:A=none→n=0∧c=0):X6 w ⟨A,n,c,byV n f⟩:=by
 refine ⟨by simp [byV],hn,fun ad e j u hu=>?_,fun u hu=>?_⟩
 ·have hu:(byV n f)[j]?=some u:=hu
  have hj:j<n:=by have:=(List.getElem?_eq_some_iff.1 hu).1;simpa [byV] using this
  obtain ⟨ad',e',hc⟩:=h j hj
  have e:A=some ad:=e
  rw [e] at e'
  injection e' with e'
  subst e'
  have hv:u=.int .u8 ((f j:Nat):Int):=by
   simp only [byV,List.getElem?_map,List.getElem?_range hj,Option.map_some] at hu
   exact (Option.some.inj hu).symm
  rw [hv];exact hc
 ·have hu:u∈byV n f:=hu
  obtain ⟨x,_,rfl⟩:=List.mem_map.1 hu
  rfl
theorem ZdK {w:World} {b:Nat} {cs:Array Value} {l:List Value} {T:TypeId} (h:w.heap[b]?=some (.cells cs T (0,0))) (hc:cs.toList=l) (hl:l.length=4∧∀ u,u∈l→u.oneCell'=true):X6 w ⟨some ⟨b,0,none⟩,4,4,l⟩:=by
 subst hc
 refine ⟨hl.1,(fun e=>by cases e),fun ad e j u hu=>?_,hl.2⟩
 injection e with e
 subst e
 have hu:cs.toList[j]?=some u:=hu
 rw [show ((⟨b,0,none⟩:Addr).add j)=⟨b,j,none⟩ from by rcases j with _ | j<;>simp [Addr.add]]
 exact Za h j u (by simpa using hu)
theorem ZdL (a b c d:Int):[Value.int .u8 a,.int .u8 b,.int .u8 c,.int .u8 d].length=4∧∀ u,u∈[Value.int .u8 a,.int .u8 b,.int .u8 c,.int .u8 d]→u.oneCell'=true:=by
 refine ⟨rfl,fun u hu=>?_⟩
 simp only [List.mem_cons,List.not_mem_nil,or_false] at hu
 rcases hu with rfl|rfl|rfl|rfl<;>rfl
theorem ZiW {P:World} {a b c:Src} (ha:X6 P a) (hb:X6 P b) (hc:X6 P c):∀ s,s∈[a,b,c]→X6 P s:=by
 intro s hs
 simp only [List.mem_cons,List.not_mem_nil,or_false] at hs
 rcases hs with rfl|rfl|rfl
 ·exact ha
 ·exact hb
 ·exact hc
theorem ZiX {P:World} {lb:Nat} {a b c:Src} {T:TypeId} (h:P.heap[lb]?=some (.cells #[.slice a.A a.n a.c,.slice b.A b.n b.c,.slice c.A c.n c.c] T (0,0))):∀ (i:Nat) s,[a,b,c][i]?=some s→P.cell? ⟨lb,i,none⟩=some (.slice s.A s.n s.c):=by
 intro i s hi
 rcases i with _ | _ | _ | i
 ·injection hi with hi;subst hi;exact Za h 0 _ rfl
 ·injection hi with hi;subst hi;exact Za h 1 _ rfl
 ·injection hi with hi;subst hi;exact Za h 2 _ rfl
 ·simp at hi
theorem Za9 {fn:Func} {p u v:Tmp} (h:fn.results=#[.cell p 33,.tmp u,.tmp v]) (tmps:Array Value) (w:World) (g:Nat) (cs:Array Value) (hn:cs.size=5)
  (hp:tmps.getD p undef=.pointer (some ⟨g,0,none⟩)) (hg:w.heap[g]?=some (.cells cs 33 (0,0))) :
  (results fn tmps).run Tryz.prog w=.ok (.tuple #[.agg cs,tmps.getD u undef,tmps.getD v undef]) w:=by
 have hp':tmps[p]?.getD undef=.pointer (some ⟨g,0,none⟩):=by simpa using hp
 have hi:(Tryz.prog.info? 33).map (·.size)=some cs.size:=by rw [hn];kernel_rfl
 have hl:=run_loadVar_row (P:=Tryz.prog) w g 33 33 cs (0,0) _ hg Tryz.underlying33 rfl hi
 simp [results,h,hp',asAddr,hl]
def QZ (X:TV) (k:Nat):List Int:=X.gone++(YT X.s.items X.ws k).map (idS X.ws)
def Z7 (X:TV) (k:Nat):List Ent:=QT X.b.es X.fs (QZ X k)
abbrev ZB (X:TV) (k:Nat):List Bool:=Xo X.b.tick X.vt X.b.es (Z7 X k)
theorem Zfr {P:World} {a b:Src} (ha:X6 P a) (hb:X6 P b):∀ s,s∈[a,b]→X6 P s:=by
 intro s hs
 simp only [List.mem_cons,List.not_mem_nil,or_false] at hs
 rcases hs with rfl|rfl
 ·exact ha
 ·exact hb
theorem Zfs {P:World} {lb:Nat} {a b:Src} {T:TypeId} (h:P.heap[lb]?=some (.cells #[.slice a.A a.n a.c,.slice b.A b.n b.c] T (0,0))):∀ (i:Nat) s,[a,b][i]?=some s→P.cell? ⟨lb,i,none⟩=some (.slice s.A s.n s.c):=by
 intro i s hi
 rcases i with _ | _ | i
 ·injection hi with hi;subst hi;exact Za h 0 _ rfl
 ·injection hi with hi;subst hi;exact Za h 1 _ rfl
 ·simp at hi
theorem JS (A B:Option Addr) (n c m d:Nat) (l r:List Int):Yf [⟨A,n,c,Zu l⟩,⟨B,m,d,Zu r⟩]=n+m∧QH [⟨A,n,c,Zu l⟩,⟨B,m,d,Zu r⟩]=Zu (l++r):=⟨by simp [Yf],by simp [QH,Zu]⟩
theorem ZiY {W:World} {q i b:Nat} {u:Value} (hq:W.heap[q]?=some (wO 0 (.slice none 0 0))) (h:W.cell? ⟨b,i,none⟩=some u) (h0:u≠.int .i64 0) (h1:u≠.slice none 0 0):b≠q:=by
 rintro rfl
 rw [cell_of_block hq i] at h
 rcases i with _ | _ | i
 ·injection h with h;exact h0 h.symm
 ·injection h with h;exact h1 h.symm
 ·simp at h
theorem Zj.keep {W W':World} {A:Option Addr} {n c q:Nat} {l:List Ent} (h:Zj W A n c l) (hid:∀ e,e∈l→1≤e.id) (hq:W.heap[q]?=some (wO 0 (.slice none 0 0))) (hk:∀ b,b<W.heap.size→b≠q→W'.heap[b]?=W.heap[b]?):Zj W' A n c l:=by
 refine ⟨h.len,fun j e hj=>?_,h.nil,h.lim,h.le⟩
 obtain ⟨b,o,CA,cn,cc,ea,⟨h0,h1⟩,hc⟩:=h.at_ j e hj
 have hb:b≠q:=ZiY hq h0 (fun e'=>by injection e' with _ e';have:=hid e (List.mem_of_getElem? hj);omega) (by simp)
 have hs:=hk b (Zc h0) hb
 refine ⟨b,o,CA,cn,cc,ea,⟨(Zm hs _).trans h0,(Zm hs _).trans h1⟩,hc.len,fun i x hx=>?_,hc.nil,hc.lim,hc.kind⟩
 obtain ⟨b',o',ea',hcc⟩:=hc.at_ i x hx
 have hb':b'≠q:=ZiY hq hcc.c0 (by simp) (by simp)
 exact ⟨b',o',ea',hcc.step (hk b' (Zc hcc.c0) hb')⟩
def XJ {α:Type} (d:Nat) (b:Bool) (l:List α):List α:=if b then l.take d++l.drop (d+1) else l
def Zax (X:TV) (k:Nat):Rec:=⟨X.s.next,X.s.acked,X.vt,Z7 X k⟩
def drT (X:TV):Nat:=(min X.s.acked 1).toNat
def XV (X:TV) (k:Nat):List Rec:=XJ (drT X) (decide ((32+(drT X:Int))<((X.s.log.length+1:Nat):Int))) (X.s.log++[Zax X k])
def Xz (X:TV) (k:Nat):Snd:=⟨X.s.cl,X.s.next+1,X.s.acked,XV X k,QE X.s.items X.ws (YT X.s.items X.ws k)⟩
def b4V (n:Nat):List Value:=[.int .u8 ((n / 16777216:Nat):Int),.int .u8 ((n / 65536 % 256:Nat):Int),.int .u8 ((n / 256 % 256:Nat):Int),.int .u8 ((n % 256:Nat):Int)]
def X7 (X:TV) (k:Nat):List Value:=b4V X.s.next.toNat++(b4V X.s.acked.toNat++byV (Zk (ZB X k)) (M.byteOf (ZB X k)))
def ZbJ (w w':World) (X:TV) (k:Nat) (e:Ending):Prop:=
 (X.size<8+((Zk (ZB X k):Nat):Int)∧e=.returned (.tuple #[Za7,.slice none 0 0,.bool false])∧Below w.heap.size w w') ∨
 (8+((Zk (ZB X k):Nat):Int)≤X.size∧∃ v pv B,e=.returned (.tuple #[v,pv,.bool true])∧Xy w.heap.size w' (Xz X k) v∧(w'.ownsRow B 5 1 pv (8+Zk (ZB X k)) (X7 X k)∧w.heap.size≤B)∧Below w.heap.size w w')
theorem XF.src {w:World} {A:Option Addr} {n c:Nat} {l:List Int} (h:XF w A n l) (hn:A=none→n=0∧c=0):X6 w ⟨A,n,c,Zu l⟩:=by
 refine ⟨by show (Zu l).length=n;rw [Zu,List.length_map,h.len],hn,fun ad e j u hu=>?_,fun u hu=>?_⟩
 ·have hu:(Zu l)[j]?=some u:=hu
  rw [Zu,List.getElem?_map] at hu
  rcases hx:l[j]? with _ | x
  ·rw [hx] at hu;cases hu
  rw [hx] at hu
  injection hu with hu
  subst hu
  obtain ⟨b,o,e',hc⟩:=h.at_ j x hx
  have e:A=some ad:=e
  rw [e] at e'
  injection e' with e'
  subst e'
  rw [show ((⟨b,o,none⟩:Addr).add j)=⟨b,o+j,none⟩ from by rcases j with _ | j<;>simp [Addr.add]]
  exact hc
 ·have hu:u∈Zu l:=hu
  obtain ⟨x,_,rfl⟩:=List.mem_map.1 hu
  rfl
theorem ZpM {α β:Type} (d:Nat) (b:Bool) (f:α→β) (l:List α):(XJ d b l).map f=XJ d b (l.map f):=by
 unfold XJ
 cases b<;>simp [List.map_take,List.map_drop]
theorem ZiZ {α:Type} {d:Nat} {b:Bool} {l:List α} {x:α} (h:x∈XJ d b l):x∈l:=by
 unfold XJ at h
 cases b
 ·exact h
 ·rcases List.mem_append.1 h with h | h
  ·exact List.mem_of_mem_take h
  ·exact List.mem_of_mem_drop h
theorem Zi0 (A B C:Option Addr) (n c m d p e:Nat) (l r s:List Value):Yf [⟨A,n,c,l⟩,⟨B,m,d,r⟩,⟨C,p,e,s⟩]=n+(m+p)∧QH [⟨A,n,c,l⟩,⟨B,m,d,r⟩,⟨C,p,e,s⟩]=l++(r++s):=⟨by simp [Yf],by simp [QH]⟩
theorem Zi1 (X:TV) (k:Nat) (w w6 wd v24:World) (g g8 g11 ob c11 nn B B2 dr mn mc P pn pc nx na b1 b2:Nat) (MA QA PA:Option Addr) (qc:Nat) (D:Bool) (ls LS:List LR) (x9:LR) (pv:Value) (O8:Obj)
  (hx9:x9=⟨⟨X.s.next,X.s.acked,X.vt,Z7 X k⟩,[],MA,mn,mc⟩) (hLS:nn=LS.length∧LS=XJ dr D (ls++[x9])) (hls:ls.map LR.r=X.s.log)
  (hD:D=decide ((32+(dr:Int))<((ls.length+1:Nat):Int))) (hdr:min X.s.acked 1=(dr:Int))
  (hS:Ses w6 wd (Zb g8 O8 :: rowP B 45 4 nn (.slice (some ⟨g11,0,none⟩) nn c11) (lrs LS) :: (ls.map lrP++[rowP B2 134 3 X.s.items.length (.slice QA X.s.items.length qc) (ZM X.s.items)])))
  (hM6:Zj w6 MA mn mc (Z7 X k)) (hid:∀ e,e∈Z7 X k→1≤e.id)
  (hI6:ZG 3 It.ints w6 (some ⟨ob,0,none⟩) X.wn (QE X.s.items X.ws (YT X.s.items X.ws k))) (hob:g<ob)
  (hg:g<w6.heap.size) (hwg:w.heap.size≤g) (hbw:Below w.heap.size w v24) (hb:Below wd.heap.size wd v24)
  (hgz:v24.heap[g]?=some ZR) (hp:v24.ownsRow P 5 1 pv (Yf [⟨some ⟨b1,0,none⟩,4,4,[.int .u8 ((nx / 16777216:Nat):Int),.int .u8 ((nx / 65536 % 256:Nat):Int),.int .u8 ((nx / 256 % 256:Nat):Int),.int .u8 ((nx % 256:Nat):Int)]⟩,⟨some ⟨b2,0,none⟩,4,4,[.int .u8 ((na / 16777216:Nat):Int),.int .u8 ((na / 65536 % 256:Nat):Int),.int .u8 ((na / 256 % 256:Nat):Int),.int .u8 ((na % 256:Nat):Int)]⟩,⟨PA,pn,pc,byV pn (M.byteOf (ZB X k))⟩]) (QH [⟨some ⟨b1,0,none⟩,4,4,[.int .u8 ((nx / 16777216:Nat):Int),.int .u8 ((nx / 65536 % 256:Nat):Int),.int .u8 ((nx / 256 % 256:Nat):Int),.int .u8 ((nx % 256:Nat):Int)]⟩,⟨some ⟨b2,0,none⟩,4,4,[.int .u8 ((na / 16777216:Nat):Int),.int .u8 ((na / 65536 % 256:Nat):Int),.int .u8 ((na / 256 % 256:Nat):Int),.int .u8 ((na % 256:Nat):Int)]⟩,⟨PA,pn,pc,byV pn (M.byteOf (ZB X k))⟩])) (hP:w.heap.size≤P∧g<P)
  (hpn:pn=Zk (ZB X k)) (hnx:X.s.next=(nx:Int)) (hna:X.s.acked=(na:Int))
  (hfit:8+(pn:Int)≤X.size) (hln:ls.length≤34) :
  ZbJ w (QS v24 g (.int .i64 X.s.cl) (.int .i64 (X.s.next+1)) (.int .i64 X.s.acked) (.slice (some ⟨g11,0,none⟩) nn c11) (.slice (some ⟨ob,0,none⟩) X.wn X.wn)) X k (.returned (.tuple #[.agg #[.int .i64 X.s.cl,.int .i64 (X.s.next+1),.int .i64 X.s.acked,.slice (some ⟨g11,0,none⟩) nn c11,.slice (some ⟨ob,0,none⟩) X.wn X.wn],pv,.bool true])):=by
 obtain ⟨W,eW⟩:∃ W,W=QS v24 g (.int .i64 X.s.cl) (.int .i64 (X.s.next+1)) (.int .i64 X.s.acked) (.slice (some ⟨g11,0,none⟩) nn c11) (.slice (some ⟨ob,0,none⟩) X.wn X.wn):=⟨_,rfl⟩
 have hkp:∀ q,q≠g→W.heap[q]?=v24.heap[q]?:=fun q hq=>by rw [eW];exact Xn _ _ _ _ _ _ _ hq
 have hbW:Below g v24 W:=by rw [eW];exact Yl _ _ _ _ _ (Below.refl _ _) (Nat.le_refl _)
 have ZpN:Below w.heap.size w W:=hbw.trans (hbW.mono hwg)
 rw [←eW]
 clear eW
 have hS4:=hS.below hb
 have Zay:∀ p,p∈(Zb g8 O8 :: rowP B 45 4 nn (.slice (some ⟨g11,0,none⟩) nn c11) (lrs LS) :: (ls.map lrP++[rowP B2 134 3 X.s.items.length (.slice QA X.s.items.length qc) (ZM X.s.items)]))→p.P W:=fun p hp=>
  (hS4.sep.1 p hp).same _ (fun q hq=>hkp q (by have:=hS4.base p hp q hq;omega)) hbW.size
 have hlen:ls.length=X.s.log.length:=by rw [←hls,List.length_map]
 have ZpO:drT X=dr:=by unfold drT;omega
 obtain ⟨hnn,hLS⟩:=hLS
 have hrow:=Zay _ (.tail _ (.head _))
 subst hnn
 have hll:LS.length≤1000000:=by
  rw [hLS]
  unfold XJ
  split<;>simp only [List.length_append,List.length_take,List.length_drop,List.length_singleton]<;>omega
 have Zft:LS.map LR.r=XV X k:=by
  rw [hLS,ZpM,List.map_append,hls,hD,hlen]
  unfold XV
  rw [ZpO,List.map_singleton,hx9]
  rfl
 have ZpP:W.ownsRow B 45 4 (.slice (some ⟨g11,0,none⟩) LS.length c11) LS.length (lrs LS):=hrow
 have ZdM:w6.heap.size≤g11:=hS4.base _ (.tail _ (.head _)) g11 (.head _)
 have hne:LS≠[]:=by
  intro e
  have h0:LS.length=0:=by rw [e];rfl
  rw [hLS] at h0
  unfold XJ at h0
  split at h0
  ·rename_i hd
   rw [hD,decide_eq_true_eq] at hd
   simp only [List.length_append,List.length_take,List.length_drop,List.length_singleton] at h0
   omega
  ·simp at h0
 have hcl:∀ W':World,W.heap.size≤W'.heap.size→(∀ b,b<W.heap.size→b≠g11→W'.heap[b]?=W.heap[b]?)→(∀ x,x∈LS→Zj W' x.A x.n x.c x.r.es)∧ZG 3 It.ints W' (some ⟨ob,0,none⟩) X.wn (Xz X k).items:=by
  intro W' hz hk
  have h6:∀ b,b<w6.heap.size→b≠g→W'.heap[b]?=w6.heap[b]?:=fun b ZpQ hbg=>by
   have h1:=(Ze hS.bel hb).size
   rw [hk b (by have:=hbW.size;omega) (by omega),hkp b hbg]
   exact (Ze hS.bel hb).block b ZpQ
  refine ⟨fun x hx=>?_,⟨hI6.len,fun j x hj=>?_,hI6.lim⟩⟩
  ·rw [hLS] at hx
   rcases List.mem_append.1 (ZiZ hx) with hx | hx
   ·have hp:lrP x∈(Zb g8 O8 :: rowP B 45 4 LS.length (.slice (some ⟨g11,0,none⟩) LS.length c11) (lrs LS) :: (ls.map lrP++[rowP B2 134 3 X.s.items.length (.slice QA X.s.items.length qc) (ZM X.s.items)])):=.tail _ (.tail _ (List.mem_append_left _ (List.mem_map.2 ⟨x,hx,rfl⟩)))
    refine (hS4.sep.1 _ hp).same W' (fun q hq=>?_) (Nat.le_trans hbW.size hz)
    have hq6:=hS4.base _ hp q hq
    have hap:Apart (rowP B 45 4 LS.length (.slice (some ⟨g11,0,none⟩) LS.length c11) (lrs LS)) (lrP x):=(List.pairwise_cons.1 (List.pairwise_cons.1 hS4.sep.2).2).1 _ (List.mem_append_left _ (List.mem_map.2 ⟨x,hx,rfl⟩))
    have hq11:q≠g11:=fun e=>hap g11 (.head _) (e▸hq)
    rw [hk q (by have:=(hS4.sep.1 _ hp).lt q hq;have:=hbW.size;omega) hq11]
    exact hkp q (by omega)
   ·have:x=x9:=by simpa using hx
    rw [this,hx9]
    exact hM6.keepS hid (((Ze hS.bel hb).block g hg).symm.trans hgz) h6
  ·obtain ⟨b',o',e',hc'⟩:=hI6.at_ j x hj
   have e0:=e'
   injection e' with e'
   injection e' with e1 e2
   refine ⟨b',o',e0,fun r v hv=>?_⟩
   have h0:=hc' r v hv
   exact (Zm (h6 b' (Zc h0) (by omega)) _).trans h0
 refine .inr ⟨by rw [←hpn];exact hfit,_,pv,P,rfl,⟨_,_,_,_,_,_,rfl,g11,LS,rfl,ZiJ ZpP (by omega),⟨rfl,hll,hne⟩,Zft,(fun e=>by cases e),hcl⟩,⟨?_,hP.1⟩,ZpN⟩
 have hp':=(Za3 hp).same W (fun q hq=>hkp q (by have:=(Yg hp (by simpa [rowP] using hq)).2;omega)) hbW.size
 have hp2:W.ownsRow P 5 1 pv (Yf [⟨some ⟨b1,0,none⟩,4,4,[.int .u8 ((nx / 16777216:Nat):Int),.int .u8 ((nx / 65536 % 256:Nat):Int),.int .u8 ((nx / 256 % 256:Nat):Int),.int .u8 ((nx % 256:Nat):Int)]⟩,⟨some ⟨b2,0,none⟩,4,4,[.int .u8 ((na / 16777216:Nat):Int),.int .u8 ((na / 65536 % 256:Nat):Int),.int .u8 ((na / 256 % 256:Nat):Int),.int .u8 ((na % 256:Nat):Int)]⟩,⟨PA,pn,pc,byV pn (M.byteOf (ZB X k))⟩]) (QH [⟨some ⟨b1,0,none⟩,4,4,[.int .u8 ((nx / 16777216:Nat):Int),.int .u8 ((nx / 65536 % 256:Nat):Int),.int .u8 ((nx / 256 % 256:Nat):Int),.int .u8 ((nx % 256:Nat):Int)]⟩,⟨some ⟨b2,0,none⟩,4,4,[.int .u8 ((na / 16777216:Nat):Int),.int .u8 ((na / 65536 % 256:Nat):Int),.int .u8 ((na / 256 % 256:Nat):Int),.int .u8 ((na % 256:Nat):Int)]⟩,⟨PA,pn,pc,byV pn (M.byteOf (ZB X k))⟩]):=hp'
 rw [(Zi0 _ _ _ _ _ _ _ _ _ _ _ _).1,(Zi0 _ _ _ _ _ _ _ _ _ _ _ _).2] at hp2
 have e1:X.s.next.toNat=nx:=by omega
 have e2:X.s.acked.toNat=na:=by omega
 unfold X7
 rw [e1,e2,←hpn]
 rw [show 8+pn=4+(4+pn) from by omega]
 exact hp2
end
end Go.Proofs.YtlgcfimhfmgkmaaGreatDoor
namespace Go.Proofs.YtlgcfimhfmgkmaaGreatDoor
open Go.RowKit
section
def ZdN {α:Type} (y:α) (l:List α) (k:Int):Prop:=(∃ j:Nat,k=((j:Nat):Int)∧y∈l)∨(k=-1∧y∉l)
theorem ZdN.has {α:Type} [DecidableEq α] {y:α} {l:List α} {k:Int} (h:ZdN y l k):decide (0≤k)=decide (y∈l):=by
 rcases h with ⟨j,rfl,h⟩|⟨rfl,h⟩
 ·rw [decide_eq_true h];exact decide_eq_true (by omega)
 ·rw [decide_eq_false h];rfl
theorem Zi2 {α:Type} {y:α} {l:List α} {j:Nat} (hj:l.length≤j) (h:∀ (i:Nat) x,i<j→l[i]?=some x→x≠y):y∉l:=by
 intro hy
 obtain ⟨i,hi⟩:=List.getElem?_of_mem hy
 exact h i y (by have:=(List.getElem?_eq_some_iff.1 hi).1;omega) hi rfl
theorem ZpR (A:Option Addr) (n c:Nat) (l:List Int) (y:Int) (w:World) (h:XF w A n l) :
  Calls Tryz.prog 156 #[.slice A n c,.int .i64 y] w fun e w'=>∃ k,e=.returned (.int .i64 k)∧ZdN y l k∧Below w.heap.size w w':=by
 have H:=Qh h
 clear h
 go_enter Tryz.func156,Tryz.ntmps156
 go_wp2_with fail
 go_loopg [8] n (fun gh iv wr=>∃ j:Nat,gh+j=n∧iv=.int .i64 (j:Nat)∧(∀ (i:Nat) x,i<j→l[i]?=some x→x≠y)∧Below w.heap.size w wr)
 case atStart=>exact ⟨0,rfl,rfl,fun i x h=>by omega,Below.refl _ _⟩
 case round=>
  obtain ⟨j,hg,rfl,ht,hW⟩:=hrel
  obtain ⟨W,eW⟩:∃ W,W=wr:=⟨_,rfl⟩
  rw [←eW] at hW ⊢
  clear eW
  have h:=H.out
  have hlen:=h.len
  have hlim:=h.lim
  by_cases hlt:j<n
  ·obtain ⟨x,hx⟩:∃ x,l[j]?=some x:=⟨_,List.getElem?_eq_getElem (by omega)⟩
   have i0:(0:Int)≤(j:Int):=by omega
   have i1:(j:Int)<(n:Int):=by omega
   have i2:decide (j<n)=true:=decide_eq_true hlt
   have u2:wrap64 ((j:Int)+1)=(j:Int)+1:=Zn _ (by omega) (by omega)
   obtain ⟨b,o,rfl,c0⟩:=h.at_ j x hx
   have c0:=(hW.cell (Zc c0)).trans c0
   by_cases hxy:y=x
   ·have q1:(y==x)=true:=by rw [hxy,beq_iff_eq]
    have HX:=Qh (Qi hW (Qi hx hxy))
    clear hlt hg ht hW hx h hlen hlim hxy
    go_wp2_with fail
    go_ret
    exact ⟨(j:Nat),rfl,Or.inl ⟨j,rfl,by rw [HX.out.2.2];exact List.mem_of_getElem? HX.out.2.1⟩,HX.out.1⟩
   ·have q1:(y==x)=false:=by rw [beq_eq_false_iff_ne];exact hxy
    have HX:=Qh (Qi hlt (Qi hg (Qi ht (Qi hW (Qi hx hxy)))))
    clear hlt hg ht hW hx h hlen hlim hxy
    go_wp2_with fail
    go_roundg (n-(j+1))
    case measure=>have:=HX.out.1;have:=HX.out.2.1;omega
    case rel=>
     obtain ⟨hlt,hg,ht,hW,hx,hxy⟩:=HX.out
     refine ⟨j+1,by omega,by go_num,fun i z hi hz=>?_,hW⟩
     by_cases e:i=j
     ·subst e;rw [hx] at hz;injection hz with hz;rw [←hz];exact fun e=>hxy e.symm
     ·exact ht i z (by omega) hz
  ·have i2:decide (j<n)=false:=decide_eq_false hlt
   have HX:=Qh (Qi (Zi2 (by omega) ht) hW)
   clear hlt hg ht hW h hlen hlim
   go_wp2_with fail
   go_ret
   exact ⟨-1,rfl,Or.inr ⟨rfl,HX.out.1⟩,HX.out.2⟩
theorem Zfu (A:Option Addr) (n c:Nat) (l:List Int) (y:Int) (w:World) (h:XF w A n l) :
  Calls Tryz.prog 99 #[.slice A n c,.int .i64 y] w fun e w'=>e=.returned (.bool (decide (y∈l)))∧Below w.heap.size w w':=by
 have I:=ZpR A n c l y w h
 obtain ⟨R,eR⟩:∃ R,R=decide (y∈l):=⟨_,rfl⟩
 rw [←eR]
 have HR:=Qh eR
 clear eR h
 go_enter Tryz.func99,Tryz.ntmps99
 go_wp2_with (go_at_call 156;refine I.mono ?_;rintro e w2 ⟨k,rfl,hk,hb2⟩;have H2:=Qh (Qi hk hb2);clear hk hb2)
 go_ret
 exact ⟨by rw [HR.out,←H2.out.1.has];rfl,H2.out.2⟩
abbrev Zi3 (x:Cmp):Value:=.agg #[.int .u8 (x.kind:Nat),.int .i64 x.v0,.int .i64 x.v1,.int .i64 x.v2,.int .i64 x.v3]
theorem Tq32 {p:Prop} (h:p:=by
  go_upto_region 4 with fail
  go_region
  all_goals go_wp2_with fail
  all_goals (go_roundg (n-(j+1)))
  all_goals first
    | (have:=HX.out.1;have:=HX.out.2.1;omega)
    | (obtain ⟨hlt,hg,ht,⟨hW,hW1⟩,hx⟩:=HX.out
       refine ⟨j+1,by omega,by go_num,fun i z hi hz=>?_,hW1.drew⟩
       by_cases e:i=j
       · subst e;rw [hx] at hz;injection hz with hz;rw [←hz];exact fun e=>HN.out e.symm
       · exact ht i z (by omega) hz)):p:=h
theorem ZpS (A:Option Addr) (n c:Nat) (l:List Cmp) (y:Cmp) (w:World) (h:Zo w A n c l) :
  Calls Tryz.prog 155 #[.slice A n c,Zi3 y] w fun e w'=>∃ k,e=.returned (.int .i64 k)∧ZdN y l k∧Below w.heap.size w w':=by
 obtain ⟨w1,e1⟩:∃ W,W=w.alloc (ZF y):=⟨_,rfl⟩
 obtain ⟨g,eg⟩:∃ g,g=w.heap.size:=⟨_,rfl⟩
 have hb1:Below w.heap.size w w1:=by rw [e1];exact Zg w _
 have hg0:w1.heap[g]?=some (ZF y):=by rw [e1,eg];exact heap_alloc_new w _
 have H:=Qh (Qi h (Qi hb1 hg0))
 clear h hb1 hg0
 unfold ZF at e1
 go_enter Tryz.func155,Tryz.ntmps155
 go_upto_region 1 with fail
 rw [←e1,←eg]
 clear e1 eg
 go_wp2_with fail
 go_loopg [8] n (fun gh iv wr=>∃ j:Nat,gh+j=n∧iv=.int .i64 (j:Nat)∧(∀ (i:Nat) x,i<j→l[i]?=some x→x≠y)∧Below w1.heap.size w1 wr)
 case atStart=>exact ⟨0,rfl,rfl,fun i x h=>by omega,Below.refl _ _⟩
 case round=>
  obtain ⟨j,hg,rfl,ht,hW1⟩:=hrel
  obtain ⟨W,eW⟩:∃ W,W=wr:=⟨_,rfl⟩
  rw [←eW] at hW1 ⊢
  clear eW
  have hW:Below w.heap.size w W:=H.out.2.1.trans (hW1.mono H.out.2.1.size)
  have h:=H.out.1
  have hlen:=h.len
  have hlim:=h.lim
  by_cases hlt:j<n
  ·obtain ⟨x,hx⟩:∃ x,l[j]?=some x:=⟨_,List.getElem?_eq_getElem (by omega)⟩
   have i0:(0:Int)≤(j:Int):=by omega
   have i1:(j:Int)<(n:Int):=by omega
   have i2:decide (j<n)=true:=decide_eq_true hlt
   have u2:wrap64 ((j:Int)+1)=(j:Int)+1:=Zn _ (by omega) (by omega)
   obtain ⟨b,o,rfl,hc⟩:=h.at_ j x hx
   obtain ⟨c0,c1,c2,c3,c4⟩:=hc.step (hW.block b (Zc hc.c0))
   obtain ⟨d0,d1,d2,d3,d4⟩:=Za1 ((hW1.block g (Zh H.out.2.2)).trans H.out.2.2)
   have HX:=Qh (Qi hlt (Qi hg (Qi ht (Qi (Qi hW hW1) hx))))
   clear hlt hg ht hW hW1 hx h hlen hlim hc
   by_cases hcd:y=x
   ·subst hcd
    have hE:∀ W,(Op.equalIn 9999 73 (.agg #[.int .i64 y.v0,.int .i64 y.v1,.int .i64 y.v2,.int .i64 y.v3]) (.agg #[.int .i64 y.v0,.int .i64 y.v1,.int .i64 y.v2,.int .i64 y.v3])).run Tryz.prog W=.ok true W:=fun W=>by rw [ZaW];simp
    go_upto_region 4 with fail
    go_region
    all_goals go_wp2_with fail
    all_goals go_ret
    all_goals exact ⟨(j:Nat),rfl,Or.inl ⟨j,rfl,List.mem_of_getElem? HX.out.2.2.2.2⟩,HX.out.2.2.2.1.1.drew⟩
   ·by_cases hk:y.kind=x.kind
    ·have hE:∀ W,(Op.equalIn 9999 73 (.agg #[.int .i64 y.v0,.int .i64 y.v1,.int .i64 y.v2,.int .i64 y.v3]) (.agg #[.int .i64 x.v0,.int .i64 x.v1,.int .i64 x.v2,.int .i64 x.v3])).run Tryz.prog W=.ok false W:=fun W=>by
      exact Tq72
     rw [←hk] at c0
     have HN:=Qh hcd
     clear hk hcd
     exact Tq32
    ·have hk2:((y.kind:Int)==(x.kind:Int))=false:=by simp;omega
     have hk3:¬ (y.kind:Int)=(x.kind:Int):=by omega
     have HN:=Qh hcd
     clear hcd
     exact Tq32
  ·have i2:decide (j<n)=false:=decide_eq_false hlt
   have HX:=Qh (Qi (Zi2 (by omega) ht) hW)
   clear hlt hg ht hW hW1 h hlen hlim
   go_wp2_with fail
   go_ret
   exact ⟨-1,rfl,Or.inr ⟨rfl,HX.out.1⟩,HX.out.2⟩
theorem ZpT (A:Option Addr) (n c:Nat) (l:List Cmp) (y:Cmp) (w:World) (h:Zo w A n c l) :
  Calls Tryz.prog 98 #[.slice A n c,Zi3 y] w fun e w'=>e=.returned (.bool (decide (y∈l)))∧Below w.heap.size w w':=by
 obtain ⟨w1,e1⟩:∃ W,W=w.alloc (ZF y):=⟨_,rfl⟩
 obtain ⟨g,eg⟩:∃ g,g=w.heap.size:=⟨_,rfl⟩
 have hb1:Below w.heap.size w w1:=by rw [e1];exact Zg w _
 have hg0:w1.heap[g]?=some (ZF y):=by rw [e1,eg];exact heap_alloc_new w _
 obtain ⟨d0,d1,d2,d3,d4⟩:=Za1 hg0
 have I:=ZpS A n c l y w1 (h.below hb1)
 obtain ⟨R,eR⟩:∃ R,R=decide (y∈l):=⟨_,rfl⟩
 rw [←eR]
 have HR:=Qh (Qi eR hb1)
 clear eR h hb1 hg0
 unfold ZF at e1
 go_enter Tryz.func98,Tryz.ntmps98
 go_upto_region 1 with fail
 rw [←e1,←eg]
 clear e1 eg
 go_wp2_with (go_at_call 155;refine I.mono ?_;rintro e w2 ⟨k,rfl,hk,hb2⟩;have H2:=Qh (Qi hk hb2);clear hk hb2)
 go_ret
 exact ⟨by rw [HR.out.1,←H2.out.1.has];rfl,HR.out.2.trans (H2.out.2.mono HR.out.2.size)⟩
def JU (y:Cmp) (e:Ent):Bool:=decide (y∈e.cs)
theorem Zi4 (y:Cmp) (mb:Nat) (e:Ent) (A:Option Addr) (n c:Nat) (w:World) (h:Zo w A n c e.cs) (hm:w.heap[mb]?=some (ZF y)) :
  Calls Tryz.prog 97 #[.agg #[.int .i64 e.id,.slice A n c],.pointer (some ⟨mb,0,none⟩)] w fun r w'=>r=.returned (.bool (JU y e))∧Below w.heap.size w w':=by
 obtain ⟨w1,g,e1,eg,⟨f0,f1⟩,hb⟩:=Zaa w e.id A n c
 obtain ⟨d0,d1,d2,d3,d4⟩:=Za1 ((hb.block mb (Zh hm)).trans hm)
 have F:=ZpT A n c e.cs y w1 (h.below hb)
 obtain ⟨R,eR⟩:∃ R,R=JU y e:=⟨_,rfl⟩
 have hR:decide (y∈e.cs)=R:=by rw [eR];rfl
 rw [←eR]
 rw [hR] at F
 have H:=Qh hb
 clear hb hm h eR hR
 go_enter Tryz.func97,Tryz.ntmps97
 go_upto_region 1 with fail
 rw [←e1,←eg]
 clear e1 eg
 go_wp2_with (go_at_call 98;refine F.mono ?_;rintro r w2 ⟨rfl,hb2⟩;have H2:=Qh hb2;clear hb2)
 go_ret
 exact ⟨rfl,H.out.trans (H2.out.mono H.out.size)⟩
end
end Go.Proofs.YtlgcfimhfmgkmaaGreatDoor
namespace Go.Proofs.YtlgcfimhfmgkmaaGreatDoor
open Go.RowKit
section
theorem ZpU (x:Cmp) (w:World) :
  Calls Tryz.prog 158 #[.agg #[.int .u8 (x.kind:Nat),.int .i64 x.v0,.int .i64 x.v1,.int .i64 x.v2,.int .i64 x.v3]] w fun e w'=>e=.returned (.bool (decide (x.kind=1)))∧Below w.heap.size w w':=by
 obtain ⟨w1,e1⟩:∃ w1,w1=w.alloc (.cells #[.int .u8 (x.kind:Nat),.int .i64 x.v0,.int .i64 x.v1,.int .i64 x.v2,.int .i64 x.v3] 75 (0,0)):=⟨_,rfl⟩
 obtain ⟨g,eg⟩:∃ g,g=w.heap.size:=⟨_,rfl⟩
 have hb:Below w.heap.size w w1:=by rw [e1];exact Zg w _
 have hg:w1.heap[g]?=some (.cells #[.int .u8 (x.kind:Nat),.int .i64 x.v0,.int .i64 x.v1,.int .i64 x.v2,.int .i64 x.v3] 75 (0,0)):=by rw [e1,eg];exact heap_alloc_new w _
 obtain ⟨f0,f1,f2,f3,f4⟩:=QM hg
 have hd:((x.kind:Int)==1)=decide (x.kind=1):=by rw [Bool.eq_iff_iff,beq_iff_eq,decide_eq_true_iff];omega
 obtain ⟨R,eR⟩:∃ R,R=decide (x.kind=1):=⟨_,rfl⟩
 rw [←eR] at hd ⊢
 have H:=Qh hb
 clear hb hg eR
 go_enter Tryz.func158,Tryz.ntmps158
 go_upto_region 1 with fail
 rw [←e1,←eg]
 clear e1 eg
 go_wp2_with fail
 go_ret
 exact ⟨rfl,H.out⟩
theorem ZpV  (A:Option Addr) (n cap:Nat) (l:List Cmp) (w:World) (h:Zo w A n cap l)  :
  Calls Tryz.prog 150 #[.slice A n cap,.func (.func 158) #[] #[]] w fun e w'=>∃ k:Int,e=.returned (.int .i64 k)∧Xd (fun c=>decide (c.kind=1)) l k∧Below w.heap.size w w':=by
 have H:=Qh (Qi h True.intro)
 clear h 
 go_enter Tryz.func150,Tryz.ntmps150
 go_wp2_with fail
 go_loopg [8] n (fun gh iv wr=>∃ j:Nat,gh+j=n∧(∀ (i:Nat) y,i<j→l[i]?=some y→(fun c=>decide (c.kind=1)) y=false)∧iv=.int .i64 (j:Nat)∧Below w.heap.size w wr)
 case atStart=>exact ⟨0,rfl,fun i y h=>by omega,rfl,Below.refl _ _⟩
 case round=>
  obtain ⟨j,hg,hall,rfl,hW⟩:=hrel
  obtain ⟨W,eW⟩:∃ W,W=wr:=⟨_,rfl⟩
  rw [←eW] at hW ⊢
  clear eW
  have h:=H.out.1
  have hlen:=h.len
  have hlim:=h.lim
  by_cases hlt:j<n
  ·obtain ⟨x,hx⟩:∃ x,l[j]?=some x:=⟨_,List.getElem?_eq_getElem (by omega)⟩
   have i0:(0:Int)≤(j:Int):=by omega
   have i1:(j:Int)<(n:Int):=by omega
   have i2:decide (j<n)=true:=decide_eq_true hlt
   have w2:wrap64 ((j:Int)+1)=(j:Int)+1:=Zn _ (by omega) (by omega)
   obtain ⟨R,eR⟩:∃ R,R=(fun c=>decide (c.kind=1)) x:=⟨_,rfl⟩
   obtain ⟨b,o,rfl,hc⟩:=h.at_ j x hx
   obtain ⟨c0,c1,c2,c3,c4⟩:=hc.step (hW.block b (Zc hc.c0))
   have hkx:=h.kind x (List.mem_of_getElem? hx)
   have F:Calls Tryz.prog 158 #[.agg #[.int .u8 (x.kind:Nat),.int .i64 x.v0,.int .i64 x.v1,.int .i64 x.v2,.int .i64 x.v3]] W fun e w'=>e=.returned (.bool R)∧Below W.heap.size W w':=by rw [eR];exact ZpU x W
   have HX:=Qh (Qi hx (Qi hlt (Qi hg (Qi hall (Qi hW eR)))))
   clear hx hlt hg hall hW eR h hlen hlim
   rcases R with _ | _
   ·go_wp2_with (go_at_call 158;refine F.mono ?_;rintro e w3 ⟨rfl,hb3⟩;have H3:=Qh hb3;clear hb3)
    exact Tq3
   ·go_wp2_with (go_at_call 158;refine F.mono ?_;rintro e w3 ⟨rfl,hb3⟩;have H3:=Qh hb3;clear hb3)
    exact Tq12
  ·exact Tq4
def Zba:Obj:=.cells #[.int .u8 0,.int .i64 0,.int .i64 0,.int .i64 0,.int .i64 0] 75 (0,0)
theorem ZpW (A:Option Addr) (n c:Nat) (cs:List Cmp) (w:World) (h:Zo w A n c cs) :
  Calls Tryz.prog 157 #[.slice A n c,.func (.func 158) #[] #[]] w fun e w'=>e=.returned (.tuple #[.agg #[.int .u8 (((ZC 1 cs).getD Cmp.zero).kind:Nat),.int .i64 ((ZC 1 cs).getD Cmp.zero).v0,.int .i64 ((ZC 1 cs).getD Cmp.zero).v1,.int .i64 ((ZC 1 cs).getD Cmp.zero).v2,.int .i64 ((ZC 1 cs).getD Cmp.zero).v3],.bool (ZC 1 cs).isSome])∧Below w.heap.size w w':=by
 obtain ⟨w1,e1⟩:∃ W,W=w.alloc Zba:=⟨_,rfl⟩
 obtain ⟨g,eg⟩:∃ g,g=w.heap.size:=⟨_,rfl⟩
 have hb:Below w.heap.size w w1:=by rw [e1];exact Zg w _
 have hg0:w1.heap[g]?=some Zba:=by rw [e1,eg];exact heap_alloc_new w _
 have F:=ZpV A n c cs w1 (h.below hb)
 obtain ⟨R,eR⟩:∃ R,R=ZC 1 cs:=⟨_,rfl⟩
 rw [←eR]
 have H:=Qh (Qi hb (Qi h (Qi hg0 (Qi eg eR))))
 clear hb h hg0 eR
 unfold Zba at e1
 go_enter Tryz.func157,Tryz.ntmps157
 go_upto_region 1 with fail
 rw [←e1,←eg]
 clear e1 eg
 go_upto_region 2 with (go_at_call 150;refine F.mono ?_;rintro e w2 ⟨kk,rfl,hk,hb2⟩;have H2:=Qh (Qi hk hb2);clear hk hb2)
 have hg2:w2.heap[g]?=some Zba:=(H2.out.2.block _ (Zh H.out.2.2.1)).trans H.out.2.2.1
 have hbw:=H.out.1.trans (H2.out.2.mono H.out.1.size)
 rcases Xd.findG H2.out.1 with ⟨j,x,rfl,hx,hf⟩|⟨rfl,hf⟩
 ·have hlen:=H.out.2.1.len
  have hlim:=H.out.2.1.lim
  obtain ⟨hj,-⟩:=List.getElem?_eq_some_iff.1 hx
  have i0:(0:Int)≤(j:Int):=by omega
  have i1:(j:Int)<(n:Int):=by omega
  have i3:decide ((0:Int)≤(j:Int))=true:=decide_eq_true (by omega)
  obtain ⟨b,o,rfl,hc⟩:=H.out.2.1.at_ j x hx
  obtain ⟨c0,c1,c2,c3,c4⟩:=hc.step (hbw.block b (Zc hc.c0))
  obtain ⟨r0,r1,r2,r3,r4⟩:=QM hg2
  have hfz:=fun i=>Zd hg2 i
  have HR:R=some x:=H.out.2.2.2.2.trans hf
  subst HR
  have HX:=Qh (Qi hg2 hbw)
  clear hf hc hg2 hbw hx hlen hlim hj
  go_wp2_with fail
  refine bodyPost_ret (Zde rfl _ _ g _ rfl rfl (Yk (.int .u8 (x.kind:Nat)) (.int .i64 x.v0) (.int .i64 x.v1) (.int .i64 x.v2) (.int .i64 x.v3) HX.out.1)) rfl ?_
  exact ⟨rfl,Yl _ _ _ _ _ HX.out.2 (by have:=H.out.2.2.2.1;omega)⟩
 ·obtain ⟨w3,e3⟩:∃ W,W=w2.alloc Zba:=⟨_,rfl⟩
  obtain ⟨g3,eg3⟩:∃ q,q=w2.heap.size:=⟨_,rfl⟩
  have hb3:Below w2.heap.size w2 w3:=by rw [e3];exact Zg w2 _
  have hg3:w3.heap[g3]?=some Zba:=by rw [e3,eg3];exact heap_alloc_new w2 _
  have hg2:=(hb3.block _ (Zh hg2)).trans hg2
  obtain ⟨q0,q1,q2,q3,q4⟩:=QM hg3
  obtain ⟨r0,r1,r2,r3,r4⟩:=QM hg2
  have hfz:=fun i=>Zd hg2 i
  have HR:R=none:=H.out.2.2.2.2.trans hf
  subst HR
  have HX:=Qh (Qi hg2 (hbw.trans (hb3.mono hbw.size)))
  clear hf hg2 hbw hb3 hg3
  unfold Zba at e3
  go_upto_region 5 with fail
  rw [←e3,←eg3]
  clear e3 eg3
  go_wp2_with fail
  refine bodyPost_ret (Zde rfl _ _ g _ rfl rfl (Yk (.int .u8 0) (.int .i64 0) (.int .i64 0) (.int .i64 0) (.int .i64 0) HX.out.1)) rfl ?_
  exact ⟨rfl,Yl _ _ _ _ _ HX.out.2 (by have:=H.out.2.2.2.1;omega)⟩
theorem Zi5 (e:Ent) (A:Option Addr) (n c:Nat) (w:World) (h:Zo w A n c e.cs) :
  Calls Tryz.prog 100 #[.agg #[.int .i64 e.id,.slice A n c]] w fun r w'=>r=.returned (.tuple #[.agg #[.int .i64 (ZV e),.int .i64 (ZW e)],.bool (YR e)])∧Below w.heap.size w w':=by
 obtain ⟨w1,e1⟩:∃ W,W=(w.alloc (.cells #[.int .i64 e.id,.slice A n c] 70 (0,0))).alloc (.cells #[.int .i64 0,.int .i64 0] 152 (0,0)):=⟨_,rfl⟩
 obtain ⟨g,eg⟩:∃ g,g=w.heap.size:=⟨_,rfl⟩
 have hb:Below w.heap.size w w1:=by rw [e1];exact ZQ w _ _
 have hg0:w1.heap[g]?=some (.cells #[.int .i64 e.id,.slice A n c] 70 (0,0)):=by rw [e1,eg];exact ZZ w _ _
 have hg1:w1.heap[g+1]?=some (.cells #[.int .i64 0,.int .i64 0] 152 (0,0)):=by rw [e1,eg];exact Z0 w _ _
 have f1:w1.cell? ⟨g,1,none⟩=some (.slice A n c):=Za hg0 1 _ rfl
 have F:=ZpW A n c e.cs w1 (h.below hb)
 obtain ⟨x,ex⟩:∃ x,x=(ZC 1 e.cs).getD Cmp.zero:=⟨_,rfl⟩
 obtain ⟨P,eP⟩:∃ P,P=(ZC 1 e.cs).isSome:=⟨_,rfl⟩
 rw [←ex,←eP] at F
 have hX:ZV e=x.v0:=by rw [ex];rfl
 have hY:ZW e=x.v1:=by rw [ex];rfl
 have hP:YR e=P:=by rw [eP];rfl
 rw [hX,hY,hP]
 have H:=Qh (Qi hb (Qi hg1 eg))
 clear hb hg0 hg1 h ex eP hX hY hP
 go_enter Tryz.func100,Tryz.ntmps100
 go_upto_region 1 with fail
 rw [←e1,←eg]
 clear e1 eg
 go_upto_region 2 with (
  go_at_call 157
  refine F.mono ?_
  rintro r w2 ⟨rfl,hb2⟩
  have H2:=Qh hb2
  clear hb2 F f1)
 obtain ⟨w3,e3⟩:∃ W,W=w2.alloc (.cells #[.int .u8 (x.kind:Nat),.int .i64 x.v0,.int .i64 x.v1,.int .i64 x.v2,.int .i64 x.v3] 75 (0,0)):=⟨_,rfl⟩
 obtain ⟨g3,eg3⟩:∃ q,q=w2.heap.size:=⟨_,rfl⟩
 rw [←e3,←eg3]
 have hb3:Below w2.heap.size w2 w3:=by rw [e3];exact Zg w2 _
 have hg3:w3.heap[g3]?=some (.cells #[.int .u8 (x.kind:Nat),.int .i64 x.v0,.int .i64 x.v1,.int .i64 x.v2,.int .i64 x.v3] 75 (0,0)):=by rw [e3,eg3];exact heap_alloc_new w2 _
 obtain ⟨c0,c1,c2,c3,c4⟩:=QM hg3
 have ZK:=H2.out.trans (hb3.mono H2.out.size)
 have hg1:=(ZK.block _ (Zh H.out.2.1)).trans H.out.2.1
 obtain ⟨z0,z1⟩:=cs2 hg1
 have z2:=Zd hg1 0
 have z3:=Zd hg1 1
 have HX:=Qh (Qi hg1 (H.out.1.trans (ZK.mono H.out.1.size)))
 clear e3 eg3 hb3 hg3 ZK hg1
 go_wp2_with fail
 refine bodyPost_ret (ZcZ rfl _ _ (g+1) _ rfl rfl (Yw (.int .i64 x.v0) (.int .i64 x.v1) HX.out.1)) rfl ?_
 exact ⟨rfl,YB _ _ HX.out.2 (by have:=H.out.2.2;omega)⟩
end
end Go.Proofs.YtlgcfimhfmgkmaaGreatDoor
