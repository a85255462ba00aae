/- Lemmas for the statement. -/
import Derived.Test.YtlgcfimhfmgkmaaGreatDoorMAN
set_option linter.unusedVariables false
set_option linter.unusedSimpArgs false
set_option maxRecDepth 100000
set_option maxHeartbeats 4000000
namespace Go.Proofs.YtlgcfimhfmgkmaaGreatDoor
open Go.RowKit
section
def Cmp.zero:Cmp:=⟨0,0,0,0,0⟩
theorem Zex (o:Option Cmp):ZgR o=.agg #[.int .i64 (o.getD Cmp.zero).v0,.int .i64 (o.getD Cmp.zero).v1,.int .i64 (o.getD Cmp.zero).v2,.int .i64 (o.getD Cmp.zero).v3]:=by cases o<;>rfl
def YR (e:Ent):Bool:=(ZC 1 e.cs).isSome
def ZV (e:Ent):Int:=((ZC 1 e.cs).getD Cmp.zero).v0
def ZW (e:Ent):Int:=((ZC 1 e.cs).getD Cmp.zero).v1
theorem Zey (e:Ent) (A:Option Addr) (n c:Nat) (w:World) (h:Zo w A n c e.cs) :
  Calls Tryz.prog 89 #[.agg #[.int .i64 e.id,.slice A n c]] w fun r w'=>r=.returned (.tuple #[.agg #[.int .i64 (ZV e),.int .i64 (ZW e)],.bool (YR e)])∧Below w.heap.size w w':=by
 obtain ⟨id,cs⟩:=e
 obtain ⟨w1,e1⟩:∃ W,W=(w.alloc (.cells #[.int .i64 id,.slice A n c] 70 (0,0))).alloc (.cells #[.int .i64 0,.int .i64 0] 152 (0,0)):=⟨_,rfl⟩
 obtain ⟨g,eg⟩:∃ g,g=w.heap.size:=⟨_,rfl⟩
 have hb:Below w.heap.size w w1:=by rw [e1];exact ZQ w _ _
 have hg0:w1.heap[g]?=some (.cells #[.int .i64 id,.slice A n c] 70 (0,0)):=by rw [e1,eg];exact ZZ w _ _
 have hg1:w1.heap[g+1]?=some (.cells #[.int .i64 0,.int .i64 0] 152 (0,0)):=by rw [e1,eg];exact Z0 w _ _
 obtain ⟨f0,f1⟩:=cs2 hg0
 have F:=Zep id A n c cs 1 w1 (h.below hb)
 rw [Zex,show ((1:Nat):Int)=1 from rfl] at F
 obtain ⟨X,eX⟩:∃ X,X=ZV ⟨id,cs⟩:=⟨_,rfl⟩
 obtain ⟨Y,eY⟩:∃ Y,Y=ZW ⟨id,cs⟩:=⟨_,rfl⟩
 obtain ⟨B,eB⟩:∃ B,B=YR ⟨id,cs⟩:=⟨_,rfl⟩
 have eX':((ZC 1 cs).getD Cmp.zero).v0=X:=eX.symm
 have eY':((ZC 1 cs).getD Cmp.zero).v1=Y:=eY.symm
 have eB':(ZC 1 cs).isSome=B:=eB.symm
 rw [eX',eY',eB'] at F
 rw [←eX,←eY,←eB]
 clear eX eY eB eX' eY' eB'
 generalize ((ZC 1 cs).getD Cmp.zero).v2=z2 at F
 generalize ((ZC 1 cs).getD Cmp.zero).v3=z3 at F
 have H:=Qh (Qi hb (Qi hg1 eg))
 clear hb h hg0 hg1
 go_enter Tryz.func89,Tryz.ntmps89
 go_upto_region 1 with fail
 rw [←e1,←eg]
 clear e1 eg
 go_upto_region 3 with (go_at_call 90;refine F.mono ?_;rintro e w2 ⟨rfl,hb2⟩;have H2:=Qh hb2;clear hb2)
 obtain ⟨w3,e3⟩:∃ W,W=w2.alloc (.cells #[.int .i64 X,.int .i64 Y,.int .i64 z2,.int .i64 z3] 73 (0,0)):=⟨_,rfl⟩
 obtain ⟨g3,eg3⟩:∃ g,g=w2.heap.size:=⟨_,rfl⟩
 rw [←e3,←eg3]
 have hg3:w3.heap[g3]?=some (.cells #[.int .i64 X,.int .i64 Y,.int .i64 z2,.int .i64 z3] 73 (0,0)):=by rw [e3,eg3];exact heap_alloc_new w2 _
 have hb3:Below w1.heap.size w1 w3:=H2.out.trans ((by rw [e3];exact Zg w2 _:Below w2.heap.size w2 w3).mono H2.out.size)
 obtain ⟨k0,k1⟩:=cs2 hg3
 have hgr:=(hb3.block _ (Zh H.out.2.1)).trans H.out.2.1
 obtain ⟨r0,r1⟩:=cs2 hgr
 have s0:=Zd hgr 0
 have s1:=Zd hgr 1
 have HX:=Qh (Qi hgr hb3)
 clear e3 eg3 hg3 hb3 hgr f0 f1 F H2
 go_wp2_with fail
 refine bodyPost_ret (ZcZ rfl _ _ (g+1) _ rfl rfl (Yw (.int .i64 X) (.int .i64 Y) HX.out.1)) rfl ?_
 exact ⟨rfl,YB _ _ (H.out.1.trans (HX.out.2.mono H.out.1.size)) (by have:=H.out.2.2;omega)⟩
def QR (eid:Int) (e:Ent):Bool:=(ZC 4 e.cs).isSome&&decide (((ZC 4 e.cs).getD Cmp.zero).v0=eid)
theorem Zez (eid:Int) (pA:Option Addr) (pn pc:Nat) (e:Ent) (A:Option Addr) (n c:Nat) (w:World) (h:Zo w A n c e.cs) :
  Calls Tryz.prog 42 #[.agg #[.int .i64 eid,.slice pA pn pc],.agg #[.int .i64 e.id,.slice A n c]] w fun r w'=>r=.returned (.bool (QR eid e))∧Below w.heap.size w w':=by
 obtain ⟨id,cs⟩:=e
 obtain ⟨w1,e1⟩:∃ W,W=(w.alloc (.cells #[.int .i64 eid,.slice pA pn pc] 93 (0,0))).alloc (.cells #[.int .i64 id,.slice A n c] 70 (0,0)):=⟨_,rfl⟩
 obtain ⟨g,eg⟩:∃ g,g=w.heap.size:=⟨_,rfl⟩
 have hb:Below w.heap.size w w1:=by rw [e1];exact ZQ w _ _
 have hg0:w1.heap[g]?=some (.cells #[.int .i64 eid,.slice pA pn pc] 93 (0,0)):=by rw [e1,eg];exact ZZ w _ _
 have hg1:w1.heap[g+1]?=some (.cells #[.int .i64 id,.slice A n c] 70 (0,0)):=by rw [e1,eg];exact Z0 w _ _
 obtain ⟨f0,f1⟩:=cs2 hg1
 have f2:w1.cell? ⟨g,0,none⟩=some (.int .i64 eid):=Za hg0 0 _ rfl
 have F:=Zep id A n c cs 4 w1 (h.below hb)
 rw [Zex,show ((4:Nat):Int)=4 from rfl] at F
 obtain ⟨X,eX⟩:∃ X,X=((ZC 4 cs).getD Cmp.zero).v0:=⟨_,rfl⟩
 obtain ⟨B,eB⟩:∃ B,B=(ZC 4 cs).isSome:=⟨_,rfl⟩
 obtain ⟨R,eR⟩:∃ R,R=QR eid ⟨id,cs⟩:=⟨_,rfl⟩
 have eR':R=(B&&decide (X=eid)):=by rw [eR,eX,eB];rfl
 have eQ:(X==eid)=decide (X=eid):=by rw [Bool.eq_iff_iff,beq_iff_eq,decide_eq_true_iff]
 rw [←eX,←eB] at F
 rw [←eR]
 generalize ((ZC 4 cs).getD Cmp.zero).v1=z1 at F
 generalize ((ZC 4 cs).getD Cmp.zero).v2=z2 at F
 generalize ((ZC 4 cs).getD Cmp.zero).v3=z3 at F
 have H:=Qh (Qi hb (Qi eR' (Qi eg eQ)))
 clear hb h hg0 hg1 eR eR' eX eB eQ
 go_enter Tryz.func42,Tryz.ntmps42
 go_upto_region 1 with fail
 rw [←e1,←eg]
 clear e1 eg
 go_upto_region 2 with (go_at_call 90;refine F.mono ?_;rintro e w2 ⟨rfl,hb2⟩;have g2:=(hb2.cell (Zc f2)).trans f2;have H2:=Qh hb2;clear hb2)
 obtain ⟨w3,e3⟩:∃ W,W=w2.alloc (.cells #[.int .i64 X,.int .i64 z1,.int .i64 z2,.int .i64 z3] 73 (0,0)):=⟨_,rfl⟩
 obtain ⟨g3,eg3⟩:∃ g,g=w2.heap.size:=⟨_,rfl⟩
 rw [←e3,←eg3]
 have hg3:w3.heap[g3]?=some (.cells #[.int .i64 X,.int .i64 z1,.int .i64 z2,.int .i64 z3] 73 (0,0)):=by rw [e3,eg3];exact heap_alloc_new w2 _
 have ZK:Below w2.heap.size w2 w3:=by rw [e3];exact Zg w2 _
 have hb3:Below w1.heap.size w1 w3:=H2.out.trans (ZK.mono H2.out.size)
 have k0:w3.cell? ⟨g3,0,none⟩=some (.int .i64 X):=Za hg3 0 _ rfl
 have k2:=(ZK.cell (Zc g2)).trans g2
 have HX:=Qh hb3
 clear e3 eg3 hg3 hb3 ZK f0 f1 f2 g2 F H2
 rcases B with _ | _
 ·go_wp2_with fail
  go_ret
  exact ⟨by rw [H.out.2.1];rfl,H.out.1.trans (HX.out.mono H.out.1.size)⟩
 ·go_wp2_with fail
  go_ret
  exact ⟨by rw [H.out.2.1,←H.out.2.2.2];rfl,H.out.1.trans (HX.out.mono H.out.1.size)⟩
def Zbt (k:Nat):Nat:=if 1≤k∧k≤10 then 2 ^ k else 0
theorem Tq61 {p:Prop} (h:p:=by
 go_enter Tryz.func91,Tryz.ntmps91
 go_wp2_with fail
 go_ret
 exact ⟨rfl,rfl⟩):p:=h
theorem Zm7 (k:Nat) (w:World) (hk:k<256):Calls Tryz.prog 91 #[.int .u8 (k:Nat)] w fun r w'=>r=.returned (.int .u32 (Zbt k:Nat))∧w'=w:=by
 obtain ⟨R,eR⟩:∃ R,R=Zbt k:=⟨_,rfl⟩
 rw [←eR]
 by_cases h0:1≤k
 ·by_cases h1:k≤10
  ·have i0:decide ((k:Int)<1)=false:=decide_eq_false (by omega)
   have i1:decide ((10:Int)<(k:Int))=false:=decide_eq_false (by omega)
   have HR:R=2 ^ k:=by rw [eR,Zbt,if_pos ⟨h0,h1⟩]
   have:k=1∨k=2∨k=3∨k=4∨k=5∨k=6∨k=7∨k=8∨k=9∨k=10:=by omega
   subst HR
   clear eR
   rcases this with rfl|rfl|rfl|rfl|rfl|rfl|rfl|rfl|rfl|rfl <;>
   ·exact Tq61
  ·have i0:decide ((k:Int)<1)=false:=decide_eq_false (by omega)
   have i1:decide ((10:Int)<(k:Int))=true:=decide_eq_true (by omega)
   have HR:R=0:=by rw [eR,Zbt,if_neg (by omega)]
   subst HR
   clear eR
   exact Tq61
 ·obtain rfl:k=0:=by omega
  have HR:R=0:=by rw [eR];rfl
  subst HR
  clear eR
  exact Tq61
end
end Go.Proofs.YtlgcfimhfmgkmaaGreatDoor
namespace Go.Proofs.YtlgcfimhfmgkmaaGreatDoor
open Go.RowKit
section
def Zc6 (mask:Int) (c:Cmp):Bool:=bits .and .u32 ((Zbt c.kind:Nat):Int) mask != 0
def Qx (mask:Int) (cs:List Cmp):List Cmp:=cs.filter (Zc6 mask)
theorem Zm8 (mask:Int) (cs:List Cmp) (j:Nat) (c:Cmp) (h:cs[j]?=some c):Qx mask (cs.take (j+1))=Qx mask (cs.take j)++(if Zc6 mask c=true then [c] else []):=by
 rw [List.take_add_one,h]
 unfold Qx
 rw [Option.toList_some,List.filter_append]
 congr 1
 rcases hb:Zc6 mask c with _ | _<;>simp [List.filter_cons,hb]
theorem Zhi (mask:Int) (cs:List Cmp) (j:Nat):(Qx mask (cs.take j)).length≤j:=by
 unfold Qx
 exact Nat.le_trans (List.length_filter_le _ _) (by rw [List.length_take];omega)
theorem Zm9 (l:List Cmp) (c:Cmp):Ya (l++[c])=Ya l++c.cells:=by simp [Ya]
theorem Zhj (c:Cmp):∀ u∈c.cells,u.oneCell'=true:=by
 intro u hu
 simp only [Cmp.cells,List.mem_cons,List.not_mem_nil,or_false] at hu
 rcases hu with rfl|rfl|rfl|rfl|rfl<;>rfl
theorem Tq86 {p:Prop} (h:p:=by
 rcases h.2 with ⟨h,-⟩|⟨g,cap,cur,h,hB,-⟩
 ·cases h
 ·injection h with h1 h2 h3
  injection h1 with h1
  injection h1 with h1
  omega):p:=h
theorem ZeA {w:World} {B e s n m c:Nat} {A:Option Addr} {xs:List Value} (h:w.ownsRow B e s (.slice A n c) m xs):∀ b o q,A=some ⟨b,o,q⟩→B≤b:=by
 intro b o q hA
 subst hA
 exact Tq86
theorem Zo.stepA {w w':World} {A:Option Addr} {n cap:Nat} {l:List Cmp} (h:Zo w A n cap l) (hb:∀ b o m,A=some ⟨b,o,m⟩→b<w.heap.size→w'.heap[b]?=w.heap[b]?):Zo w' A n cap l:=by
 refine ⟨h.len,fun j p hj=>?_,h.nil,h.lim,h.kind⟩
 obtain ⟨b,o,e,hc⟩:=h.at_ j p hj
 exact ⟨b,o,e,hc.step (hb b o none e (Zc hc.c0))⟩
theorem ZeB {fn:Func} {p:Tmp} (h:fn.results=#[.cell p 70]) (tmps:Array Value) (w:World) (g:Nat) (cs:Array Value) (hn:cs.size=2)
  (hp:tmps.getD p undef=.pointer (some ⟨g,0,none⟩)) (hg:w.heap[g]?=some (.cells cs 70 (0,0))) :
  (results fn tmps).run Tryz.prog w=.ok (.agg cs) w:=by
 have hp':tmps[p]?.getD undef=.pointer (some ⟨g,0,none⟩):=by simpa using hp
 have hi:(Tryz.prog.info? 70).map (·.size)=some cs.size:=by rw [hn];kernel_rfl
 have hl:=run_loadVar_row (P:=Tryz.prog) w g 70 70 cs (0,0) _ hg Tryz.underlying70 rfl hi
 simp [results,h,hp',asAddr,hl]
theorem YF {w:World} {B e s n:Nat} {v:Value} {xs:List Value} (h:w.ownsRow B e s v n xs):∃ A c,v=.slice A n c:=by
 rcases h.2 with ⟨rfl,rfl⟩|⟨g,cap,cur,rfl,-⟩
 ·exact ⟨_,_,rfl⟩
 ·exact ⟨_,_,rfl⟩
structure Zae (w W:World) (g:Nat) (id:Int) (v:Value) (m:List Cmp):Prop where
 out:Below g w W
 o:W.heap[g+1]?=some (.cells #[.int .i64 0,.slice none 0 0] 70 (0,0))
 x:W.heap[g+1+1]?=some (.cells #[.int .i64 id,v] 70 (0,0))
 own:W.ownsRow (g+1+1+1) 75 5 v m.length (Ya m)
theorem Zae.below {w W W':World} {g:Nat} {id:Int} {v:Value} {m:List Cmp} (h:Zae w W g id v m) (hb:Below W.heap.size W W'):Zae w W' g id v m:=by
 have hx:=Zh h.x
 exact ⟨h.out.trans (hb.mono (by omega)),(hb.block _ (Zh h.o)).trans h.o,(hb.block _ hx).trans h.x,ZaO h.own (fun q hq=>hb.block q hq)⟩
theorem Zae.push {w W W5:World} {g:Nat} {id:Int} {v v5:Value} {m m5:List Cmp} (O:Obj) (h:Zae w W g id v m) (hg5:(W.alloc O).grownBy W5 v.ownBlock) (hown:W5.ownsRow (g+1+1+1) 75 5 v5 m5.length (Ya m5)) :
  Zae w (W5.setCell ⟨g+1+1,1,none⟩ v5) g id v5 m5∧W5.heap[g+1+1]?=some (.cells #[.int .i64 id,v] 70 (0,0)):=by
 have hx:=Zh h.x
 have ho:=Zh h.o
 have hne:∀ q,q<g+1+1+1→v.ownBlock≠some q:=fun q hq e=>by have:=(Yg h.own e).2;omega
 have k:∀ q,q<g+1+1+1→q<W.heap.size→W5.heap[q]?=W.heap[q]?:=fun q hq hl=>(hg5.block q (by simp;omega) (by intro e;exact hne q hq e.symm)).trans (Below.heap_alloc _ _ _ hl)
 have kx:=(k _ (by omega) hx).trans h.x
 have ko:=(k _ (by omega) ho).trans h.o
 refine ⟨⟨?_,?_,?_,?_⟩,kx⟩
 ·exact ((h.out.alloc (by omega) O).grown hg5 (by simp;omega) (fun q hq=>by have:=(Yg h.own hq).2;omega)).setCell (p:=⟨g+1+1,1,none⟩) (by show g≤g+1+1;omega) _
 ·exact (Below.heap_setCell _ _ _ _ (by show g+1≠g+1+1;omega)).trans ko
 ·exact block_setCell kx 1 _
 ·exact XW hown (fun q hq=>Below.heap_setCell _ _ _ _ (by have:=(Yg hown hq).2;show q≠g+1+1;omega))
theorem Zna (e:Ent) (mask:Int) (A:Option Addr) (n c:Nat) (w:World) (h:Zo w A n c e.cs) :
  Calls Tryz.prog 43 #[.agg #[.int .i64 e.id,.slice A n c],.int .u32 mask] w fun r w'=>∃ PA pn pc,r=.returned (.agg #[.int .i64 e.id,.slice PA pn pc])∧(Zo w' PA pn pc (Qx mask e.cs)∧∀ b o q,PA=some ⟨b,o,q⟩→w.heap.size≤b)∧Below w.heap.size w w':=by
 obtain ⟨id,cs⟩:=e
 obtain ⟨w1,e1⟩:∃ W,W=(w.alloc (.cells #[.int .i64 id,.slice A n c] 70 (0,0))).alloc (.cells #[.int .i64 0,.slice none 0 0] 70 (0,0)):=⟨_,rfl⟩
 obtain ⟨g,eg⟩:∃ g,g=w.heap.size:=⟨_,rfl⟩
 have hb:Below w.heap.size w w1:=by rw [e1];exact ZQ w _ _
 have hg0:w1.heap[g]?=some (.cells #[.int .i64 id,.slice A n c] 70 (0,0)):=by rw [e1,eg];exact ZZ w _ _
 have hg1:w1.heap[g+1]?=some (.cells #[.int .i64 0,.slice none 0 0] 70 (0,0)):=by rw [e1,eg];exact Z0 w _ _
 have hsz:w1.heap.size=g+1+1:=by rw [e1,eg];simp
 obtain ⟨f0,f1⟩:=cs2 hg0
 obtain ⟨i9,hi9,hz0,hz1,hz2⟩:=info_parts ZcQ
 have HI:=Qh (Qi hi9 (Qi hz0 (Qi hz1 hz2)))
 obtain ⟨w2,e2⟩:∃ W,W=w1.alloc (.cells #[.int .i64 id,.slice none 0 0] 70 (0,0)):=⟨_,rfl⟩
 have hb2:Below w1.heap.size w1 w2:=by rw [e2];exact Zg w1 _
 have k0:=(hb2.cell (Zc f0)).trans f0
 have k1:=(hb2.cell (Zc f1)).trans f1
 have hP:Zae w w2 g id (.slice none 0 0) []:=by
  refine ⟨by rw [eg];exact hb.trans (hb2.mono hb.size),(hb2.block _ (Zh hg1)).trans hg1,by rw [e2];exact Zc5 w1 _ _ hsz.symm,⟨rfl,Or.inl ⟨rfl,rfl⟩⟩⟩
 have H:=Qh (Qi h (Qi hP (Qi eg hsz)))
 clear hb hb2 hg0 hg1 h hP hi9 hz0 hz1 hz2
 go_enter Tryz.func43,Tryz.ntmps43
 go_upto_region 1 with fail
 rw [←e1,←eg]
 clear e1 eg
 go_upto_region 2 with fail
 rw [←e2]
 clear e2 hsz
 go_upto_region 3 with fail
 clear f0 f1 k0 k1
 go_wp2_with fail
 go_loopg [14] n (fun gh iv wr=>∃ (j:Nat) (VA:Option Addr) (vc:Nat),gh+j=n∧iv=.int .i64 (j:Nat)∧Zae w wr g id (.slice VA (Qx mask (cs.take j)).length vc) (Qx mask (cs.take j)))
 case atStart=>exact ⟨0,none,0,rfl,rfl,H.out.2.1⟩
 case round=>
  obtain ⟨j,VA,vc,hg,rfl,hP⟩:=hrel
  obtain ⟨W,eW⟩:∃ W,W=wr:=⟨_,rfl⟩
  rw [←eW] at hP ⊢
  clear eW
  have h:=H.out.1
  have hlen:n=cs.length:=h.len
  have hlim:=h.lim
  have hW:Below w.heap.size w W:=by rw [←H.out.2.2.1];exact hP.out
  by_cases hlt:j<n
  ·obtain ⟨x,hx⟩:∃ x,cs[j]?=some x:=⟨_,List.getElem?_eq_getElem (by omega)⟩
   have i0:(0:Int)≤(j:Int):=by omega
   have i1:(j:Int)<(n:Int):=by omega
   have i2:decide (j<n)=true:=decide_eq_true hlt
   have w2':wrap64 ((j:Int)+1)=(j:Int)+1:=Zn _ (by omega) (by omega)
   have hm:=Zm8 mask cs j x hx
   have hle:=Zhi mask cs j
   obtain ⟨m,em⟩:∃ m,m=Qx mask (cs.take j):=⟨_,rfl⟩
   rw [←em] at hP hm hle
   obtain ⟨T,eT⟩:∃ T,T=Zc6 mask x:=⟨_,rfl⟩
   have tT:(bits BinOp.and IntKind.u32 ((Zbt x.kind:Nat):Int) mask != 0)=T:=eT.symm
   rw [←eT] at hm
   have hkx:=h.kind x (List.mem_of_getElem? hx)
   obtain ⟨b,o,rfl,hc⟩:=h.at_ j x hx
   obtain ⟨c0,c1,c2,c3,c4⟩:=hc.step (hW.block b (Zc hc.c0))
   obtain ⟨W1,e1⟩:∃ W1,W1=W.alloc (.cells #[.int .u8 (x.kind:Nat),.int .i64 x.v0,.int .i64 x.v1,.int .i64 x.v2,.int .i64 x.v3] 75 (0,0)):=⟨_,rfl⟩
   obtain ⟨g1,eg1⟩:∃ q,q=W.heap.size:=⟨_,rfl⟩
   have hb1:Below W.heap.size W W1:=by rw [e1];exact Zg W _
   have hg1:W1.heap[g1]?=some (.cells #[.int .u8 (x.kind:Nat),.int .i64 x.v0,.int .i64 x.v1,.int .i64 x.v2,.int .i64 x.v3] 75 (0,0)):=by rw [e1,eg1];exact heap_alloc_new W _
   obtain ⟨d0,d1,d2,d3,d4⟩:=QM hg1
   have hP1:=hP.below hb1
   obtain ⟨p0,p1⟩:=cs2 hP1.x
   have FB:=Zm7 x.kind W1 hkx
   have HX:=Qh (Qi hlt (Qi hg (Qi hP1 (Qi hm hle))))
   clear hlt hg hP hP1 hm hle hx hb1 hg1 h hlen hlim hW hc hkx eT em
   go_upto_region 5 with fail
   rw [←e1,←eg1]
   clear e1 eg1 c0 c1 c2 c3 c4
   rcases T with _ | _
   ·go_wp2_with (go_at_call 91;refine FB.mono ?_;rintro e w3 ⟨rfl,hw3⟩;replace hw3:=hw3.symm;subst hw3;clear FB)
    go_roundg (n-(j+1))
    case measure=>have:=HX.out.1;have:=HX.out.2.1;omega
    case rel=>
     obtain ⟨hlt,hg,hP1,hm,hle⟩:=HX.out
     refine ⟨j+1,VA,vc,by omega,by go_num,?_⟩
     rw [hm,if_neg (by simp),List.append_nil]
     exact hP1
   ·have HN2:=Qh (show ∀ u,u=W1.heap.size→∀ j v,x.cells[j]?=some v→(W1.alloc (.cells #[.int .u8 (x.kind:Nat),.int .i64 x.v0,.int .i64 x.v1,.int .i64 x.v2,.int .i64 x.v3] 75 (0,0))).cell? ((⟨u,0,none⟩:Addr).add j)=some v from fun u hu=>XC _ _ _ _ hu)
    have HN4:=Qh (show m.length+1≤maxLen∧(m.length+1)*40≤140737488355328 from by have:=HX.out.1;have:=HX.out.2.2.2.2;have:=H.out.1.lim;unfold maxLen;omega)
    have HN5:=Qh (show ∀ A,g+1+1+1≤(W1.alloc A).heap.size from fun A=>by have:=Zh HX.out.2.2.1.x;simp only [World.size_alloc];omega)
    have HO:=Qh HX.out.2.2.1.own
    go_wp2_with (first
     | (go_at_call 91;refine FB.mono ?_;rintro e w3 ⟨rfl,hw3⟩;replace hw3:=hw3.symm;subst hw3;clear FB)
     | (at_builtin;refine wpList_append_own_at _ rfl (.tmp 25) (.tmp 27) 68 rfl (g+1+1+1) 75 i9 _ 5 40 Tryz.underlying68 HI.out.1 HI.out.2.1 HI.out.2.2.1 HI.out.2.2.2 rfl (by decide) (.slice VA m.length vc) m.length (Ya m) rfl (HO.out.alloc _) ⟨W1.heap.size,0,none⟩ 1 1 x.cells rfl rfl (HN2.out _ rfl) (Zhj _) HN4.out.1 HN4.out.2 (HN5.out _) ?_))
    intro v5 w5 hown5 hg5 _ _
    obtain ⟨A5,c5,rfl⟩:=YF hown5
    have hown6:w5.ownsRow (g+1+1+1) 75 5 (.slice A5 (m.length+1) c5) (m++[x]).length (Ya (m++[x])):=by rw [Zm9,List.length_append];exact hown5
    obtain ⟨hP6,hx5⟩:=HX.out.2.2.1.push _ hg5 hown6
    have y0:w5.cell? ⟨g+1+1,1,none⟩=some (.slice VA m.length vc):=Za hx5 1 _ rfl
    have y1:=Zd hx5 1
    have HV:=Qh hP6
    clear hown5 hown6 hg5 hP6 hx5
    go_wp2_with fail
    go_roundg (n-(j+1))
    case measure=>have:=HX.out.1;have:=HX.out.2.1;omega
    case rel=>
     obtain ⟨hlt,hg,hP1,hm,hle⟩:=HX.out
     refine ⟨j+1,A5,c5,by omega,by go_num,?_⟩
     rw [hm,if_pos trivial,List.length_append]
     exact HV.out
  ·have i2:decide (j<n)=false:=decide_eq_false hlt
   have ht:cs.take j=cs:=List.take_of_length_le (by omega)
   rw [ht] at hP
   have hml:=Zhi mask cs cs.length
   rw [List.take_length] at hml
   obtain ⟨p0,p1⟩:=cs2 hP.x
   obtain ⟨p2,p3⟩:=cs2 hP.o
   have p4:=Zd hP.o 0
   have p5:=Zd hP.o 1
   have HX:=Qh (Qi hP (Qi hml (Qi hlim hlen)))
   clear hlt hW hg h hlen hlim ht hP hml
   go_wp2_with fail
   obtain ⟨hP,hml,hlim,hlen⟩:=HX.out
   obtain ⟨A6,c6,e6,hC⟩:=ZcU hP.own (by omega) (fun c hc=>H.out.1.kind c (List.mem_filter.1 hc).1)
   injection e6 with e6 _ e7
   subst e6 e7
   refine bodyPost_ret (ZeB rfl _ _ (g+1) _ rfl rfl (Yw (.int .i64 id) (.slice VA (Qx mask cs).length vc) hP.o)) rfl ?_
   refine ⟨VA,_,vc,rfl,⟨hC.stepA fun b o q hA hl=>YE _ _ _ _ (by have:=ZeA hP.own b o q hA;omega),fun b o q hA=>by have:=ZeA hP.own b o q hA;have:=H.out.2.2.1;omega⟩,?_⟩
   have hb:Below w.heap.size w W:=by rw [←H.out.2.2.1];exact hP.out
   exact YB _ _ hb (by have:=H.out.2.2.1;omega)
end
end Go.Proofs.YtlgcfimhfmgkmaaGreatDoor
namespace Go.Proofs.YtlgcfimhfmgkmaaGreatDoor
open Go.RowKit
section
theorem Znb (eid:Int) (pA:Option Addr) (pn pc yb:Nat) (e:Ent) (A:Option Addr) (n c:Nat) (w:World) (h:Zo w A n c e.cs)
  (hy:w.cell? ⟨yb,0,none⟩=some (.int .i64 eid)∧w.cell? ⟨yb,1,none⟩=some (.slice pA pn pc)) :
  Calls Tryz.prog 88 #[.agg #[.int .i64 e.id,.slice A n c],.pointer (some ⟨yb,0,none⟩)] w fun r w'=>r=.returned (.tuple #[.agg #[.int .i64 (ZV e),.int .i64 (ZW e)],.bool (YR e&&QR eid e)])∧Below w.heap.size w w':=by
 obtain ⟨w1,e1⟩:∃ W,W=(w.alloc (.cells #[.int .i64 e.id,.slice A n c] 70 (0,0))).alloc (.cells #[.int .i64 0,.int .i64 0] 152 (0,0)):=⟨_,rfl⟩
 obtain ⟨g,eg⟩:∃ g,g=w.heap.size:=⟨_,rfl⟩
 have hb:Below w.heap.size w w1:=by rw [e1];exact ZQ w _ _
 have hg0:w1.heap[g]?=some (.cells #[.int .i64 e.id,.slice A n c] 70 (0,0)):=by rw [e1,eg];exact ZZ w _ _
 have hg1:w1.heap[g+1]?=some (.cells #[.int .i64 0,.int .i64 0] 152 (0,0)):=by rw [e1,eg];exact Z0 w _ _
 obtain ⟨f0,f1⟩:=cs2 hg0
 have h1:=h.below hb
 have hy1:w1.cell? ⟨yb,0,none⟩=some (.int .i64 eid)∧w1.cell? ⟨yb,1,none⟩=some (.slice pA pn pc):=⟨(hb.cell (Zc hy.1)).trans hy.1,(hb.cell (Zc hy.2)).trans hy.2⟩
 have F:=Zey e A n c w1 h1
 have K:=fun W (hW:Zo W A n c e.cs)=>Zez eid pA pn pc e A n c W hW
 obtain ⟨X,eX⟩:∃ X,X=ZV e:=⟨_,rfl⟩
 obtain ⟨Y,eY⟩:∃ Y,Y=ZW e:=⟨_,rfl⟩
 obtain ⟨B,eB⟩:∃ B,B=YR e:=⟨_,rfl⟩
 obtain ⟨O,eO⟩:∃ O,O=QR eid e:=⟨_,rfl⟩
 rw [←eX,←eY,←eB] at F ⊢
 rw [←eO] at ⊢
 simp only [←eO] at K
 have H:=Qh (Qi hb (Qi hg1 (Qi eg (Qi h1 (Qi hy1 K)))))
 clear hb h hg0 hg1 h1 hy1 hy K eX eY eB eO
 go_enter Tryz.func88,Tryz.ntmps88
 go_upto_region 1 with fail
 rw [←e1,←eg]
 clear e1 eg
 go_upto_region 2 with (go_at_call 89;refine F.mono ?_;rintro e w2 ⟨rfl,hb2⟩;have g0:=(hb2.cell (Zc f0)).trans f0;have g1:=(hb2.cell (Zc f1)).trans f1;have H2:=Qh hb2;clear hb2)
 obtain ⟨w3,e3⟩:∃ W,W=w2.alloc (.cells #[.int .i64 X,.int .i64 Y] 152 (0,0)):=⟨_,rfl⟩
 obtain ⟨g3,eg3⟩:∃ g,g=w2.heap.size:=⟨_,rfl⟩
 rw [←e3,←eg3]
 have hg3:w3.heap[g3]?=some (.cells #[.int .i64 X,.int .i64 Y] 152 (0,0)):=by rw [e3,eg3];exact heap_alloc_new w2 _
 have ZK:Below w2.heap.size w2 w3:=by rw [e3];exact Zg w2 _
 have hb3:Below w1.heap.size w1 w3:=H2.out.trans (ZK.mono H2.out.size)
 obtain ⟨k0,k1⟩:=cs2 hg3
 have k2:=(ZK.cell (Zc g0)).trans g0
 have k3:=(ZK.cell (Zc g1)).trans g1
 have k4:=(hb3.cell (Zc H.out.2.2.2.2.1.1)).trans H.out.2.2.2.2.1.1
 have k5:=(hb3.cell (Zc H.out.2.2.2.2.1.2)).trans H.out.2.2.2.2.1.2
 have hgr:=(hb3.block _ (Zh H.out.2.1)).trans H.out.2.1
 obtain ⟨r0,r1⟩:=cs2 hgr
 have s0:=Zd hgr 0
 have s1:=Zd hgr 1
 rcases B with _ | _
 ·have HX:=Qh (Qi hgr hb3)
  clear e3 eg3 hg3 hb3 ZK hgr f0 f1 g0 g1 F H2
  go_region_with (fail)
  all_goals go_wp2_with fail
  all_goals
   refine bodyPost_ret (ZcZ rfl _ _ (g+1) _ rfl rfl (Yw (.int .i64 X) (.int .i64 Y) HX.out.1)) rfl ?_
   exact ⟨rfl,(YB _ _ (H.out.1.trans (HX.out.2.mono H.out.1.size)) (by have:=H.out.2.2.1;omega)).drew⟩
 ·have hd:Below w3.heap.size w3 w3.drew:=(Below.refl _ w3).drew
  have F3:=H.out.2.2.2.2.2 w3.drew ((H.out.2.2.2.1.below hb3).below hd)
  have HD:=Qh hd
  clear hd
  have HX:=Qh (Qi hgr (Qi hb3 hg3))
  have HF:=Qh (show ∀ W,Below w3.heap.size w3 W→(W.cell? ⟨g3,0,none⟩=some (.int .i64 X)∧W.cell? ⟨g3,1,none⟩=some (.int .i64 Y))∧(W.cell? ⟨g+1,0,none⟩=some (.int .i64 0)∧W.cell? ⟨g+1,1,none⟩=some (.int .i64 0)∧W.frozen? ⟨g+1,0,none⟩=false∧W.frozen? ⟨g+1,1,none⟩=false) from fun W hW=>by
   have Zc7:=(hW.block _ (Zh hgr)).trans hgr
   exact ⟨⟨(hW.cell (Zc k0)).trans k0,(hW.cell (Zc k1)).trans k1⟩,Za Zc7 0 _ rfl,Za Zc7 1 _ rfl,Zd Zc7 0,Zd Zc7 1⟩)
  clear e3 eg3 hg3 hb3 ZK hgr f0 f1 g0 g1 F H2
  go_region_with (go_at_call 42;refine F3.mono ?_;rintro e w4 ⟨rfl,Zhk⟩;have hb4:=HD.out.trans (Zhk.mono HD.out.size);clear Zhk;obtain ⟨⟨z0,z1⟩,z2,z3,z4,z5⟩:=HF.out w4 hb4;have H4:=Qh hb4;clear hb4 F3)
  all_goals go_wp2_with fail
  all_goals
   refine bodyPost_ret (ZcZ rfl _ _ (g+1) _ rfl rfl (Yw (.int .i64 X) (.int .i64 Y) ((H4.out.block _ (Zh HX.out.1)).trans HX.out.1))) rfl ?_
   exact ⟨rfl,YB _ _ (H.out.1.trans ((HX.out.2.1.trans (H4.out.mono HX.out.2.1.size)).mono H.out.1.size)) (by have:=H.out.2.2.1;omega)⟩
end
end Go.Proofs.YtlgcfimhfmgkmaaGreatDoor
namespace Go.Proofs.YtlgcfimhfmgkmaaGreatDoor
open Go.RowKit
section
theorem Znc:(Tryz.prog.info? 152).map (fun i=>(i.zero,i.size,i.bytes))=some (some (.agg #[.int .i64 0,.int .i64 0]),2,16):=by kernel_rfl
def Zaf (p:Int × Int):List Value:=[.int .i64 p.1,.int .i64 p.2]
def JJ (l:List (Int × Int)):List Value:=l.flatMap Zaf
theorem Zhl (p:Int × Int):(Zaf p).length=2:=rfl
theorem Znd (l:List (Int × Int)) (t:Int × Int):JJ (l++[t])=JJ l++Zaf t:=by simp [JJ]
theorem Zne (t:Int × Int):∀ u∈Zaf t,u.oneCell'=true:=by
 intro u hu
 simp only [Zaf,List.mem_cons,List.not_mem_nil,or_false] at hu
 rcases hu with rfl|rfl<;>rfl
def Xa (eid:Int) (es:List Ent):List (Int × Int):=(es.filter (fun e=>YR e&&QR eid e)).map (fun e=>(ZV e,ZW e))
theorem Zhm (eid:Int) (es:List Ent):(Xa eid es).length≤es.length:=by
 unfold Xa;rw [List.length_map];exact List.length_filter_le _ _
theorem Zhn {α:Type} {l:List α} {j:Nat} {x:α} (h:l[j]?=some x):l.take (j+1)=l.take j++[x]:=by
 rw [List.take_add_one,h];rfl
theorem Znf (eid:Int) (es:List Ent) (j:Nat) (x:Ent) (h:es[j]?=some x):Xa eid (es.take (j+1))=Xa eid (es.take j)++(if YR x&&QR eid x then [(ZV x,ZW x)] else []):=by
 rw [Zhn h]
 unfold Xa
 rw [List.filter_append,List.map_append]
 congr 1
 rcases hb:(YR x&&QR eid x) with _ | _<;>simp [List.filter_cons,hb]
theorem Zng (eid:Int) (pA:Option Addr) (pn pc yb:Nat) (A:Option Addr) (n cap:Nat) (l:List Ent) (w:World) (h:Zj w A n cap l)
  (hy:w.cell? ⟨yb,0,none⟩=some (.int .i64 eid)∧w.cell? ⟨yb,1,none⟩=some (.slice pA pn pc)) :
  Calls Tryz.prog 87 #[.slice A n cap,.func (.func 88) #[] #[.pointer (some ⟨yb,0,none⟩)]] w fun e w'=>∃ v,e=.returned v∧w'.ownsRow w.heap.size 152 2 v (Xa eid l).length (JJ (Xa eid l))∧Below w.heap.size w w':=by
 obtain ⟨i9,hi9,hz0,hz1,hz2⟩:=info_parts Znc
 have HI:=Qh (Qi hi9 (Qi hz0 (Qi hz1 hz2)))
 have H:=Qh (Qi h hy)
 clear h hy hi9 hz0 hz1 hz2
 go_enter Tryz.func87,Tryz.ntmps87
 go_wp2_with fail
 go_loopg [5,12] n (fun gh ov iv wr=>∃ j:Nat,gh+j=n∧iv=.int .i64 (j:Nat)∧wr.ownsRow w.heap.size 152 2 ov (Xa eid (l.take j)).length (JJ (Xa eid (l.take j)))∧Below w.heap.size w wr)
 case atStart=>exact ⟨0,rfl,rfl,⟨rfl,Or.inl ⟨rfl,rfl⟩⟩,Below.refl _ _⟩
 case round=>
  obtain ⟨j,hg,rfl,hown,hW⟩:=hrel
  obtain ⟨W,eW⟩:∃ W,W=wr:=⟨_,rfl⟩
  rw [←eW] at hW hown ⊢
  clear eW
  have h:=H.out.1
  have hlen:=h.len
  have hlim:=h.lim
  by_cases hlt:j<n
  ·obtain ⟨x,hx⟩:∃ x,l[j]?=some x:=⟨_,List.getElem?_eq_getElem (by omega)⟩
   have i0:(0:Int)≤(j:Int):=by omega
   have i1:(j:Int)<(n:Int):=by omega
   have i2:decide (j<n)=true:=decide_eq_true hlt
   have w2:wrap64 ((j:Int)+1)=(j:Int)+1:=Zn _ (by omega) (by omega)
   obtain ⟨b,o,CA,cn,cc,rfl,⟨c0,c1⟩,hr⟩:=h.at_ j x hx
   have c0:=(Zm (hW.block b (Zc c0)) _).trans c0
   have c1:=(Zm (hW.block b (Zc c1)) _).trans c1
   have hr:=hr.below hW
   obtain ⟨W1,g1,e1,eg,⟨f0,f1⟩,hb1⟩:=Zaa W x.id CA cn cc
   have hy:=H.out.2
   have Zag:Below w.heap.size w W1:=hW.trans (hb1.mono hW.size)
   have F:=Znb eid pA pn pc yb x CA cn cc W1 (hr.below hb1) ⟨(Zag.cell (Zc hy.1)).trans hy.1,(Zag.cell (Zc hy.2)).trans hy.2⟩
   obtain ⟨X,eX⟩:∃ X,X=ZV x:=⟨_,rfl⟩
   obtain ⟨Y,eY⟩:∃ Y,Y=ZW x:=⟨_,rfl⟩
   obtain ⟨T,eT⟩:∃ T,T=(YR x&&QR eid x):=⟨_,rfl⟩
   have hm:=Znf eid l j x hx
   rw [←eT,←eX,←eY] at F hm
   have hle:=Zhm eid (l.take j)
   rw [List.length_take] at hle
   obtain ⟨m,em⟩:∃ m,m=Xa eid (l.take j):=⟨_,rfl⟩
   rw [←em] at hown hm hle
   have HX:=Qh (Qi hlt (Qi hg (Qi hW (Qi hb1 (Qi hown (Qi hm hle))))))
   clear hlt hg hW hb1 Zag hown hm hle hx hy hr h hlen hlim eX eY eT em
   go_upto_region 5 with fail
   rw [←e1,←eg]
   clear e1 eg
   go_upto_region 6 with (go_at_call 88;refine F.mono ?_;rintro e w2 ⟨rfl,hb2⟩;have H2:=Qh hb2;clear hb2)
   obtain ⟨w3,e3⟩:∃ w3,w3=w2.alloc (.cells #[.int .i64 X,.int .i64 Y] 152 (0,0)):=⟨_,rfl⟩
   obtain ⟨g3,eg3⟩:∃ g,g=w2.heap.size:=⟨_,rfl⟩
   rw [←e3,←eg3]
   have hg3:w3.heap[g3]?=some (.cells #[.int .i64 X,.int .i64 Y] 152 (0,0)):=by rw [e3,eg3];exact heap_alloc_new w2 _
   have ZK:Below w2.heap.size w2 w3:=by rw [e3];exact Zg w2 _
   obtain ⟨hlt,hg,hW,hb1,hown,hm,hle⟩:=HX.out
   have Zt:Below W.heap.size W w2:=hb1.trans (H2.out.mono hb1.size)
   have Yi:Below W.heap.size W w3:=Zt.trans (ZK.mono Zt.size)
   obtain ⟨k0,k1⟩:=cs2 hg3
   have hown3:w3.ownsRow w.heap.size 152 2 u5 m.length (JJ m):=ZaO hown (fun q hq=>Yi.block q hq)
   have Jq:Below w.heap.size w w3:=hW.trans (Yi.mono hW.size)
   have hlim:=H.out.1.lim
   have hlen:=H.out.1.len
   rcases T with _ | _
   ·have HY:=Qh (Qi hlt (Qi hg (Qi hown3 (Qi hm Jq))))
    clear HX H2 e3 eg3 hg3 ZK hlt hg hW hb1 hown hm hle Zt Yi hown3 Jq hlim hlen F f0 f1 c0 c1 hr
    go_wp2_with fail
    go_roundg (n-(j+1))
    case measure=>have:=HY.out.1;have:=HY.out.2.1;omega
    case rel=>
     obtain ⟨hlt,hg,hown3,hm,Jq⟩:=HY.out
     refine ⟨j+1,by omega,by go_num,?_,Jq⟩
     rw [hm,if_neg (by simp),List.append_nil]
     exact hown3
   ·have HN2:=Qh (show ∀ u,u=w3.heap.size→∀ j v,(Zaf (X,Y))[j]?=some v→(w3.alloc (.cells #[.int .i64 X,.int .i64 Y] 152 (0,0))).cell? ((⟨u,0,none⟩:Addr).add j)=some v from fun u hu=>XC _ _ _ _ hu)
    have HN4:=Qh (show m.length+1≤maxLen∧(m.length+1)*16≤140737488355328 from by unfold maxLen;omega)
    have HN5:=Qh (show ∀ A,w.heap.size≤(w3.alloc A).heap.size from fun A=>by have:=Jq.size;simp only [World.size_alloc];omega)
    have HO:=Qh hown3
    have HY:=Qh (Qi hlt (Qi hg (Qi hm Jq)))
    clear HX H2 e3 eg3 hg3 ZK hlt hg hW hb1 hown hm hle Zt Yi hown3 Jq hlim hlen F f0 f1 c0 c1 hr
    go_wp2_with (at_builtin;refine wpList_append_own_at _ rfl (.tmp 23) (.tmp 25) 91 rfl w.heap.size 152 i9 _ 2 16 Tryz.underlying91 HI.out.1 HI.out.2.1 HI.out.2.2.1 HI.out.2.2.2 rfl (by decide) u5 m.length (JJ m) rfl (HO.out.alloc _) ⟨w3.heap.size,0,none⟩ 1 1 (Zaf (X,Y)) rfl rfl (HN2.out _ rfl) (Zne _) HN4.out.1 HN4.out.2 (HN5.out _) ?_)
    intro v5 w5 hown5 hg5 _ _
    have HV:=Qh (Qi hown5 hg5);clear hown5 hg5
    go_wp2_with fail
    go_roundg (n-(j+1))
    case measure=>have:=HY.out.1;have:=HY.out.2.1;omega
    case rel=>
     obtain ⟨hlt,hg,hm,Jq⟩:=HY.out
     obtain ⟨hown5,hg5⟩:=HV.out
     refine ⟨j+1,by omega,by go_num,?_,?_⟩
     ·rw [hm,if_pos trivial,List.length_append,Znd];exact hown5
     ·exact (Jq.alloc (by have:=Jq.size;omega) _).grown hg5 (HN5.out _) (fun q hq=>(Yg HO.out hq).2)
  ·have i2:decide (j<n)=false:=decide_eq_false hlt
   have ht:l.take j=l:=List.take_of_length_le (by omega)
   rw [ht] at hown
   have HX:=Qh (Qi hown hW)
   clear hlt hW hg h hlen hlim hown ht
   go_wp2_with fail
   go_ret
   exact ⟨_,rfl,HX.out.1,HX.out.2⟩
end
end Go.Proofs.YtlgcfimhfmgkmaaGreatDoor
namespace Go.Proofs.YtlgcfimhfmgkmaaGreatDoor
open Go.RowKit
section
structure XZ (w:World) (A:Option Addr) (n cap:Nat) (l:List (Int × Int)):Prop where
 len:n=l.length
 at_:∀ (j:Nat) (p:Int × Int),l[j]?=some p→∃ b o,A=some ⟨b,o,none⟩∧w.cell? ⟨b,o+j*2,none⟩=some (.int .i64 p.1)∧w.cell? ⟨b,o+j*2+1,none⟩=some (.int .i64 p.2)
 nil:A=none→n=0∧cap=0
 lim:n≤1000000
theorem XZ.step {w w':World} {A:Option Addr} {n cap:Nat} {l:List (Int × Int)} (h:XZ w A n cap l) (hb:∀ b o m,A=some ⟨b,o,m⟩→b<w.heap.size→w'.heap[b]?=w.heap[b]?):XZ w' A n cap l:=by
 refine ⟨h.len,fun j p hj=>?_,h.nil,h.lim⟩
 obtain ⟨b,o,e,h0,h1⟩:=h.at_ j p hj
 have hs:=hb b o none e (Zc h0)
 exact ⟨b,o,e,(Zm hs _).trans h0,(Zm hs _).trans h1⟩
theorem XZ.below {w w':World} {A:Option Addr} {n cap:Nat} {l:List (Int × Int)} (h:XZ w A n cap l) (hb:Below w.heap.size w w'):XZ w' A n cap l:=h.step fun b _ _ _ hlt=>hb.block b hlt
theorem Znh {w:World} {B:Nat} {v:Value} {l:List (Int × Int)} (h:w.ownsRow B 152 2 v l.length (JJ l)) (hl:l.length≤1000000):∃ A c,v=.slice A l.length c∧XZ w A l.length c l∧∀ b o m,A=some ⟨b,o,m⟩→B≤b:=by
 have hlow:∀ A n c,v=.slice A n c→∀ b o m,A=some ⟨b,o,m⟩→B≤b:=by
  intro A n c hv b o m hA
  subst hv hA
  exact Tq86
 rcases l with _|⟨c,l⟩
 ·rcases h.2 with ⟨rfl,-⟩|⟨g,cap,cur,rfl,r⟩
  ·exact ⟨none,0,rfl,⟨rfl,fun j c hj=>by simp at hj,fun _=>⟨rfl,rfl⟩,by simp⟩,hlow _ _ _ rfl⟩
  ·exact ⟨_,cap,rfl,⟨rfl,fun j c hj=>by simp at hj,(fun e=>by cases e),by simp⟩,hlow _ _ _ rfl⟩
 ·obtain ⟨b,cp,rfl,hb,hcell⟩:=Q7 h (by rw [JJ,Qb _ 2 Zhl];simp)
  refine ⟨_,cp,rfl,⟨rfl,fun j s hj=>?_,(fun e=>by cases e),hl⟩,hlow _ _ _ rfl⟩
  have hk:∀ k,k<2→∀ u,(Zaf s)[k]?=some u→w.cell? ⟨b,0+j*2+k,none⟩=some u:=fun k hk u hu=>by rw [Nat.zero_add];exact hcell _ u ((XX _ 2 Zhl _ j s k hj hk).trans hu)
  exact ⟨b,0,rfl,hk 0 (by omega) _ rfl,hk 1 (by omega) _ rfl⟩
def Zbu (c t:Int) (es:List Ent):Bool:=!(decide (c<1))&&!(decide (8<c))&&Zl t es
theorem Zni (w:World) (t:Int) (A:Option Addr) (n c:Nat):∃ W g,W=(w.alloc (.cells #[.int .i64 t,.slice A n c] 24 (0,0))).alloc (.cells #[.int .i64 0,.slice none 0 0] 93 (0,0))∧g=w.heap.size ∧
  W.heap[g]?=some (.cells #[.int .i64 t,.slice A n c] 24 (0,0))∧W.heap[g+1]?=some (.cells #[.int .i64 0,.slice none 0 0] 93 (0,0))∧Below w.heap.size w W:=
 ⟨_,_,rfl,rfl,ZZ w _ _,Z0 w _ _,ZQ w _ _⟩
theorem Znj (cl t:Int) (A:Option Addr) (n c:Nat) (es:List Ent) (w:World) (hT:Tabs w) (h:Zj w A n c es) (hb:Zbu cl t es=true) :
  Calls Tryz.prog 39 #[.agg #[.int .i64 t,.slice A n c],.int .i64 cl] w fun r w'=>∃ pA pn pc,r=.returned (.tuple #[.agg #[.int .i64 cl,.slice pA pn pc],.int .i64 0])∧XZ w' pA pn pc (Xa cl es)∧Below w.heap.size w w':=by
 obtain ⟨w1,g,e1,eg,hg0,hg1,hb1⟩:=Zni w t A n c
 obtain ⟨f0,f1⟩:=cs2 hg0
 have h1:=h.below hb1
 have F:=Qd t A n c es w1 (hT.below hb1) h1
 have H:=Qh (Qi hb1 (Qi hg1 (Qi eg h1)))
 unfold Zbu at hb
 rw [Bool.and_eq_true,Bool.and_eq_true,Bool.not_eq_true',Bool.not_eq_true'] at hb
 obtain ⟨⟨q1,q2⟩,hv⟩:=hb
 rw [hv] at F
 clear hT h h1 hb1 hg0 hg1 hv
 go_enter Tryz.func39,Tryz.ntmps39
 go_upto_region 1 with fail
 rw [←e1,←eg]
 clear e1 eg
 go_upto_region 3 with (go_at_call 9;refine F.mono ?_;rintro e w2 ⟨rfl,hb2⟩;have z0:=(hb2.cell (Zc f0)).trans f0;have z1:=(hb2.cell (Zc f1)).trans f1;have H2:=Qh hb2;clear hb2)
 obtain ⟨w3,e3⟩:∃ w3,w3=w2.alloc (.cells #[.int .i64 cl,.slice none 0 0] 93 (0,0)):=⟨_,rfl⟩
 obtain ⟨g3,eg3⟩:∃ g,g=w2.heap.size:=⟨_,rfl⟩
 have hg3:w3.heap[g3]?=some (.cells #[.int .i64 cl,.slice none 0 0] 93 (0,0)):=by rw [e3,eg3];exact heap_alloc_new w2 _
 have ZK:Below w2.heap.size w2 w3:=by rw [e3];exact Zg w2 _
 have Yi:Below w1.heap.size w1 w3:=H2.out.trans (ZK.mono H2.out.size)
 obtain ⟨k0,k1⟩:=cs2 hg3
 have m0:=(ZK.cell (Zc z0)).trans z0
 have m1:=(ZK.cell (Zc z1)).trans z1
 have FV:=Zng cl none 0 0 g3 A n c es w3 (H.out.2.2.2.below Yi) ⟨k0,k1⟩
 have FZ:Calls Tryz.prog 87 #[.slice A n c,.func (.func 88) #[] #[.pointer (some ⟨g3,0,none⟩)]] w3 fun e w'=>∃ qA qn qc,e=.returned (.slice qA qn qc)∧(XZ w' qA qn qc (Xa cl es)∧∀ b o m,qA=some ⟨b,o,m⟩→w3.heap.size≤b)∧Below w.heap.size w w' ∧
   (w'.cell? ⟨g3,0,none⟩=some (.int .i64 cl)∧w'.cell? ⟨g3,1,none⟩=some (.slice none 0 0)∧w'.frozen? ⟨g3,0,none⟩=false∧w'.frozen? ⟨g3,1,none⟩=false) ∧
   (w'.heap[g+1]?=some (.cells #[.int .i64 0,.slice none 0 0] 93 (0,0))∧w'.heap[g3]?=some (.cells #[.int .i64 cl,.slice none 0 0] 93 (0,0)))∧g3<w3.heap.size∧g+1<g3:=by
  refine FV.mono ?_
  rintro e w4 ⟨v,rfl,Zc8,hb4⟩
  have hg4:=(hb4.block _ (Zh hg3)).trans hg3
  have hr4:=(hb4.block _ (Zh ((Yi.block _ (Zh H.out.2.1)).trans H.out.2.1))).trans ((Yi.block _ (Zh H.out.2.1)).trans H.out.2.1)
  have hz:=Zh H.out.2.1
  have hz2:=H2.out.size
  obtain ⟨qA,qc,rfl,hv4⟩:=Znh Zc8 (by have:=Zhm cl es;have:=H.out.2.2.2.len;have:=H.out.2.2.2.lim;omega)
  exact ⟨qA,_,qc,rfl,hv4,H.out.1.trans ((Yi.trans (hb4.mono Yi.size)).mono H.out.1.size),⟨Za hg4 0 _ rfl,Za hg4 1 _ rfl,Zd hg4 0,Zd hg4 1⟩,⟨hr4,hg4⟩,Zh hg3,by omega⟩
 clear hg3 ZK Yi H2 F f0 f1 z0 z1 FV
 rw [e3,eg3] at FZ
 subst e3 eg3
 go_upto_region 5 with (go_at_call 87;refine FZ.mono ?_;rintro e w4 ⟨qA,qn,qc,rfl,Zc8,hb4,⟨y0,y1,y2,y3⟩,⟨hr4,hg4⟩,Zbv,Zbw⟩;have rr0:w4.cell? ⟨g+1,0,none⟩=some (.int .i64 0):=Za hr4 0 _ rfl;have rr1:w4.cell? ⟨g+1,1,none⟩=some (.slice none 0 0):=Za hr4 1 _ rfl;have rr2:=Zd hr4 0;have rr3:=Zd hr4 1;have H4:=Qh (Qi Zc8 (Qi hb4 (Qi hr4 (Qi hg4 (Qi Zbv Zbw)))));clear Zc8 hb4 hg4 hr4 FZ Zbv Zbw)
 obtain ⟨⟨hv,hvl⟩,hb4,hr4,hg4,Zbv,Zbw⟩:=H4.out
 have hne:g+1≠w2.heap.size:=by omega
 obtain ⟨w5,e5⟩:∃ W,W=w4.setCell ⟨w2.heap.size,1,none⟩ (.slice qA qn qc):=⟨_,rfl⟩
 rw [←e5]
 have hr5:w5.heap[g+1]?=some (.cells #[.int .i64 0,.slice none 0 0] 93 (0,0)):=by rw [e5];exact (Below.heap_setCell _ _ _ _ hne).trans hr4
 have hg5:w5.heap[w2.heap.size]?=some (.cells #[.int .i64 cl,.slice qA qn qc] 93 (0,0)):=by rw [e5];exact block_setCell hg4 1 _
 have hv5:XZ w5 qA qn qc (Xa cl es):=hv.step fun b o m hA hl=>by
  have:=hvl b o m hA
  rw [e5]
  exact Below.heap_setCell _ _ _ _ (by show b≠w2.heap.size;omega)
 have hb5:Below w.heap.size w w5:=by rw [e5];exact hb4.setCell (p:=⟨w2.heap.size,1,none⟩) (by have:=H.out.2.2.1;show w.heap.size≤w2.heap.size;omega) _
 obtain ⟨x0,x1⟩:=cs2 hg5
 obtain ⟨x2,x3⟩:=cs2 hr5
 have x4:=Zd hr5 0
 have x5:=Zd hr5 1
 have HY:=Qh (Qi hv5 (Qi hvl (Qi hb5 (Qi hr5 (Qi Zbv Zbw)))))
 clear hv hvl hb4 hr4 hg4 Zbv Zbw hne e5 hr5 hg5 hv5 hb5 H4 y0 y1 y2 y3 rr0 rr1 rr2 rr3 m0 m1 k0 k1
 go_wp2_with fail
 obtain ⟨hv5,hvl,hb5,hr5,Zbv,Zbw⟩:=HY.out
 refine bodyPost_ret (Zmv rfl _ _ (g+1) _ rfl rfl (Yw (.int .i64 cl) (.slice qA qn qc) hr5)) rfl ?_
 refine ⟨qA,qn,qc,rfl,hv5.step fun b o m hA hl=>?_,YB _ _ hb5 (by have:=H.out.2.2.1;omega)⟩
 have:=hvl b o m hA
 exact YE _ _ _ _ (by omega)
end
end Go.Proofs.YtlgcfimhfmgkmaaGreatDoor
