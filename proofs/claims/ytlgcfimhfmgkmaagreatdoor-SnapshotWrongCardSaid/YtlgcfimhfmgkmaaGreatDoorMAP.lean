/- Lemmas for the statement. -/
import Derived.Test.YtlgcfimhfmgkmaaGreatDoorMAO
set_option linter.unusedVariables false
set_option linter.unusedSimpArgs false
set_option maxRecDepth 100000
set_option maxHeartbeats 4000000
namespace Go.Proofs.YtlgcfimhfmgkmaaGreatDoor
open Go.RowKit
section
def InP (x y:Int):Prop:=(-1073741824≤x∧x≤1073741824)∧(-1073741824≤y∧y≤1073741824)
def Q9 (x y:Int) (q:Int × Int):Bool:=decide (max (q.1-x).natAbs (q.2-y).natAbs≤16384)
theorem Znk (x y:Int) (q:Int × Int) (pb:Nat) (w:World) (hp:w.cell? ⟨pb,0,none⟩=some (.int .i64 x)∧w.cell? ⟨pb,1,none⟩=some (.int .i64 y)) (hi:InP x y) (hq:InP q.1 q.2) :
  Calls Tryz.prog 93 #[.agg #[.int .i64 q.1,.int .i64 q.2],.pointer (some ⟨pb,0,none⟩)] w fun e w'=>e=.returned (.bool (Q9 x y q))∧Below w.heap.size w w':=by
 obtain ⟨q1,q2⟩:=q
 obtain ⟨w1,e1⟩:∃ W,W=w.alloc (.cells #[.int .i64 q1,.int .i64 q2] 152 (0,0)):=⟨_,rfl⟩
 obtain ⟨g,eg⟩:∃ g,g=w.heap.size:=⟨_,rfl⟩
 have hb:Below w.heap.size w w1:=by rw [e1];exact Zg w _
 have hg0:w1.heap[g]?=some (.cells #[.int .i64 q1,.int .i64 q2] 152 (0,0)):=by rw [e1,eg];exact heap_alloc_new w _
 obtain ⟨f0,f1⟩:=cs2 hg0
 have r0:=(hb.cell (Zc hp.1)).trans hp.1
 have r1:=(hb.cell (Zc hp.2)).trans hp.2
 have F:=Zhh x y q1 q2 hi.1 hi.2 hq.1 hq.2 w1
 obtain ⟨M,eM⟩:∃ M,M=max (q1-x).natAbs (q2-y).natAbs:=⟨_,rfl⟩
 rw [←eM] at F
 obtain ⟨R,eR⟩:∃ R,R=Q9 x y (q1,q2):=⟨_,rfl⟩
 have hR:decide ((M:Int)≤16384)=R:=by
  rw [eR,eM];unfold Q9
  rw [Bool.eq_iff_iff,decide_eq_true_iff,decide_eq_true_iff]
  omega
 rw [←eR]
 have H:=Qh hb
 clear hb hg0 hp hi hq eM eR
 go_enter Tryz.func93,Tryz.ntmps93
 go_upto_region 1 with fail
 rw [←e1,←eg]
 clear e1 eg
 rcases R with _ | _
 all_goals
  go_wp2_with (go_at_call 94;refine F.mono ?_;rintro e w2 ⟨rfl,hb2⟩;have H2:=Qh hb2;clear hb2 F)
  go_ret
  exact ⟨rfl,H.out.trans (H2.out.mono H.out.size)⟩
theorem Znl (px py:Int) (pb:Nat) (A:Option Addr) (n cap:Nat) (l:List (Int × Int)) (w:World) (h:XZ w A n cap l) (hp:w.cell? ⟨pb,0,none⟩=some (.int .i64 px)∧w.cell? ⟨pb,1,none⟩=some (.int .i64 py)) (hbd:InP px py∧∀ q,q∈l→InP q.1 q.2) :
  Calls Tryz.prog 152 #[.slice A n cap,.func (.func 93) #[] #[.pointer (some ⟨pb,0,none⟩)]] w fun e w'=>∃ k:Int,e=.returned (.int .i64 k)∧Xd (Q9 px py) l k∧Below w.heap.size w w':=by
 have H:=Qh (Qi h (Qi hp hbd))
 clear h hp hbd
 go_enter Tryz.func152,Tryz.ntmps152
 go_wp2_with fail
 go_loopg [8] n (fun gh iv wr=>∃ j:Nat,gh+j=n∧(∀ (i:Nat) y,i<j→l[i]?=some y→(Q9 px py) y=false)∧iv=.int .i64 (j:Nat)∧Below w.heap.size w wr)
 case atStart=>exact ⟨0,rfl,fun i y h=>by omega,rfl,Below.refl _ _⟩
 case round=>
  obtain ⟨j,hg,hall,rfl,hW⟩:=hrel
  obtain ⟨W,eW⟩:∃ W,W=wr:=⟨_,rfl⟩
  rw [←eW] at hW ⊢
  clear eW
  have h:=H.out.1
  have hlen:=h.len
  have hlim:=h.lim
  by_cases hlt:j<n
  ·obtain ⟨x,hx⟩:∃ x,l[j]?=some x:=⟨_,List.getElem?_eq_getElem (by omega)⟩
   have i0:(0:Int)≤(j:Int):=by omega
   have i1:(j:Int)<(n:Int):=by omega
   have i2:decide (j<n)=true:=decide_eq_true hlt
   have w2:wrap64 ((j:Int)+1)=(j:Int)+1:=Zn _ (by omega) (by omega)
   obtain ⟨R,eR⟩:∃ R,R=(Q9 px py) x:=⟨_,rfl⟩
   obtain ⟨b,o,rfl,c0,c1⟩:=h.at_ j x hx
   have c0:=(Zm (hW.block b (Zc c0)) _).trans c0
   have c1:=(Zm (hW.block b (Zc c1)) _).trans c1
   have hq:=H.out.2.2.2 x (List.mem_of_getElem? hx)
   have hp0:=(hW.cell (Zc H.out.2.1.1)).trans H.out.2.1.1
   have hp1:=(hW.cell (Zc H.out.2.1.2)).trans H.out.2.1.2
   have F:Calls Tryz.prog 93 #[.agg #[.int .i64 x.1,.int .i64 x.2],.pointer (some ⟨pb,0,none⟩)] W fun e w'=>e=.returned (.bool R)∧Below W.heap.size W w':=by rw [eR];exact Znk px py x pb W ⟨hp0,hp1⟩ H.out.2.2.1 hq
   have HX:=Qh (Qi hx (Qi hlt (Qi hg (Qi hall (Qi hW eR)))))
   clear hx hlt hg hall hW eR h hlen hlim
   rcases R with _ | _
   ·go_wp2_with (go_at_call 93;refine F.mono ?_;rintro e w3 ⟨rfl,hb3⟩;have H3:=Qh hb3;clear hb3)
    exact Tq3
   ·go_wp2_with (go_at_call 93;refine F.mono ?_;rintro e w3 ⟨rfl,hb3⟩;have H3:=Qh hb3;clear hb3)
    exact Tq12
  ·exact Tq4
theorem Zho (px py:Int) (pb:Nat) (A:Option Addr) (n cap:Nat) (l:List (Int × Int)) (w:World) (h:XZ w A n cap l) (hp:w.cell? ⟨pb,0,none⟩=some (.int .i64 px)∧w.cell? ⟨pb,1,none⟩=some (.int .i64 py)) (hbd:InP px py∧∀ q,q∈l→InP q.1 q.2) :
  Calls Tryz.prog 92 #[.slice A n cap,.func (.func 93) #[] #[.pointer (some ⟨pb,0,none⟩)]] w fun e w'=>e=.returned (.bool (l.any (Q9 px py)))∧Below w.heap.size w w':=by
 have I:=Znl px py pb A n cap l w h hp hbd
 obtain ⟨R,eR⟩:∃ R,R=l.any (Q9 px py):=⟨_,rfl⟩
 rw [←eR]
 have HR:=Qh eR
 clear eR h hp hbd
 go_enter Tryz.func92,Tryz.ntmps92
 go_wp2_with (go_at_call 152;refine I.mono ?_;rintro e w2 ⟨k,rfl,hk,hb2⟩;have H2:=Qh (Qi hk hb2);clear hk hb2)
 go_ret
 exact ⟨by rw [HR.out,←H2.out.1.any];rfl,H2.out.2⟩
end
end Go.Proofs.YtlgcfimhfmgkmaaGreatDoor
namespace Go.Proofs.YtlgcfimhfmgkmaaGreatDoor
open Go.RowKit
section
theorem below_drewN (w:World) (n:Nat):Below w.heap.size w (w.drewN n):=by
 induction n with
 | zero=>exact Below.refl _ w
 | succ n ih=>exact ih.drew
def Zhp (cl:Int) (e:Ent):Bool:=(ZC 5 e.cs).isSome&&(bits .and .i64 ((ZC 5 e.cs).getD Cmp.zero).v0 (wrap64 (2 ^ cl.toNat)) != 0)
def Qj (cl:Int) (l:List (Int × Int)) (e:Ent):Bool:=QR cl e || (!(Zhp cl e)&&(YR e&&l.any (Q9 (ZV e) (ZW e))))
theorem Tq7 {p:Prop} (h:p:=by
 go_quiet (fail)
 obtain ⟨w5,e5⟩:∃ W,W=w4.drewN nq:=⟨_,rfl⟩
 rw [←e5]
 have YZ:Below w4.heap.size w4 w5:=by rw [e5];exact below_drewN w4 nq
 have Qk:Below w1.heap.size w1 w5:=H4.out.1.trans (YZ.mono H4.out.1.size)
 have k1:=(YZ.cell (Zc k1)).trans k1
 have k2:=(YZ.cell (Zc k2)).trans k2
 have k3:=(YZ.cell (Zc k3)).trans k3
 have k4:=(YZ.cell (Zc k4)).trans k4
 have FP:=Zey ⟨id,cs⟩ A n c w5 (H.out.2.1.below Qk)
 obtain ⟨PX,ePX⟩:∃ X,X=ZV ⟨id,cs⟩:=⟨_,rfl⟩
 obtain ⟨PY,ePY⟩:∃ X,X=ZW ⟨id,cs⟩:=⟨_,rfl⟩
 obtain ⟨PB,ePB⟩:∃ X,X=YR ⟨id,cs⟩:=⟨_,rfl⟩
 rw [←ePX,←ePY,←ePB] at FP
 have hIP:InP PX PY:=by rw [ePX,ePY];exact H.out.2.2.2.1
 have HE:=Qh (Qi ePX (Qi ePY (Qi ePB (Qi Qk hIP))))
 clear e5 YZ Qk k0 ePX ePY ePB hIP
 go_upto_region 8 with (go_at_call 89;refine FP.mono ?_;rintro e w6 ⟨rfl,hb6⟩;have k1:=(hb6.cell (Zc k1)).trans k1;have k2:=(hb6.cell (Zc k2)).trans k2;have H6:=Qh hb6;clear hb6 FP)
 obtain ⟨w7,e7⟩:∃ W,W=w6.alloc (.cells #[.int .i64 PX,.int .i64 PY] 152 (0,0)):=⟨_,rfl⟩
 obtain ⟨q7,eq7⟩:∃ g,g=w6.heap.size:=⟨_,rfl⟩
 rw [←e7,←eq7]
 have JK:Below w6.heap.size w6 w7:=by rw [e7];exact Zg w6 _
 have m0:w7.cell? ⟨q7,0,none⟩=some (.int .i64 PX):=by rw [e7,eq7];exact Za (heap_alloc_new w6 _) 0 _ rfl
 have m1:w7.cell? ⟨q7,1,none⟩=some (.int .i64 PY):=by rw [e7,eq7];exact Za (heap_alloc_new w6 _) 1 _ rfl
 have k1:=(JK.cell (Zc k1)).trans k1
 have k2:=(JK.cell (Zc k2)).trans k2
 have Zb7:Below w5.heap.size w5 w7:=H6.out.trans (JK.mono H6.out.size)
 have Qy:Below w1.heap.size w1 w7:=HE.out.2.2.2.1.trans (Zb7.mono HE.out.2.2.2.1.size)
 have FC:=Zho PX PY q7 pA pn pc l w7 (H.out.2.2.1.below Qy) ⟨m0,m1⟩ ⟨HE.out.2.2.2.2,H.out.2.2.2.2.1⟩
 obtain ⟨N,eN⟩:∃ N,N=l.any (Q9 PX PY):=⟨_,rfl⟩
 rw [←eN] at FC
 have HN:=Qh (Qi eN Qy)
 clear e7 eq7 JK Zb7 Qy eN H6
 rcases PB with _ | _
 ·go_wp2_with fail
  go_ret
  refine ⟨?_,H.out.1.trans (HN.out.2.mono H.out.1.size)⟩
  obtain ⟨-,-,-,-,-,eO,eR⟩:=H.out
  rw [eR];unfold Qj;rw [←eO,HD.out,←HE.out.2.2.1];rfl
 ·go_wp2_with (go_at_call 92;refine FC.mono ?_;rintro e w8 ⟨rfl,hb8⟩;have H8:=Qh hb8;clear hb8 FC)
  go_ret
  refine ⟨?_,H.out.1.trans ((HN.out.2.trans (H8.out.mono HN.out.2.size)).mono H.out.1.size)⟩
  obtain ⟨-,-,-,-,-,eO,eR⟩:=H.out
  rw [eR];unfold Qj;rw [←eO,HD.out,←HE.out.2.2.1,←HE.out.1,←HE.out.2.1,←HN.out.1];rfl):p:=h
theorem Znm (cl:Int) (hcl:1≤cl∧cl≤8) (pA:Option Addr) (pn pc:Nat) (l:List (Int × Int)) (e:Ent) (A:Option Addr) (n c:Nat) (w:World) (h:Zo w A n c e.cs) (hv:XZ w pA pn pc l)
  (hp:InP (ZV e) (ZW e)) (hl:∀ q,q∈l→InP q.1 q.2) :
  Calls Tryz.prog 44 #[.agg #[.int .i64 cl,.slice pA pn pc],.agg #[.int .i64 e.id,.slice A n c]] w fun r w'=>r=.returned (.bool (Qj cl l e))∧Below w.heap.size w w':=by
 obtain ⟨id,cs⟩:=e
 obtain ⟨w1,e1⟩:∃ W,W=(w.alloc (.cells #[.int .i64 cl,.slice pA pn pc] 93 (0,0))).alloc (.cells #[.int .i64 id,.slice A n c] 70 (0,0)):=⟨_,rfl⟩
 obtain ⟨g,eg⟩:∃ g,g=w.heap.size:=⟨_,rfl⟩
 have hb:Below w.heap.size w w1:=by rw [e1];exact ZQ w _ _
 have hg0:w1.heap[g]?=some (.cells #[.int .i64 cl,.slice pA pn pc] 93 (0,0)):=by rw [e1,eg];exact ZZ w _ _
 have hg1:w1.heap[g+1]?=some (.cells #[.int .i64 id,.slice A n c] 70 (0,0)):=by rw [e1,eg];exact Z0 w _ _
 obtain ⟨f0,f1⟩:=cs2 hg0
 obtain ⟨f2,f3⟩:=cs2 hg1
 have FO:=Zez cl pA pn pc ⟨id,cs⟩ A n c w1 (h.below hb)
 obtain ⟨O,eO⟩:∃ O,O=QR cl ⟨id,cs⟩:=⟨_,rfl⟩
 obtain ⟨R,eR⟩:∃ R,R=Qj cl l ⟨id,cs⟩:=⟨_,rfl⟩
 rw [←eO] at FO
 rw [←eR]
 have H:=Qh (Qi hb (Qi (h.below hb) (Qi (hv.below hb) (Qi hp (Qi hl (Qi eO eR))))))
 clear hb hg0 hg1 h hv hp hl eO eR
 have hnn:decide (cl<0)=false:=decide_eq_false (by omega)
 go_enter Tryz.func44,Tryz.ntmps44
 go_upto_region 1 with fail
 rw [←e1,←eg]
 clear e1 eg
 rcases O with _ | _
 ·go_upto_region 4 with (go_at_call 42;refine FO.mono ?_;rintro e w2 ⟨rfl,hb2⟩;have g0:=(hb2.cell (Zc f0)).trans f0;have g1:=(hb2.cell (Zc f1)).trans f1;have g2:=(hb2.cell (Zc f2)).trans f2;have g3:=(hb2.cell (Zc f3)).trans f3;have H2:=Qh hb2;clear hb2 FO f0 f1 f2 f3)
  have FT:=Zep id A n c cs 5 w2 (H.out.2.1.below H2.out)
  rw [Zex,show ((5:Nat):Int)=5 from rfl] at FT
  obtain ⟨X,eX⟩:∃ X,X=((ZC 5 cs).getD Cmp.zero).v0:=⟨_,rfl⟩
  obtain ⟨B,eB⟩:∃ B,B=(ZC 5 cs).isSome:=⟨_,rfl⟩
  rw [←eX,←eB] at FT
  generalize ((ZC 5 cs).getD Cmp.zero).v1=z1 at FT
  generalize ((ZC 5 cs).getD Cmp.zero).v2=z2 at FT
  generalize ((ZC 5 cs).getD Cmp.zero).v3=z3 at FT
  have HE:=Qh (Qi eX eB)
  clear eX eB
  go_upto_region 5 with (go_at_call 90;refine FT.mono ?_;rintro e w3 ⟨rfl,hb3⟩;have g0:=(hb3.cell (Zc g0)).trans g0;have g1:=(hb3.cell (Zc g1)).trans g1;have g2:=(hb3.cell (Zc g2)).trans g2;have g3:=(hb3.cell (Zc g3)).trans g3;have H3:=Qh hb3;clear hb3 FT)
  obtain ⟨w4,e4⟩:∃ W,W=w3.alloc (.cells #[.int .i64 X,.int .i64 z1,.int .i64 z2,.int .i64 z3] 73 (0,0)):=⟨_,rfl⟩
  obtain ⟨q4,eq4⟩:∃ g,g=w3.heap.size:=⟨_,rfl⟩
  rw [←e4,←eq4]
  have X0:Below w3.heap.size w3 w4:=by rw [e4];exact Zg w3 _
  have k0:w4.cell? ⟨q4,0,none⟩=some (.int .i64 X):=by rw [e4,eq4];exact Za (heap_alloc_new w3 _) 0 _ rfl
  have k1:=(X0.cell (Zc g0)).trans g0
  have k2:=(X0.cell (Zc g1)).trans g1
  have k3:=(X0.cell (Zc g2)).trans g2
  have k4:=(X0.cell (Zc g3)).trans g3
  have ZaU:Below w1.heap.size w1 w4:=(H2.out.trans (H3.out.mono H2.out.size)).trans (X0.mono (by have:=H2.out.size;have:=H3.out.size;omega))
  have H4:=Qh (Qi ZaU HE.out)
  clear e4 eq4 X0 ZaU g0 g1 g2 g3 H2 H3 HE
  obtain ⟨T,eT⟩:∃ T,T=(bits BinOp.and IntKind.i64 X (wrap64 (2 ^ cl.toNat)) != 0):=⟨_,rfl⟩
  have tT:(bits BinOp.and IntKind.i64 X (wrap64 (2 ^ cl.toNat)) != 0)=T:=eT.symm
  have hHD:Zhp cl ⟨id,cs⟩=(B&&T):=by rw [eT,H4.out.2.1,H4.out.2.2];rfl
  have HD:=Qh hHD
  clear eT hHD
  rcases B with _ | _
  ·exact Tq7
  ·rcases T with _ | _
   ·exact Tq7
   ·go_quiet (fail)
    obtain ⟨w5,e5⟩:∃ W,W=w4.drewN nq:=⟨_,rfl⟩
    rw [←e5]
    have YZ:Below w4.heap.size w4 w5:=by rw [e5];exact below_drewN w4 nq
    have H5:=Qh YZ
    clear e5 YZ k0 k1 k2 k3 k4
    go_wp2_with fail
    go_ret
    refine ⟨?_,H.out.1.trans ((H4.out.1.trans (H5.out.mono H4.out.1.size)).mono H.out.1.size)⟩
    obtain ⟨-,-,-,-,-,eO,eR⟩:=H.out
    rw [eR];unfold Qj;rw [←eO,HD.out];rfl
 ·go_wp2_with (go_at_call 42;refine FO.mono ?_;rintro e w2 ⟨rfl,hb2⟩;have H2:=Qh hb2;clear hb2 FO f0 f1 f2 f3)
  go_ret
  refine ⟨?_,H.out.1.trans (H2.out.mono H.out.1.size)⟩
  obtain ⟨-,-,-,-,-,eO,eR⟩:=H.out
  rw [eR];unfold Qj;rw [←eO];rfl
end
end Go.Proofs.YtlgcfimhfmgkmaaGreatDoor
namespace Go.Proofs.YtlgcfimhfmgkmaaGreatDoor
open Go.RowKit
section
def ZeC (cl:Int) (e:Ent):Int:=if QR cl e then 4294967295 else 1310
theorem ZeD {fn:Func} {p u:Tmp} (h:fn.results=#[.cell p 70,.tmp u]) (tmps:Array Value) (w:World) (g:Nat) (cs:Array Value) (hn:cs.size=2)
  (hp:tmps.getD p undef=.pointer (some ⟨g,0,none⟩)) (hg:w.heap[g]?=some (.cells cs 70 (0,0))) :
  (results fn tmps).run Tryz.prog w=.ok (.tuple #[.agg cs,tmps.getD u undef]) w:=by
 have hp':tmps[p]?.getD undef=.pointer (some ⟨g,0,none⟩):=by simpa using hp
 have hi:(Tryz.prog.info? 70).map (·.size)=some cs.size:=by rw [hn];kernel_rfl
 have hl:=run_loadVar_row (P:=Tryz.prog) w g 70 70 cs (0,0) _ hg Tryz.underlying70 rfl hi
 simp [results,h,hp',asAddr,hl]
structure ZN (w:World) (g:Nat) (id:Int) (A:Option Addr) (n c:Nat) (W:World):Prop where
 out:Below g w W
 a:W.heap[g]?=some (.cells #[.int .i64 id,.slice A n c] 70 (0,0))
 r:∃ p q,W.heap[g+1]?=some (.cells #[p,q] 70 (0,0))
theorem ZN.drew {w W:World} {g:Nat} {id:Int} {A:Option Addr} {n c:Nat} (h:ZN w g id A n c W):ZN w g id A n c W.drew:=⟨h.out.drew,h.a,h.r⟩
theorem ZN.call {w W W':World} {g:Nat} {id:Int} {A:Option Addr} {n c:Nat} (h:ZN w g id A n c W) (hb:Below W.heap.size W W'):ZN w g id A n c W':=by
 obtain ⟨p,q,hr⟩:=h.r
 have ha:=Zh h.a
 exact ⟨h.out.trans (hb.mono (by omega)),(hb.block _ ha).trans h.a,⟨p,q,(hb.block _ (Zh hr)).trans hr⟩⟩
theorem ZN.set2 {w W:World} {g:Nat} {id:Int} {A:Option Addr} {n c:Nat} (x y:Value) (h:ZN w g id A n c W):ZN w g id A n c ((W.setCell ⟨g+1,0,none⟩ x).setCell ⟨g+1,1,none⟩ y):=by
 obtain ⟨p,q,hr⟩:=h.r
 exact ⟨YB x y h.out (by omega),(YE W (g+1) x y (by omega)).trans h.a,⟨x,y,Yw x y hr⟩⟩
theorem ZN.facts {w W:World} {g:Nat} {id:Int} {A:Option Addr} {n c:Nat} (h:ZN w g id A n c W):∃ p q,W.heap[g+1]?=some (.cells #[p,q] 70 (0,0))∧W.cell? ⟨g+1,0,none⟩=some p∧W.cell? ⟨g+1,1,none⟩=some q∧W.frozen? ⟨g+1,0,none⟩=false∧W.frozen? ⟨g+1,1,none⟩=false:=by
 obtain ⟨p,q,hr⟩:=h.r
 exact ⟨p,q,hr,Za hr 0 _ rfl,Za hr 1 _ rfl,Zd hr 0,Zd hr 1⟩
theorem Znn (cl:Int) (hcl:1≤cl∧cl≤8) (pA:Option Addr) (pn pc yb:Nat) (l:List (Int × Int)) (e:Ent) (A:Option Addr) (n c:Nat) (w:World) (h:Zo w A n c e.cs) (hv:XZ w pA pn pc l)
    (hy:w.cell? ⟨yb,0,none⟩=some (.int .i64 cl)∧w.cell? ⟨yb,1,none⟩=some (.slice pA pn pc)) (hp:InP (ZV e) (ZW e)) (hl:∀ q,q∈l→InP q.1 q.2) :
    Calls Tryz.prog 41 #[.agg #[.int .i64 e.id,.slice A n c],.pointer (some ⟨yb,0,none⟩)] w fun r w'=>∃ PA qn qc,r=.returned (.tuple #[.agg #[.int .i64 e.id,.slice PA qn qc],.bool (Qj cl l e)])∧(Zo w' PA qn qc (Qx (ZeC cl e) e.cs)∧∀ b o q,PA=some ⟨b,o,q⟩→w.heap.size≤b)∧Below w.heap.size w w':=by
  obtain ⟨w1,e1⟩:∃ W,W=(w.alloc (.cells #[.int .i64 e.id,.slice A n c] 70 (0,0))).alloc (.cells #[.int .i64 0,.slice none 0 0] 70 (0,0)):=⟨_,rfl⟩
  obtain ⟨g,eg⟩:∃ g,g=w.heap.size:=⟨_,rfl⟩
  have hb:Below w.heap.size w w1:=by rw [e1];exact ZQ w _ _
  have hg0:w1.heap[g]?=some (.cells #[.int .i64 e.id,.slice A n c] 70 (0,0)):=by rw [e1,eg];exact ZZ w _ _
  have hg1:w1.heap[g+1]?=some (.cells #[.int .i64 0,.slice none 0 0] 70 (0,0)):=by rw [e1,eg];exact Z0 w _ _
  have hB1:ZN w g e.id A n c w1:=⟨by rw [eg];exact hb,hg0,⟨_,_,hg1⟩⟩
  have FS:∀ W,ZN w g e.id A n c W→((W.cell? ⟨g,0,none⟩=some (.int .i64 e.id)∧W.cell? ⟨g,1,none⟩=some (.slice A n c))∧(W.cell? ⟨yb,0,none⟩=some (.int .i64 cl)∧W.cell? ⟨yb,1,none⟩=some (.slice pA pn pc)))∧ZN w g e.id A n c W:=fun W hW=>by
    have hbW:Below w.heap.size w W:=by rw [←eg];exact hW.out
    exact ⟨⟨⟨Za hW.a 0 _ rfl,Za hW.a 1 _ rfl⟩,(hbW.cell (Zc hy.1)).trans hy.1,(hbW.cell (Zc hy.2)).trans hy.2⟩,hW⟩
  obtain ⟨O,eO⟩:∃ O,O=QR cl e:=⟨_,rfl⟩
  obtain ⟨R,eR⟩:∃ R,R=Qj cl l e:=⟨_,rfl⟩
  obtain ⟨M,eM⟩:∃ M,M=ZeC cl e:=⟨_,rfl⟩
  have KO:∀ W,ZN w g e.id A n c W→Calls Tryz.prog 42 #[.agg #[.int .i64 cl,.slice pA pn pc],.agg #[.int .i64 e.id,.slice A n c]] W fun r w'=>r=.returned (.bool O)∧Below W.heap.size W w':=fun W hW=>by
    rw [eO];exact Zez cl pA pn pc e A n c W (h.below (by rw [←eg];exact hW.out))
  have KP:∀ W,ZN w g e.id A n c W→Calls Tryz.prog 43 #[.agg #[.int .i64 e.id,.slice A n c],.int .u32 M] W fun r w'=>∃ PA qn qc,r=.returned (.agg #[.int .i64 e.id,.slice PA qn qc])∧(Zo w' PA qn qc (Qx M e.cs)∧∀ b o q,PA=some ⟨b,o,q⟩→W.heap.size≤b)∧Below W.heap.size W w':=fun W hW=>
    Zna e M A n c W (h.below (by rw [←eg];exact hW.out))
  have KS:∀ W,ZN w g e.id A n c W→Calls Tryz.prog 44 #[.agg #[.int .i64 cl,.slice pA pn pc],.agg #[.int .i64 e.id,.slice A n c]] W fun r w'=>r=.returned (.bool R)∧Below W.heap.size W w':=fun W hW=>by
    rw [eR];exact Znm cl hcl pA pn pc l e A n c W (h.below (by rw [←eg];exact hW.out)) (hv.below (by rw [←eg];exact hW.out)) hp hl
  have eMO:M=if O then 4294967295 else 1310:=by rw [eM,eO];rfl
  rw [←eR,←eM]
  have F0:=KO w1 hB1
  obtain ⟨⟨⟨f0,f1⟩,f2,f3⟩,-⟩:=FS w1 hB1
  have HFS:=Qh FS
  have HKP:=Qh KP
  have HKS:=Qh KS
  have H:=Qh (Qi hB1 eg)
  have HM:=Qh eMO
  clear FS KO KP KS hB1 hb hg0 hg1 h hv hy hp hl eR eM eO eMO hcl
  go_enter Tryz.func41,Tryz.ntmps41
  go_upto_region 1 with fail
  rw [←e1,←eg]
  clear e1 eg
  rcases O with _ | _
  all_goals
    have hM:=HM.out
    simp only [if_true,Bool.false_eq_true,if_false] at hM
    subst hM
    go_upto_region 4 with (go_at_call 42;refine F0.mono ?_;rintro r w2 ⟨rfl,hb2⟩;have B2:=H.out.1.call hb2;have H2:=Qh B2;clear hb2 F0 f0 f1 f2 f3)
    obtain ⟨⟨⟨k0,k1⟩,k2,k3⟩,-⟩:=HFS.out _ B2
    go_region_held3 (fun W=>((W.cell? ⟨g,0,none⟩=some (.int .i64 e.id)∧W.cell? ⟨g,1,none⟩=some (.slice A n c))∧(W.cell? ⟨yb,0,none⟩=some (.int .i64 cl)∧W.cell? ⟨yb,1,none⟩=some (.slice pA pn pc)))∧ZN w g e.id A n c W)
      ((refine HFS.out _ ?_;repeat (first | with_reducible assumption | with_reducible exact (And.right (by with_reducible assumption)) | with_reducible apply ZN.drew | with_reducible apply ZN.set2)))
      (first
      | (refine Zbs 43 [.tmp 9,.tmp 10] _ rfl rfl (fun _ _=>rfl) _ rfl (HKP.out _ (And.right (by with_reducible assumption))) ?_
         rintro r wq ⟨PA,qn,qc,rfl,hPC,hbq⟩
         refine ⟨_,rfl,?_⟩
         have hbw:ZN w g e.id A n c wq:=ZN.call (And.right (by with_reducible assumption)) hbq
         obtain ⟨x4,x5,-,⟨m4,m5,m6,m7⟩⟩:=hbw.facts
         have HPC:=Qh (Qi hPC hbq)
         clear hbq hPC)
      | (refine Zbs 44 [.tmp 12,.tmp 13] _ rfl rfl (fun _ _=>rfl) _ rfl (HKS.out _ (And.right (by with_reducible assumption))) ?_
         rintro r wz ⟨rfl,hbz⟩
         refine ⟨_,rfl,?_⟩
         have hbw:ZN w g e.id A n c wz:=ZN.call (And.right (by with_reducible assumption)) hbz
         obtain ⟨x4,x5,-,⟨m4,m5,m6,m7⟩⟩:=hbw.facts
         have HBZ:=Qh hbz
         clear hbz))
    all_goals go_wp2_with fail
    obtain ⟨⟨hC,hlow⟩,hbq⟩:=HPC.out
    obtain ⟨p2,q2,hr2⟩:=H2.out.r
    have hl2:=Zh hr2
    obtain ⟨p3,q3,hr⟩:=hbw.r
    have hC2:=hC.below HBZ.out
    have eg:=H.out.2
    have hout:Below w.heap.size w wz:=by rw [←eg];exact hbw.out
    refine bodyPost_ret (ZeD rfl _ _ (g+1) _ rfl rfl (Yw (.int .i64 e.id) (.slice PA qn qc) hr)) rfl ?_
    refine ⟨PA,qn,qc,rfl,⟨hC2.stepA (fun b o m hA _=>YE _ _ _ _ ?_),fun b o m hA=>by have:w2.heap.size≤b:=hlow b o m hA;omega⟩,YB _ _ hout (by omega)⟩
    have:w2.heap.size≤b:=hlow b o m hA
    omega
end
end Go.Proofs.YtlgcfimhfmgkmaaGreatDoor
namespace Go.Proofs.YtlgcfimhfmgkmaaGreatDoor
open Go.RowKit
section
theorem Zo.stepN {w w':World} {A:Option Addr} {n cap:Nat} {l:List Cmp} (h:Zo w A n cap l) (hb:l≠[]→∀ b o m,A=some ⟨b,o,m⟩→b<w.heap.size→w'.heap[b]?=w.heap[b]?):Zo w' A n cap l:=by
 refine ⟨h.len,fun j p hj=>?_,h.nil,h.lim,h.kind⟩
 obtain ⟨b,o,e,hc⟩:=h.at_ j p hj
 exact ⟨b,o,e,hc.step (hb (by rintro rfl;simp at hj) b o none e (Zc hc.c0))⟩
theorem Zo.lt {w:World} {A:Option Addr} {n cap:Nat} {l:List Cmp} (h:Zo w A n cap l) (hl:l≠[]):∀ b o m,A=some ⟨b,o,m⟩→b<w.heap.size:=by
 intro b o m hA
 rcases l with _|⟨x,l⟩
 ·exact absurd rfl hl
 ·obtain ⟨b',o',e,hc⟩:=h.at_ 0 x rfl
  rw [hA] at e
  injection e with e
  injection e with e
  rw [e];exact Zc hc.c0
def Zbx (cl:Int) (e:Ent):Ent:=⟨e.id,Qx (ZeC cl e) e.cs⟩
def Ql (cl:Int) (l:List (Int × Int)) (es:List Ent):List Ent:=(es.filter (Qj cl l)).map (Zbx cl)
theorem Zno (cl:Int) (l:List (Int × Int)) (es:List Ent) (j:Nat) (x:Ent) (h:es[j]?=some x):Ql cl l (es.take (j+1))=Ql cl l (es.take j)++(if Qj cl l x=true then [Zbx cl x] else []):=by
 rw [Zhn h]
 unfold Ql
 rw [List.filter_append,List.map_append]
 congr 1
 rcases hb:Qj cl l x with _ | _<;>simp [List.filter_cons,hb]
theorem ZaV (cl:Int) (l:List (Int × Int)) (es:List Ent):(Ql cl l es).length≤es.length:=by
 unfold Ql;rw [List.length_map];exact List.length_filter_le _ _
structure FE (w W:World) (ov:Value) (rs:List ER):Prop where
 own:W.ownsRow w.heap.size 70 2 ov rs.length (ers rs)
 row:∀ r,r∈rs→Zo W r.A r.n r.c r.e.cs
 dis:∀ r,r∈rs→r.e.cs≠[]→∀ b o m,r.A=some ⟨b,o,m⟩→ov.ownBlock≠some b
 low:∀ r,r∈rs→∀ b o m,r.A=some ⟨b,o,m⟩→w.heap.size≤b
 out:Below w.heap.size w W
theorem FE.below {w W W':World} {ov:Value} {rs:List ER} (h:FE w W ov rs) (hb:Below W.heap.size W W'):FE w W' ov rs:=
 ⟨ZaO h.own (fun q hq=>hb.block q hq),fun r hr=>(h.row r hr).below hb,h.dis,h.low,h.out.trans (hb.mono h.out.size)⟩
theorem FE.push {w W W5:World} {ov v5:Value} {rs:List ER} {t:ER} (O:Obj) (h:FE w W ov rs) (ht:Zo W t.A t.n t.c t.e.cs) (htd:t.e.cs≠[]→∀ b o m,t.A=some ⟨b,o,m⟩→ov.ownBlock≠some b) (htl:∀ b o m,t.A=some ⟨b,o,m⟩→w.heap.size≤b)
  (hg5:(W.alloc O).grownBy W5 ov.ownBlock) (hown:W5.ownsRow w.heap.size 70 2 v5 (rs.length+1) (ers rs++t.cells)) (hblk:v5.ownBlock=ov.ownBlock∨v5.ownBlock=some (W.heap.size+1)):FE w W5 v5 (rs++[t]):=by
 have k:∀ q,q<W.heap.size→ov.ownBlock≠some q→W5.heap[q]?=W.heap[q]?:=fun q hq hne=>(hg5.block q (by simp;omega) (by intro e;exact hne e.symm)).trans (Below.heap_alloc _ _ _ hq)
 have hrow:∀ r,r∈rs++[t]→Zo W r.A r.n r.c r.e.cs:=fun r hr=>by
  rcases List.mem_append.1 hr with hr | hr
  ·exact h.row r hr
  ·rw [List.mem_singleton.1 hr];exact ht
 have Zhq:∀ r,r∈rs++[t]→r.e.cs≠[]→∀ b o m,r.A=some ⟨b,o,m⟩→ov.ownBlock≠some b:=fun r hr=>by
  rcases List.mem_append.1 hr with hr | hr
  ·exact h.dis r hr
  ·rw [List.mem_singleton.1 hr];exact htd
 refine ⟨by rw [ZcV,List.length_append];exact hown,fun r hr=>(hrow r hr).stepN fun hne b o m hA hl=>k b hl (Zhq r hr hne b o m hA),fun r hr hne b o m hA=>?_,fun r hr=>?_,?_⟩
 ·rcases hblk with e | e
  ·rw [e];exact Zhq r hr hne b o m hA
  ·rw [e]
   have:=(hrow r hr).lt hne b o m hA
   intro e2
   injection e2 with e2
   omega
 ·rcases List.mem_append.1 hr with hr | hr
  ·exact h.low r hr
  ·rw [List.mem_singleton.1 hr];exact htl
 ·exact (h.out.alloc h.out.size O).grown hg5 (by have:=h.out.size;simp;omega) (fun q hq=>(Yg h.own hq).2)
theorem Znp (eid:Int) (hcl:1≤eid∧eid≤8) (ps:List (Int × Int)) (pA:Option Addr) (pn pc yb:Nat) (A:Option Addr) (n cap:Nat) (l:List Ent) (w:World) (h:Zj w A n cap l) (hv:XZ w pA pn pc ps) (hps:∀ q,q∈ps→InP q.1 q.2) (hin:∀ e,e∈l→InP (ZV e) (ZW e))
  (hy:w.cell? ⟨yb,0,none⟩=some (.int .i64 eid)∧w.cell? ⟨yb,1,none⟩=some (.slice pA pn pc)) :
  Calls Tryz.prog 40 #[.slice A n cap,.func (.func 41) #[] #[.pointer (some ⟨yb,0,none⟩)]] w fun e w'=>∃ v rs,e=.returned v∧rs.map ER.e=Ql eid ps l∧FE w w' v rs:=by
 obtain ⟨i9,hi9,hz0,hz1,hz2⟩:=info_parts Zb1
 have HI:=Qh (Qi hi9 (Qi hz0 (Qi hz1 hz2)))
 have H:=Qh (Qi h (Qi hy (Qi hv (Qi hps hin))))
 clear h hy hv hps hin hi9 hz0 hz1 hz2
 go_enter Tryz.func40,Tryz.ntmps40
 go_wp2_with fail
 go_loopg [5,12] n (fun gh ov iv wr=>∃ (j:Nat) (rs:List ER),gh+j=n∧iv=.int .i64 (j:Nat)∧rs.map ER.e=Ql eid ps (l.take j)∧FE w wr ov rs)
 case atStart=>exact ⟨0,[],rfl,rfl,rfl,⟨⟨rfl,Or.inl ⟨rfl,rfl⟩⟩,by simp,by simp,by simp,Below.refl _ _⟩⟩
 case round=>
  obtain ⟨j,rs,hg,rfl,hrs,hFE⟩:=hrel
  obtain ⟨W,eW⟩:∃ W,W=wr:=⟨_,rfl⟩
  rw [←eW] at hFE ⊢
  clear eW
  have hW:=hFE.out
  have h:=H.out.1
  have hlen:=h.len
  have hlim:=h.lim
  by_cases hlt:j<n
  ·obtain ⟨x,hx⟩:∃ x,l[j]?=some x:=⟨_,List.getElem?_eq_getElem (by omega)⟩
   have i0:(0:Int)≤(j:Int):=by omega
   have i1:(j:Int)<(n:Int):=by omega
   have i2:decide (j<n)=true:=decide_eq_true hlt
   have w2:wrap64 ((j:Int)+1)=(j:Int)+1:=Zn _ (by omega) (by omega)
   obtain ⟨b,o,CA,cn,cc,rfl,⟨c0,c1⟩,hr⟩:=h.at_ j x hx
   have c0:=(Zm (hW.block b (Zc c0)) _).trans c0
   have c1:=(Zm (hW.block b (Zc c1)) _).trans c1
   have hr:=hr.below hW
   obtain ⟨W1,g1,e1,eg,⟨f0,f1⟩,hb1⟩:=Zaa W x.id CA cn cc
   have hy:=H.out.2.1
   have Zag:Below w.heap.size w W1:=hW.trans (hb1.mono hW.size)
   have F:=Znn eid hcl pA pn pc yb ps x CA cn cc W1 (hr.below hb1) (H.out.2.2.1.below Zag) ⟨(Zag.cell (Zc hy.1)).trans hy.1,(Zag.cell (Zc hy.2)).trans hy.2⟩ (H.out.2.2.2.2 x (List.mem_of_getElem? hx)) H.out.2.2.2.1
   obtain ⟨T,eT⟩:∃ T,T=Qj eid ps x:=⟨_,rfl⟩
   have hm:=Zno eid ps l j x hx
   rw [←eT] at F hm
   rw [←hrs] at hm
   have hle:rs.length≤j:=by
    have:=ZaV eid ps (l.take j)
    rw [←hrs,List.length_map,List.length_take] at this
    omega
   have HX:=Qh (Qi hlt (Qi hg (Qi hb1 (Qi hFE (Qi hm hle)))))
   clear hlt hg hW hb1 Zag hFE hrs hm hle hx hy hr h hlen hlim eT
   go_upto_region 5 with fail
   rw [←e1,←eg]
   clear e1 eg
   go_upto_region 6 with (go_at_call 41;refine F.mono ?_;rintro e w2 ⟨PA,qn,qc,rfl,hPC,hb2⟩;have H2:=Qh (Qi hPC hb2);clear hPC hb2)
   obtain ⟨w3,e3⟩:∃ w3,w3=w2.alloc (.cells #[.int .i64 x.id,.slice PA qn qc] 70 (0,0)):=⟨_,rfl⟩
   obtain ⟨g3,eg3⟩:∃ g,g=w2.heap.size:=⟨_,rfl⟩
   rw [←e3,←eg3]
   have hg3:w3.heap[g3]?=some (.cells #[.int .i64 x.id,.slice PA qn qc] 70 (0,0)):=by rw [e3,eg3];exact heap_alloc_new w2 _
   have ZK:Below w2.heap.size w2 w3:=by rw [e3];exact Zg w2 _
   obtain ⟨hlt,hg,hb1,hFE,hm,hle⟩:=HX.out
   have Zt:Below W.heap.size W w2:=hb1.trans (H2.out.2.mono hb1.size)
   have Yi:Below W.heap.size W w3:=Zt.trans (ZK.mono Zt.size)
   obtain ⟨k0,k1⟩:=cs2 hg3
   have Zah:=hFE.below Yi
   have hC3:=H2.out.1.1.below ZK
   have hD3:∀ b o m,PA=some ⟨b,o,m⟩→u5.ownBlock≠some b:=fun b o m hA e=>by
    have h1:=H2.out.1.2 b o m hA
    have h2:=Yg hFE.own e
    have:=hb1.size
    omega
   have hL3:∀ b o m,PA=some ⟨b,o,m⟩→w.heap.size≤b:=fun b o m hA=>by
    have h1:=H2.out.1.2 b o m hA
    have:=hb1.size
    have:=hFE.out.size
    omega
   have hlim:=H.out.1.lim
   have hlen:=H.out.1.len
   rcases T with _ | _
   ·have HY:=Qh (Qi hlt (Qi hg (Qi Zah hm)))
    clear HX H2 e3 eg3 hg3 ZK hlt hg hb1 hFE hm hle Zt Yi Zah hC3 hD3 hL3 hlim hlen F f0 f1 c0 c1 hr
    go_wp2_with fail
    go_roundg (n-(j+1))
    case measure=>have:=HY.out.1;have:=HY.out.2.1;omega
    case rel=>
     obtain ⟨hlt,hg,Zah,hm⟩:=HY.out
     refine ⟨j+1,rs,by omega,by go_num,?_,Zah⟩
     rw [hm,if_neg (by simp),List.append_nil]
   ·have HN2:=Qh (show ∀ u,u=w3.heap.size→∀ j v,(ER.cells ⟨Zbx eid x,PA,qn,qc⟩)[j]?=some v→(w3.alloc (.cells #[.int .i64 x.id,.slice PA qn qc] 70 (0,0))).cell? ((⟨u,0,none⟩:Addr).add j)=some v from fun u hu=>XC _ _ _ _ hu)
    have HN4:=Qh (show rs.length+1≤maxLen∧(rs.length+1)*32≤140737488355328 from by unfold maxLen;omega)
    have HN5:=Qh (show ∀ A,w.heap.size≤(w3.alloc A).heap.size from fun A=>by have:=Zah.out.size;simp only [World.size_alloc];omega)
    have HO:=Qh Zah.own
    have HY:=Qh (Qi hlt (Qi hg (Qi hm (Qi Zah (Qi hC3 (Qi hD3 hL3))))))
    clear HX H2 e3 eg3 hg3 ZK hlt hg hb1 hFE hm hle Zt Yi Zah hC3 hD3 hL3 hlim hlen F f0 f1 c0 c1 hr
    go_wp2_with (at_builtin;refine wpList_append_own_at _ rfl (.tmp 23) (.tmp 25) 22 rfl w.heap.size 70 i9 _ 2 32 Tryz.underlying22 HI.out.1 HI.out.2.1 HI.out.2.2.1 HI.out.2.2.2 rfl (by decide) u5 rs.length (ers rs) rfl (HO.out.alloc _) ⟨w3.heap.size,0,none⟩ 1 1 (ER.cells ⟨Zbx eid x,PA,qn,qc⟩) rfl rfl (HN2.out _ rfl) (ZaP _) HN4.out.1 HN4.out.2 (HN5.out _) ?_)
    intro v5 w5 hown5 hg5 _ hblk
    have HV:=Qh (HY.out.2.2.2.1.push (t:=⟨Zbx eid x,PA,qn,qc⟩) _ HY.out.2.2.2.2.1 (fun _=>HY.out.2.2.2.2.2.1) HY.out.2.2.2.2.2.2 hg5 hown5 hblk)
    clear hown5 hg5 hblk
    go_wp2_with fail
    go_roundg (n-(j+1))
    case measure=>have:=HY.out.1;have:=HY.out.2.1;omega
    case rel=>
     obtain ⟨hlt,hg,hm,-⟩:=HY.out
     refine ⟨j+1,_,by omega,by go_num,?_,HV.out⟩
     rw [hm,if_pos trivial,List.map_append];rfl
  ·have i2:decide (j<n)=false:=decide_eq_false hlt
   have ht:l.take j=l:=List.take_of_length_le (by omega)
   rw [ht] at hrs
   have HX:=Qh (Qi hrs hFE)
   clear hlt hW hg h hlen hlim hrs hFE ht
   go_wp2_with fail
   go_ret
   exact ⟨_,rs,rfl,HX.out.1,HX.out.2⟩
end
end Go.Proofs.YtlgcfimhfmgkmaaGreatDoor
