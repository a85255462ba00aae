/- Lemmas for the statement. -/
import Derived.Test.YtlgcfimhfmgkmaaGreatDoorMBP
import Derived.Test.YtlgcfimhfmgkmaaGreatDoorMBM
set_option linter.unusedVariables false
set_option linter.unusedSimpArgs false
set_option maxRecDepth 100000
set_option maxHeartbeats 8000000
namespace Go.Proofs.YtlgcfimhfmgkmaaGreatDoor
open Go.RowKit
section
def ZqU:Value:=.agg #[.int .i64 0,.int .i64 0,.int .i64 0,.slice none 0 0]
def Zcw (r:Rcv):Bool:=!(!(XI r) || decide (r.last=0))
def ZqV (w w':World) (r:Rcv) (v:Value):Prop:=
 (Zcw r=false∧v=.tuple #[ZqU,.bool false]∧Below w.heap.size w w') ∨
 (Zcw r=true∧∃ x RA rn rc,r.log.getLast?=some x∧v=.tuple #[Zau x RA rn rc,.bool true]∧Zj w' RA rn rc x.es∧Below w.heap.size w w')
theorem ZqW (r:Rcv) (LA:Option Addr) (ln lc:Nat) (w:World) (hT:Tabs w) (hL:Zy w LA ln lc r.log) (hes:∀ x,x∈r.log→x.es.length≤12) :
  Calls Tryz.prog 22 #[.agg #[.int .i64 r.base,.int .i64 r.last,.slice LA ln lc]] w fun e w'=>∃ v,e=.returned v∧ZqV w w' r v:=by
 obtain ⟨w1,g,e1,eg,hg,hz,hb⟩:∃ W q,W=(w.alloc (.cells #[.int .i64 r.base,.int .i64 r.last,.slice LA ln lc] 38 (0,0))).alloc (.cells #[.int .i64 0,.int .i64 0,.int .i64 0,.slice none 0 0] 45 (0,0))∧q=w.heap.size∧W.heap[q]?=some (.cells #[.int .i64 r.base,.int .i64 r.last,.slice LA ln lc] 38 (0,0))∧W.heap[q+1]?=some (.cells #[.int .i64 0,.int .i64 0,.int .i64 0,.slice none 0 0] 45 (0,0))∧Below w.heap.size w W:=⟨_,_,rfl,rfl,ZZ w _ _,Z0 w _ _,ZQ w _ _⟩
 obtain ⟨V,eV⟩:∃ V,V=XI r:=⟨_,rfl⟩
 obtain ⟨D,eD⟩:∃ D,D=decide (r.last=0):=⟨_,rfl⟩
 have F1:=Zjt r.base r.last r.log LA ln lc w1 (hT.below hb) (hL.below hb)
 rw [show XI ⟨r.base,r.last,r.log⟩=V from eV.symm] at F1
 obtain ⟨f0,f1,f2⟩:=cs3 hg
 have d0:(r.last==0)=D:=by rw [eD];rfl
 have d1:decide (r.last=0)=D:=eD.symm
 have HL:=Qh (Qi hL (Qi hes (show Zcw r=!(!V || D) from by unfold Zcw;rw [eV,eD])))
 have HV:=Qh (Qi eV eD)
 have H:=Qh (Qi hg (Qi hz hb))
 have HG:=Qh (show w.heap.size≤g from Nat.le_of_eq eg.symm)
 have E1:=Qh (Qi e1 eg)
 clear hT hL hes eV eD hg hz hb e1 eg
 go_enter Tryz.func22,Tryz.ntmps22
 go_upto_region 1 with fail
 rw [←E1.out.1,←E1.out.2]
 clear E1
 go_cut [11] (fun v wx=>v=.bool (!V || D)∧Below w1.heap.size w1 wx)
 case first=>
  rcases V with _ | _<;>rcases D with _ | _
  all_goals
   go_wp2_with (go_at_call 23;refine F1.mono ?_;rintro e w2 ⟨rfl,hb2⟩;have k1:=(hb2.cell (Zc f1)).trans f1;have H2:=Qh hb2;clear hb2)
   go_meet
   exact ⟨rfl,H2.out⟩
 case rest=>
 obtain ⟨rfl,hb2⟩:=hcut
 obtain ⟨w2,e2⟩:∃ W,W=wc:=⟨_,rfl⟩
 rw [←e2] at hb2 ⊢
 clear e2 f0 f1 f2 F1 d0 d1
 have hg2:=(hb2.block _ (lt_of_block H.out.1)).trans H.out.1
 have hz2:=(hb2.block _ (lt_of_block H.out.2.1)).trans H.out.2.1
 have hfz:=fun i=>Zd hz2 i
 obtain ⟨z0,z1,z2,z3⟩:=cs4 hz2
 have H2:=Qh (Qi hg2 (Qi hz2 (Ze H.out.2.2 hb2)))
 obtain ⟨B,eB⟩:∃ B,B=(!V || D):=⟨_,rfl⟩
 rw [←eB]
 have HB:=Qh eB
 clear eB hg2 hz2 hb2
 have HGG:=Qh (show w.heap.size≤g+1 from by have:=HG.out;omega)
 rcases B with _ | _
 rotate_left
 ·go_wp2_with fail
  refine bodyPost_ret (ZbH rfl _ _ (g+1) _ rfl rfl (Zac (.int .i64 0) (.int .i64 0) (.int .i64 0) (.slice none 0 0) H2.out.2.1)) rfl ?_
  exact ⟨_,rfl,.inl ⟨by rw [HL.out.2.2,←HB.out];rfl,rfl,Jp _ _ _ _ H2.out.2.2 HGG.out⟩⟩
 have hV:V=true∧D=false:=by
  have:=HB.out
  rcases V with _ | _<;>rcases D with _ | _<;>simp at this ⊢
 obtain ⟨rfl,rfl⟩:=hV
 have hlr:=ZaE HV.out.1.symm
 have hne:r.log≠[]:=by
  intro e
  have h:=HV.out.1.symm
  unfold XI at h
  rw [Bool.and_eq_true,if_neg (of_decide_eq_false HV.out.2.symm),e] at h
  have:=h.2
  simp [lastB] at this
 obtain ⟨m,em⟩:∃ m,r.log.length=m+1:=⟨r.log.length-1,by have:=List.length_pos_iff.2 hne;omega⟩
 have hlast:r.log.getLast?=r.log[m]?:=by rw [List.getLast?_eq_getElem?,em];rfl
 obtain ⟨x,hx⟩:∃ x,r.log[m]?=some x:=⟨_,List.getElem?_eq_getElem (by omega)⟩
 have hL2:=HL.out.1.below H2.out.2.2
 obtain ⟨b,o,CA,cn,cc,eA,⟨c0,c1,c2,c3⟩,hC⟩:=hL2.at_ m x hx
 have hln:ln=m+1:=by rw [hL2.len,em]
 have hlc:m+1≤lc:=by rw [←hln];exact hL2.le
 subst eA hln
 have hLx:Zy w2 (some ⟨b,o+m*4,none⟩) 1 (lc-m) [x]:=by
  refine ⟨rfl,fun j y hj=>?_,fun e=>(by cases e),(by omega),(by omega)⟩
  rcases j with _ | j
  ·injection hj with hj
   subst hj
   exact ⟨b,o+m*4,CA,cn,cc,rfl,⟨by rw [Nat.zero_mul,Nat.add_zero];exact c0,by rw [Nat.zero_mul,Nat.add_zero];exact c1,by rw [Nat.zero_mul,Nat.add_zero];exact c2,by rw [Nat.zero_mul,Nat.add_zero];exact c3⟩,hC⟩
  ·simp at hj
 have FLg:=Zdy (some ⟨b,o+m*4,none⟩) 1 (lc-m) [x] w2 hLx (by omega) (fun y hy=>by
  have:y=x:=by simpa using hy
  rw [this]
  have:=HL.out.2.1 x (List.mem_of_getElem? hx)
  omega)
 have f2:w2.cell? ⟨g,2,none⟩=some (.slice (some ⟨b,o,none⟩) (m+1) lc):=Za H2.out.1 2 _ rfl
 have u0:wrap64 (((m+1:Nat):Int)-1)=(m:Int):=by rw [Zn _ (by have:=hlr.2.1;omega) (by have:=hlr.2.1;omega)];omega
 have u1:wrap64 ((m:Int)+1-1)=(m:Int):=by rw [Zn _ (by have:=hlr.2.1;omega) (by have:=hlr.2.1;omega)];omega
 have u2:wrap64 (m:Int)=(m:Int):=Zn _ (by omega) (by have:=hlr.2.1;omega)
 have b0:(0:Int)≤(m:Int):=by omega
 have b1:(m:Int)≤((m+1:Nat):Int):=by omega
 have b2:(m:Int)≤(m:Int)+1:=by omega
 have b3:((m+1:Nat):Int)≤(lc:Int):=by omega
 have b4:¬ lc=m:=by omega
 have b5:m+1-m=1:=by omega
 have HX:=Qh (Qi hx (Qi hlast hC))
 clear hlr hne em hlast hx hL2 c0 c1 c2 c3 hC hlc hLx z0 z1 z2 z3 hfz HV
 go_wp2_with (
  go_at_call 59
  refine FLg.mono ?_
  rintro e w3 ⟨v,ls,rfl,hls,hS⟩
  obtain ⟨y,rfl,hy⟩:∃ y,ls=[y]∧y.r=x:=(by
   rcases ls with _|⟨y,_|⟨z,l⟩⟩<;>simp at hls
   exact ⟨y,rfl,hls⟩)
  have hO:w3.ownsRow w2.heap.size 45 4 v (0+1) (lrs [y]):=hS.head
  obtain ⟨gl,cl,ev⟩:=ownsRow_succ hO
  subst ev
  have c0:w3.cell? ⟨gl,0,none⟩=some (.int .i64 y.r.num):=(hO.cellAt 0 (by decide)).trans rfl
  have c1:w3.cell? ⟨gl,1,none⟩=some (.int .i64 y.r.base):=(hO.cellAt 1 (by decide)).trans rfl
  have c2:w3.cell? ⟨gl,2,none⟩=some (.int .i64 y.r.tick):=(hO.cellAt 2 (by decide)).trans rfl
  have c3:w3.cell? ⟨gl,3,none⟩=some (.slice y.A y.n y.c):=(hO.cellAt 3 (by decide)).trans rfl
  have hz3:=(hS.bel.block _ (lt_of_block H2.out.2.1)).trans H2.out.2.1
  have hfz:=fun i=>Zd hz3 i
  obtain ⟨z0,z1,z2,z3⟩:=cs4 hz3
  have H3:=Qh (Qi hS (Qi hy hz3))
  clear hls hS FLg hO hy hz3)
 refine bodyPost_ret (ZbH rfl _ _ (g+1) _ rfl rfl (Zac (.int .i64 y.r.num) (.int .i64 y.r.base) (.int .i64 y.r.tick) (.slice y.A y.n y.c) H3.out.2.2)) rfl ?_
 have hrow:Zj (JE w3 (g+1) (.int .i64 y.r.num) (.int .i64 y.r.base) (.int .i64 y.r.tick) (.slice y.A y.n y.c)) y.A y.n y.c y.r.es:=(H3.out.1.sep.1 (lrP y) (.tail _ (.head _))).same _ (fun q hq=>ZgP _ _ _ _ _ _ (by have h1:=H3.out.1.base (lrP y) (.tail _ (.head _)) q hq;have h2:=lt_of_block H2.out.2.1;omega)) (Jp (B:=g+1) _ _ _ _ (Below.refl _ _) (Nat.le_refl _)).size
 refine ⟨_,rfl,.inr ⟨by rw [HL.out.2.2];rfl,y.r,y.A,y.n,y.c,by rw [HX.out.2.1,HX.out.1,H3.out.2.1],rfl,hrow,Jp _ _ _ _ (Ze H2.out.2.2 H3.out.1.bel) HGG.out⟩⟩
theorem Receive_short (Y:RI) (PA:Option Addr) (pn pc:Nat) (t:Int) (fs:List Ent) (w:World) (hg:Y.g=w.heap.size) (hT:Tabs w) (hL:Zy w Y.LA Y.ln Y.lc Y.r.log) (hP:Z8 w (some ⟨Y.pb,Y.po,none⟩) Y.pn Y.f) (hpn:pn<8) :
  Calls Tryz.prog 14 #[.agg #[.int .i64 Y.r.base,.int .i64 Y.r.last,.slice Y.LA Y.ln Y.lc],.slice PA pn pc] w fun e w'=>∃ v,e=.returned v∧ZfF w w' Y.r pn Y.f t fs v:=by
 have hmx:Tryz.prog.follows .mixedOrders=true:=by kernel_rfl
 obtain ⟨w1,e1,hE1,hb1⟩:∃ W,W=((w.alloc (.cells #[.int .i64 Y.r.base,.int .i64 Y.r.last,.slice Y.LA Y.ln Y.lc] 38 (0,0))).alloc (.cells #[.int .i64 0,.int .i64 0,.slice none 0 0] 38 (0,0))).alloc (.cells #[.int .i64 0,.slice none 0 0] 24 (0,0))∧RE W Y∧Below w.heap.size w W:=by
  exact Tq33
 obtain ⟨V,eV⟩:∃ V,V=XI Y.r:=⟨_,rfl⟩
 have F1:=Zjt Y.r.base Y.r.last Y.r.log Y.LA Y.ln Y.lc w1 hE1.T hE1.L
 rw [show XI ⟨Y.r.base,Y.r.last,Y.r.log⟩=V from eV.symm] at F1
 obtain ⟨f0,f1,f2⟩:=cs3 hE1.hr
 have HGL:=Qh (show w.heap.size≤Y.g from by rw [hg];exact Nat.le_refl _)
 have H:=Qh (Qi hE1 hb1)
 have HP8:=Qh hpn
 have HVV:=Qh eV
 have HG:=Qh hg
 have HW1:=Qh e1
 clear e1 hg hE1 hb1 hT hL hP hpn eV
 go_enter Tryz.func14,Tryz.ntmps14
 go_upto_region 1 with fail
 rw [←HW1.out,←HG.out]
 clear HW1
 rcases V with _ | _
 ·exact Tq14
 have d8:decide ((pn:Int)<8)=true:=decide_eq_true (by have:=HP8.out;omega)
 go_upto_region 4 with (go_at_call 23;refine F1.mono ?_;rintro e w2 ⟨rfl,hb2⟩;have H2:=Qh hb2;clear hb2)
 clear f0 f1 f2 F1 d8
 have HE2:=Qh (H.out.1.below H2.out)
 have hz:=HE2.out.hz
 have hw:=HE2.out.hw
 obtain ⟨z0,z1,z2⟩:=cs3 hz
 obtain ⟨y0,y1⟩:=cs2 hw
 have hfz:=fun i=>Zd hz i
 have hfw:=fun i=>Zd hw i
 have HZ:=Qh hz
 have HW:=Qh hw
 clear hz hw
 go_wp2_with fail
 refine bodyPost_ret (Zcv rfl _ _ (Y.g+1) (Y.g+2) _ _ rfl rfl rfl rfl (Zct (.int .i64 0) (.int .i64 0) (.slice none 0 0) (.int .i64 0) (.slice none 0 0) HZ.out) (Zcu (.int .i64 0) (.int .i64 0) (.slice none 0 0) (.int .i64 0) (.slice none 0 0) HW.out)) rfl ?_
 exact ⟨_,rfl,.inl ⟨261,recvE_8 HVV.out.symm HP8.out,rfl,ZbL _ _ _ _ _ (Ze H.out.2 H2.out) HGL.out⟩⟩
end
end Go.Proofs.YtlgcfimhfmgkmaaGreatDoor
namespace Go.Proofs.YtlgcfimhfmgkmaaGreatDoor
open Go.RowKit
section
def b4N (n:Nat):List Nat:=[n / 16777216,n / 65536 % 256,n / 256 % 256,n % 256]
def ZaG (X:TV) (k:Nat):List Nat:=b4N X.s.next.toNat++(b4N X.s.acked.toNat++(List.range (Zk (ZB X k))).map (M.byteOf (ZB X k)))
def YD (X:TV) (k i:Nat):Nat:=(ZaG X k).getD i 0
def ZfI (x:Nat):Value:=.int .u8 ((x:Nat):Int)
theorem Zjz (X:TV) (k:Nat):X7 X k=(ZaG X k).map ZfI:=by
 unfold X7 ZaG
 rw [List.map_append,List.map_append]
 congr 1
 congr 1
 unfold byV
 rw [List.map_map]
 rfl
theorem ZjA (X:TV) (k:Nat):(ZaG X k).length=8+Zk (ZB X k):=by
 unfold ZaG b4N
 simp only [List.length_append,List.length_cons,List.length_nil,List.length_map,List.length_range]
 omega
theorem ZjB {n:Nat} (h:n<4294967296):n / 16777216*16777216+n / 65536 % 256*65536+n / 256 % 256*256+n % 256=n:=by omega
theorem ZjC (X:TV) (k:Nat) (h:X.s.next.toNat<4294967296):n4 (YD X k) 0=X.s.next.toNat:=ZjB h
theorem ZjD (X:TV) (k:Nat) (h:X.s.acked.toNat<4294967296):n4 (YD X k) 4=X.s.acked.toNat:=ZjB h
theorem ZqX (X:TV) (k i:Nat) (h:i<Zk (ZB X k)):YD X k (8+i)=M.byteOf (ZB X k) i:=by
 unfold YD ZaG b4N
 have e:8+i=i+1+1+1+1+1+1+1+1:=by omega
 rw [e]
 simp only [List.cons_append,List.nil_append,List.getD_cons_succ]
 rw [List.getD_eq_getElem?_getD,List.getElem?_map,List.getElem?_range h]
 rfl
theorem ZqY (X:TV) (k i:Nat) (h1:X.s.next.toNat<4294967296) (h2:X.s.acked.toNat<4294967296):YD X k i<256:=by
 unfold YD
 rw [List.getD_eq_getElem?_getD]
 rcases hx:(ZaG X k)[i]? with _ | x
 ·simp
 ·have hm:=List.mem_of_getElem? hx
  unfold ZaG b4N at hm
  simp only [List.cons_append,List.nil_append,List.mem_cons,List.mem_map,List.mem_range] at hm
  simp only [Option.getD_some]
  rcases hm with rfl|rfl|rfl|rfl|rfl|rfl|rfl|rfl|⟨j,_,rfl⟩
  iterate 8 omega
  exact M.byteOf_lt _ _
theorem ZjE {w:World} {B n:Nat} {v:Value} {l:List Nat} (h:w.ownsRow B 5 1 v n (l.map ZfI)) (hn:0<n) (hl:l.length=n):∃ g c,v=.slice (some ⟨g,0,none⟩) n c∧n≤c∧Z8 w (some ⟨g,0,none⟩) n (fun i=>l.getD i 0):=by
 obtain ⟨b,cp,rfl,hb,hcell⟩:=Q7 h (by rw [List.length_map];omega)
 refine ⟨b,cp,rfl,ZcO h _ _ rfl,fun i hi=>⟨_,rfl,?_⟩⟩
 have:=hcell i (ZfI (l.getD i 0)) (by rw [List.getElem?_map,List.getElem?_eq_getElem (by omega),List.getD_eq_getElem?_getD,List.getElem?_eq_getElem (by omega)];rfl)
 rw [show ((⟨b,0,none⟩:Addr).add i)=⟨b,i,none⟩ from by rcases i with _ | i<;>simp [Addr.add]]
 exact this
theorem ZqZ (s:Snd) (t size:Int) (es:List Ent) (v:Value) (A:Option Addr) (n c:Nat) (w:World) (hT:Tabs w) (hS:ZA w s v) (hA:Zj w A n c es) (hak:s.acked≤9223372036854775807) (hes:∀ r,r∈s.log→r.es.length≤12) (hn:es.length≤12) :
  Calls Tryz.prog 13 #[v,.agg #[.int .i64 t,.slice A n c],.int .i64 size] w fun e w'=>∃ u,e=.returned u∧Zfx w w' s t size es u:=by
 obtain ⟨LA,IA,ln,lc,iN,ic,rfl,hL,hI,hi⟩:=hS
 exact Zqr ⟨s,t,size,es,LA,ln,lc,IA,iN,ic,A,n,c,w.heap.size⟩ w rfl hT hL hI hA hak hi hes hn
theorem Zq0 {w w':World} {s:Snd} {t size:Int} {es:List Ent} {u:Value} (h:Zfx w w' s t size es u) (hb:JX s t size es=false) (hx:s.next≤1073741824) (hf:Qr (plX s t size es) (wtF s es).length) :
  ∃ x pv B,u=.tuple #[x,pv,.int .i64 0]∧Xy w.heap.size w' (Xz (plX s t size es) (wtF s es).length) x∧(w'.ownsRow B 5 1 pv (8+Zk (ZB (plX s t size es) (wtF s es).length)) (X7 (plX s t size es) (wtF s es).length)∧w.heap.size≤B)∧Below w.heap.size w w':=by
 rcases h with ⟨h,_⟩|⟨_,h,_⟩|⟨_,⟨k,x,pv,B,⟨h1,h2,h3⟩,hv,hS,hp,hbl⟩|⟨h,_⟩⟩
 ·rw [hb] at h;cases h
 ·omega
 ·have hk:k=(wtF s es).length:=by
   rcases Nat.lt_or_ge k (wtF s es).length with hlt | hge
   ·exact absurd hf (h3 _ hlt (Nat.le_refl _))
   ·omega
  subst hk
  exact ⟨x,pv,B,hv,hS,hp,hbl⟩
 ·exact absurd hf (h _ (Nat.le_refl _))
theorem send_bad {w w':World} {s:Snd} {t size:Int} {es:List Ent} {u:Value} (h:Zfx w w' s t size es u) (hb:JX s t size es=true):u=.tuple #[Za7,.slice none 0 0,.int .i64 2]∧Below w.heap.size w w':=by
 rcases h with ⟨_,h⟩|⟨h,_⟩|⟨⟨h,_⟩,_⟩
 ·exact h
 ·rw [hb] at h;cases h
 ·rw [hb] at h;cases h
theorem Za6.toV {w w':World} {s:Snd} {v:Value} (h:Za6 w w' s v) (hl:s.log.length≤1000) (hi:s.items.length≤1000):ZA w' s v:=by
 obtain ⟨B,B2,OA,QA,oc,qc,ls,rfl,hls,hS⟩:=h
 have hll:ls.length≤1000:=by rw [←hls,List.length_map] at hl;exact hl
 have h1:w'.ownsRow B 45 4 (.slice OA ls.length oc) ls.length (lrs ls):=hS.head
 obtain ⟨A',c',e',hL⟩:=Zch h1 (by omega) (fun x hx=>hS.part (p:=lrP x) (.tail _ (List.mem_append_left _ (List.mem_map.2 ⟨x,hx,rfl⟩))))
 injection e' with e1 _ e2
 rw [←e1,←e2,hls] at hL
 have h2:w'.ownsRow B2 134 3 (.slice QA s.items.length qc) s.items.length (ZM s.items):=hS.part (p:=rowP B2 134 3 s.items.length (.slice QA s.items.length qc) (ZM s.items)) (.tail _ (List.mem_append_right _ (.head _)))
 obtain ⟨A2,c2,e3,hI⟩:=Zpw h2 (by omega)
 injection e3 with e4 _ e5
 rw [←e4] at hI
 exact ⟨OA,QA,ls.length,oc,s.items.length,qc,rfl,hL,hI,fun e=>Zfb h2 e⟩
theorem ZdV (s:Snd) (k:Int) (v:Value) (w:World) (hT:Tabs w) (hS:ZA w s v) (hak:s.acked≤9223372036854775807) (hn:s.log.length≤1000) (hes:∀ r,r∈s.log→r.es.length≤12) (hi:s.items.length≤1000000) :
  Calls Tryz.prog 17 #[v,.int .i64 k] w fun e w'=>∃ u,e=.returned u∧ZiE w w' s k u:=by
 obtain ⟨LA,IA,ln,lc,iN,ic,rfl,hL,hI,hn2⟩:=hS
 exact ZpB s.cl s.next s.acked k s.log s.items LA IA ln lc iN ic w hT hL hI hak (by rw [hL.len];exact hn) (fun r hr=>by have:=hes r hr;omega) ⟨by rw [hI.len];exact hi,hn2⟩
theorem ZjF (X:TV) (k:Nat) (r:Rcv) (u v:Value) (B:Nat) (w:World) (hT:Tabs w) (hR:ZaD w r u) (hp:w.ownsRow B 5 1 v (8+Zk (ZB X k)) (X7 X k)) (h1:0≤X.s.next∧X.s.next≤1073741825) (h2:0≤X.s.acked∧X.s.acked≤1073741825) (hfit:Qr X k) (hz:X.size≤1200) (hes:∀ x,x∈r.log→x.es.length≤12)
  (hcode:YV r (8+Zk (ZB X k)) X.s.next.toNat X.s.acked.toNat=none→∃ x,Z6 r.log X.s.acked=some x∧x.tick=X.b.tick∧x.es=X.b.es∧Zl X.vt (Z7 X k)=true∧(Z7 X k).length≤12∧∀ y,y∈r.log→y.num<X.s.next) :
  Calls Tryz.prog 14 #[u,v] w fun e w'=>∃ z,e=.returned z∧ZfF w w' r (8+Zk (ZB X k)) (YD X k) X.vt (Z7 X k) z:=by
 obtain ⟨LA,ln,lc,rfl,hL⟩:=hR
 rw [Zjz] at hp
 obtain ⟨g,c,rfl,hc,hB⟩:=ZjE hp (by omega) (ZjA X k)
 have e0:=ZjC X k (by omega)
 have e4:=ZjD X k (by omega)
 refine ZqM ⟨r,LA,ln,lc,g,0,8+Zk (ZB X k),c,YD X k,w.heap.size⟩ X.vt (Z7 X k) w rfl hT hL hB (by show 8≤8+_;omega) ⟨hc,?_⟩ (fun i=>ZqY X k i (by omega) (by omega)) hes ?_
 ·unfold Qr at hfit
  show 8+Zk (ZB X k)≤1000000
  omega
 ·intro h0
  have h0:YV r (8+Zk (ZB X k)) (n4 (YD X k) 0) (n4 (YD X k) 4)=none:=h0
  rw [e0,e4] at h0
  obtain ⟨x,hx,ht,he,hv,hl,hlt⟩:=hcode h0
  refine ⟨x,?_,?_,fun i hi=>?_,hv,hl,fun y hy=>?_⟩
  ·show Z6 r.log ((n4 (YD X k) 4:Nat):Int)=some x
   rw [e4,Int.toNat_of_nonneg h2.1];exact hx
  ·show 8+Zk (ZB X k)=8+Zk (Xo x.tick X.vt x.es (Z7 X k))
   rw [ht,he]
  ·show YD X k (8+i)=M.byteOf (Xo x.tick X.vt x.es (Z7 X k)) i
   rw [ht,he] at hi ⊢
   exact ZqX X k i hi
  ·show y.num<((n4 (YD X k) 0:Nat):Int)
   rw [e0,Int.toNat_of_nonneg h1.1];exact hlt y hy
end
end Go.Proofs.YtlgcfimhfmgkmaaGreatDoor
