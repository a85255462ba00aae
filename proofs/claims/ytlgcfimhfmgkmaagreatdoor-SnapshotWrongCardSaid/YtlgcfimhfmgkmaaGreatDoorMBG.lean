/- Lemmas for the statement. -/
import Derived.Test.YtlgcfimhfmgkmaaGreatDoorMBB
set_option linter.unusedVariables false
set_option linter.unusedSimpArgs false
namespace Go.Proofs.YtlgcfimhfmgkmaaGreatDoor
open Go.RowKit
section
theorem Tq85 {p:Prop} (h:p:=by
 have h1:=HP.out.2.2.2.2.2.2.2.2.1
 have:=Zdu p
 have h2:((ZbD (p :: r):Nat):Int)=((Xf p:Nat):Int):=rfl
 rw [h2] at h1
 omega):p:=h
theorem Tq47 {p:Prop} (h:p:=by
 have y2:=Zd hq 0
 have y3:=Zd hq 1
 clear hq
 go_simp
 refine hK _ _ ?_;clear hK K
 refine ⟨Or.inl (by kernel_rfl),?_⟩
 refine ZX (by kernel_rfl) ?_ _
 go_wp2_with fail
 go_meet
 exact ⟨q,rfl,(HDr.out.objSet (i:=0) (.int .i64 t)).objSet (i:=1) (.slice none 0 0)⟩):p:=h
set_option maxRecDepth 100000 in
set_option maxHeartbeats 8000000 in
theorem ZiO (s t:Int) (A PA:Option Addr) (n c pn pc:Nat) (es fs:List Ent) (w:World) (hT:Tabs w) (ha:Zj w A n c es) (va:Zl s es=true) (vb:Zl t fs=true) (hl:es.length≤12∧fs.length≤12)
  (hpn:pn=Zk (Xo s t es fs)) (hrow:Z8 w PA pn (M.byteOf (Xo s t es fs))) (hnil:PA=none→pn=0∧pc=0) (hp6:pn≤1000000) :
  Calls Tryz.prog 58 #[.agg #[.int .i64 s,.slice A n c],.slice PA pn pc] w fun e w'=>∃ VA vn vc,e=.returned (.tuple #[.agg #[.int .i64 t,.slice VA vn vc],.int .i64 0])∧Zj w' VA vn vc fs∧Below w.heap.size w w':=by
 have hmx:Tryz.prog.follows .mixedOrders=true:=by kernel_rfl
 have hdl:=Zdv va vb
 have hdi:=Zfg va vb
 have hlen:=Ziu s t (Zw es fs) hdi
 obtain ⟨hD0,hR0⟩:=Zo3 s t es fs (n:=pn) (f:=M.byteOf (Xo s t es fs)) (by omega) (fun _ _=>rfl)
 obtain ⟨ds,eds⟩:∃ ds,ds=Zw es fs:=⟨_,rfl⟩
 rw [←eds] at hdl hdi hlen hR0
 obtain ⟨cf,ecf⟩:∃ cf,cf=M.byteOf (Xo s t es fs):=⟨_,rfl⟩
 have hcf:∀ i,i<pn→cf i<256:=fun i _=>by rw [ecf];exact M.byteOf_lt _ _
 rw [←ecf] at hD0 hR0 hrow
 rw [Zfe] at hR0
 obtain ⟨w1,g,e1,eg,hg0,hg1,hb1⟩:=Zc9 w s A n c
 obtain ⟨f0,f1⟩:=cs2 hg0
 have FV:=Qd s A n c es w1 (hT.below hb1) (ha.below hb1)
 rw [va] at FV
 have hS1:Ses w w1 [Zb (g+1) (wO 0 (.slice none 0 0)),Zb g (wO s (.slice A n c))]:=by
  have h:=((Ses.start w).allocObj (wO s (.slice A n c))).allocObj (wO 0 (.slice none 0 0))
  rw [World.size_alloc] at h
  rw [e1,eg]
  exact h
 have H:=Qh (Qi hT (Qi ha (Qi va (Qi vb (Qi hl (Qi hrow (Qi hnil (Qi hp6 (Qi hcf (Qi hD0 (Qi hR0 (Qi (Qi hdl hlen) (Qi hdi (Qi hpn (Qi ecf eds)))))))))))))))
 have HS1:=Qh (Qi hS1 hb1)
 clear hT ha va vb hl hrow hnil hp6 hcf hD0 hR0 hdl hlen hdi hpn ecf eds hS1 hg0 hg1 hb1
 go_enter Tryz.func58,Tryz.ntmps58
 go_upto_region 1 with fail
 rw [←e1,←eg]
 clear e1 eg
 go_upto_region 3 with (
  go_at_call 9
  refine FV.mono ?_
  rintro e w2 ⟨rfl,hb2⟩
  have HS2:=Qh (Qi (HS1.out.1.below hb2) (HS1.out.2.trans (hb2.mono HS1.out.2.size)))
  clear hb2 FV f0 f1)
 have FN:=HS2.out.1.dec (A:=PA) (n:=pn) (cap:=pc) (f:=cf) (H.out.2.2.2.2.2.1.keepd HS2.out.2) H.out.2.2.2.2.2.2.2.1 H.out.2.2.2.2.2.2.2.2.1 H.out.2.2.2.2.2.2.1
 go_upto_region 4 with (
  go_at_call 123
  refine FN.mono ?_
  rintro e w3 ⟨B,bw,G,A',cap',F3,rfl,hS3⟩
  have HS3:=Qh hS3
  clear hS3 FN)
 obtain ⟨w4,db,e4,edb,hS4⟩:∃ W q,W=w3.alloc (XN bw)∧q=w3.heap.size∧Ses w W (Zb q (XN bw) :: Y8 B bw G A' pn cap' cf F3 (Z9 (Zx pn cf) 32) :: [Zb (g+1) (wO 0 (.slice none 0 0)),Zb g (wO s (.slice A n c))]):=⟨_,_,rfl,rfl,HS3.out.allocObj _⟩
 unfold XN at e4
 rw [←e4,←edb]
 clear e4 edb
 go_upto_region 5 with fail
 obtain ⟨w5,bb,e5,ebb,hS5⟩:∃ W q,W=w4.alloc ZI∧q=w4.heap.size∧Ses w W (Zb q ZI :: Zb db (XN bw) :: Y8 B bw G A' pn cap' cf F3 (Z9 (Zx pn cf) 32) :: [Zb (g+1) (wO 0 (.slice none 0 0)),Zb g (wO s (.slice A n c))]):=⟨_,_,rfl,rfl,hS4.allocObj _⟩
 unfold ZI at e5
 rw [←e5,←ebb]
 clear e5 ebb hS4
 have HS5:=Qh hS5
 clear hS5
 go_upto_region 6 with (go_at_call 111;refine (Zg3 w w5 _ HS5.out).mono ?_;rintro e w6 ⟨m1,m2,rfl,hne,hs6⟩;have HS6:=Qh (Qi hne hs6);clear hne hs6)
 obtain ⟨w7,mb,e7,emb,hS7⟩:∃ W q,W=w6.alloc (ZJ m1 m2)∧q=w6.heap.size∧Ses w W (Zb q (ZJ m1 m2) :: Yr k0D ZT :: ZU m1 m2 k0D :: Zb bb ZI :: Zb db (XN bw) :: Y8 B bw G A' pn cap' cf F3 (Z9 (Zx pn cf) 32) :: [Zb (g+1) (wO 0 (.slice none 0 0)),Zb g (wO s (.slice A n c))]):=⟨_,_,rfl,rfl,HS6.out.2.allocObj _⟩
 unfold ZJ at e7
 rw [←e7,←emb]
 clear e7 emb
 obtain ⟨X,eX⟩:∃ X:DX,X=⟨db,mb,bb,m1,m2,B,bw,G,A',pn,cap',cf⟩:=⟨_,rfl⟩
 have hDD:DD w w7 X (Yh (-2) (t-s)++X5 0 ds) [Zb (g+1) (wO 0 (.slice none 0 0)),Zb g (wO s (.slice A n c))]:=by
  have hlen:=H.out.2.2.2.2.2.2.2.2.2.2.2.1
  rw [Zfe] at hlen
  have hl:=H.out.2.2.2.2.1
  subst eX
  exact Zo6 hS7 HS6.out.1 H.out.2.2.2.2.2.2.2.2.2.1 H.out.2.2.2.2.2.2.2.2.2.2.1 (by omega)
 obtain ⟨x1,x2,x3⟩:db=X.db∧mb=X.mb∧bb=X.bb:=by rw [eX];exact ⟨rfl,rfl,rfl⟩
 subst x1 x2 x3
 have HD7:=Qh hDD
 clear hS7 hDD eX
 go_upto_region 8 with fail
 have hrs:=Zdp H.out.2.2.1
 have hrt:=Zdp H.out.2.2.2.1
 have hq7:=HD7.out.obj (q:=g) (o:=wO s (.slice A n c)) (by simp)
 have HC:w7.drew.cell? ⟨g,0,none⟩=some (.int .i64 s)∧True:=⟨Za hq7 0 _ rfl,trivial⟩
 have HR:=Qh (Qi hrs hrt)
 have u8i:IntKind.i64.wrap (s+(t-s))=t:=by rw [Go.IntWalk.i64_in _ ⟨by omega,by omega⟩];omega
 obtain ⟨wd,ed⟩:∃ W,W=w7.drew:=⟨_,rfl⟩
 have HDr:=Qh HD7.out.drew
 rw [←ed] at HC HDr
 have HED:=Qh ed
 clear hq7 hrs hrt HD7 ed
 go_cut [11] (fun v wx=>∃ q,v=.pointer (some ⟨q,0,none⟩)∧DD w wx X (X5 0 ds) (Zb q (wO t (.slice none 0 0)) :: [Zb (g+1) (wO 0 (.slice none 0 0)),Zb g (wO s (.slice A n c))]))
 case first=>
  refine Yy (fun W=>W.cell? ⟨g,0,none⟩=some (.int .i64 s)∧True) 7 hmx ?_
  change Zz _ _ _ _ _ _ _ _ _ (World.drew _)
  rw [←HED.out]
  refine tkp 0 rfl (Or.inr HC) ?_
  refine tkp 2 rfl (Or.inr HC) ?_
  refine tkl 1 rfl HC (by intro W ⟨hC0,hC1⟩;go_simp;try with_reducible rfl) ?_
  refine Jf (j:=3) (k:=6) (by kernel_rfl) ?_ ?_
  ·refine wpOp_step rfl (fun K hK=>?_)
   go_simp
   refine (HDr.out.num (by decide) (by decide) (by have:=HR.out;omega) (by have:=HR.out;omega)).mono ?_
   rintro e w8 ⟨rfl,hD8⟩
   have HC:w8.cell? ⟨g,0,none⟩=some (.int .i64 s)∧True:=⟨Za (hD8.obj (q:=g) (o:=wO s (.slice A n c)) (by simp)) 0 _ rfl,trivial⟩
   have HDr:=Qh hD8
   clear hD8
   refine hK _ _ ?_;clear hK K
   refine ⟨Or.inr HC,?_⟩
   refine tkp 4 rfl (Or.inr HC) ?_
   refine tkp 5 rfl (Or.inr HC) ?_
   refine Zi 6 rfl (fun K hK=>?_)
   go_simp
   obtain ⟨w9,q,e9,eq,hD9⟩:∃ W q,W=w8.alloc (wO 0 (.slice none 0 0))∧q=w8.heap.size∧DD w W X (X5 0 ds) (Zb q (wO 0 (.slice none 0 0)) :: [Zb (g+1) (wO 0 (.slice none 0 0)),Zb g (wO s (.slice A n c))]):=⟨_,_,rfl,rfl,HDr.out.alloc _⟩
   unfold wO at e9
   refine hK _ _ ?_;clear hK K
   rw [←e9,←eq]
   clear e9 eq
   have HC:w9.cell? ⟨g,0,none⟩=some (.int .i64 s)∧True:=⟨Za (hD9.obj (q:=g) (o:=wO s (.slice A n c)) (by simp)) 0 _ rfl,trivial⟩
   have HDr:=Qh hD9
   clear hD9
   refine ⟨Or.inr HC,?_⟩
   refine Zi 7 rfl (fun K hK=>?_)
   have hq:=HDr.out.obj (q:=q) (o:=wO 0 (.slice none 0 0)) (by simp)
   obtain ⟨y0,y1⟩:=cs2 hq
   exact Tq47
  ·refine wpOp_step rfl (fun K hK=>?_)
   go_simp
   obtain ⟨w9,q,e9,eq,hD9⟩:∃ W q,W=wd.alloc (wO 0 (.slice none 0 0))∧q=wd.heap.size∧DD w W X (Yh (-2) (t-s)++X5 0 ds) (Zb q (wO 0 (.slice none 0 0)) :: [Zb (g+1) (wO 0 (.slice none 0 0)),Zb g (wO s (.slice A n c))]):=⟨_,_,rfl,rfl,HDr.out.alloc _⟩
   unfold wO at e9
   refine hK _ _ ?_;clear hK K
   rw [←e9,←eq]
   clear e9 eq
   have HC:w9.cell? ⟨g,0,none⟩=some (.int .i64 s)∧True:=⟨Za (hD9.obj (q:=g) (o:=wO s (.slice A n c)) (by simp)) 0 _ rfl,trivial⟩
   have HDr:=Qh hD9
   clear hD9
   refine ⟨Or.inr HC,?_⟩
   refine Zi 3 rfl (fun K hK=>?_)
   go_simp
   refine (HDr.out.num (by decide) (by decide) (by have:=HR.out;omega) (by have:=HR.out;omega)).mono ?_
   rintro e w8 ⟨rfl,hD8⟩
   have HC:w8.cell? ⟨g,0,none⟩=some (.int .i64 s)∧True:=⟨Za (hD8.obj (q:=g) (o:=wO s (.slice A n c)) (by simp)) 0 _ rfl,trivial⟩
   have HDr:=Qh hD8
   clear hD8
   refine hK _ _ ?_;clear hK K
   refine ⟨Or.inr HC,?_⟩
   refine tkp 4 rfl (Or.inr HC) ?_
   refine tkp 5 rfl (Or.inr HC) ?_
   refine Zi 7 rfl (fun K hK=>?_)
   have hq:=HDr.out.obj (q:=q) (o:=wO 0 (.slice none 0 0)) (by simp)
   obtain ⟨y0,y1⟩:=cs2 hq
   exact Tq47
 case rest=>
 obtain ⟨qo,rfl,hD8⟩:=hcut
 obtain ⟨W8,e8⟩:∃ W,W=wc:=⟨_,rfl⟩
 rw [←e8] at hD8 ⊢
 clear e8
 rw [Zfd] at hD8
 have FS:=hD8.sym (by decide) (by decide)
 clear hD8 u8i
 go_wp2_with (
  go_at_call 124
  refine FS.mono ?_
  rintro e W9 ⟨rfl,hD9⟩
  have HD9:=Qh hD9
  clear hD9 FS)
 go_loopg [12,13,14] ds.length (fun gh iv lv sv wr=>∃ (done rest:List (Ent × Ent)) (ov:Value) (rs:List ER),(gh=rest.length∧ds=done++rest)∧lv=.int .i64 (Qn done)∧sv=.int .i64 ((ZbD rest:Nat):Int)∧rs.map ER.e=XT done∧DD w wr X (Zfc (Qn done) rest) (rowP w.heap.size 3 1 done.length iv (Zu (ZO done)) :: Zb qo (wO t ov) :: rowP w.heap.size 70 2 rs.length ov (ers rs) :: (rs.map erP++[Zb (g+1) (wO 0 (.slice none 0 0)),Zb g (wO s (.slice A n c))])))
 case atStart=>exact ⟨[],ds,.slice none 0 0,[],⟨rfl,rfl⟩,rfl,rfl,rfl,(HD9.out.row0 w.heap.size 70 2).swap.row0 w.heap.size 3 1⟩
 case round=>
  obtain ⟨done,rest,ov,rs,⟨hgh,hds⟩,rfl,rfl,hrs,hDD⟩:=hrel
  obtain ⟨V,eV⟩:∃ W,W=wr:=⟨_,rfl⟩
  rw [←eV] at hDD ⊢
  clear eV
  obtain ⟨IA,ic,rfl⟩:=YF (hDD.get (p:=rowP w.heap.size 3 1 done.length _ (Zu (ZO done))) (.head _))
  have hdl:done.length≤24:=by
   have h1:=H.out.2.2.2.2.2.2.2.2.2.2.2.1.1
   have h2:=H.out.2.2.2.2.1
   rw [hds,List.length_append] at h1
   omega
  rcases rest with _|⟨p,r⟩
  ·have hdn:done=Zw es fs:=by rw [←H.out.2.2.2.2.2.2.2.2.2.2.2.2.2.2.2,hds,List.append_nil]
   have hvo:=ZnX H.out.2.2.1 H.out.2.2.2.1
   rw [←hdn] at hvo
   have hol:=ZnY H.out.2.2.1 H.out.2.2.2.1
   rw [←hdn,←hrs,List.length_map] at hol
   obtain ⟨OA,oc,eov,hER⟩:=ZcW (hDD.get (p:=rowP w.heap.size 70 2 rs.length ov (ers rs)) (by simp)) (by have:=H.out.2.2.2.2.1;omega) (fun x hx=>hDD.get (p:=erP x) (by simp only [List.mem_cons,List.mem_append,List.mem_map];exact .inr (.inr (.inr (.inl ⟨x,hx,rfl⟩)))))
   subst eov
   rw [hrs] at hER
   have hII:=JP (hDD.get (p:=rowP w.heap.size 3 1 done.length (.slice IA done.length ic) (Zu (ZO done))) (.head _)) (by simp [ZO]) (by omega) (fun k hk=>by
    rw [hdn] at hk
    obtain ⟨p,hp,rfl⟩:=List.mem_map.1 hk
    rcases ((Xv H.out.2.2.1 H.out.2.2.2.1 p).1 hp).pid (fun e h=>(Z4 H.out.2.2.1 e h).1) (fun e h=>(Z4 H.out.2.2.2.1 e h).1) with ⟨a,b,_⟩|⟨a,b,_⟩
    ·have:=Z4 H.out.2.2.1 _ a;omega
    ·have:=Z4 H.out.2.2.2.1 _ a;omega)
   obtain ⟨IA',ic',eI,hIR⟩:=hII
   injection eI with eI1 _ eI2
   subst eI1 eI2
   have hbel:=hDD.bel
   have hbb:=hDD.bad
   have hbo:=hDD.obj (q:=qo) (o:=wO t (.slice OA rs.length oc)) (by simp)
   have hbg:=hDD.obj (q:=g) (o:=wO s (.slice A n c)) (by simp)
   have hbr:=hDD.obj (q:=g+1) (o:=wO 0 (.slice none 0 0)) (by simp)
   have s0:V.cell? ⟨X.bb,0,none⟩=some (.int .i64 0):=Za hbb 0 _ rfl
   obtain ⟨s1,s2⟩:=cs2 hbo
   have FV2:=Qd t OA rs.length oc (XT done) V (H.out.1.below hbel) hER
   rw [hvo] at FV2
   have HX:=Qh (Qi hdn (Qi hvo (Qi hER (Qi hIR (Qi hbel (Qi hbg hbr))))))
   clear hdn hvo hol hER hIR hbel hbb hbo hbg hbr hDD hds hrs hgh hdl
   show Code.wp _ _ _ _ _
   go_upto_region 38 with (
    go_at_call 9
    refine FV2.mono ?_
    rintro e V2 ⟨rfl,hb2⟩
    have s3:=(hb2.cell (Zc s1)).trans s1
    have s4:=(hb2.cell (Zc s2)).trans s2
    have hg2:=(hb2.block _ (Zh HX.out.2.2.2.2.2.1)).trans HX.out.2.2.2.2.2.1
    obtain ⟨s5,s6⟩:=cs2 hg2
    have hr2:=(hb2.block _ (Zh HX.out.2.2.2.2.2.2)).trans HX.out.2.2.2.2.2.2
    have hbw:=HX.out.2.2.2.2.1.trans (hb2.mono HX.out.2.2.2.2.1.size)
    have hml:=ZnZ H.out.2.2.1 H.out.2.2.2.1
    rw [←HX.out.1] at hml
    have FM:=Zca s t A OA IA n c rs.length oc done.length ic es (XT done) (ZO done) V2 (H.out.1.below hbw) (H.out.2.1.below hbw) (HX.out.2.2.1.below hb2) (HX.out.2.2.2.1.below hb2) H.out.2.2.1 HX.out.2.1 (by rw [hml];have:=H.out.2.2.2.2.1;omega)
    have H2:=Qh (Qi hbw (Qi hg2 hr2))
    clear hb2 hg2 hr2 hbw hml FV2 s0 s1 s2)
   go_upto_region 39 with (
    go_at_call 50
    refine FM.mono ?_
    rintro e V3 ⟨VA,vn,vc,l,rfl,⟨hlp,hls⟩,hEl,hb3⟩
    have HM:=Qh (Qi hlp (Qi hls (Qi hEl hb3)))
    clear hlp hls hEl hb3 FM s3 s4 s5 s6)
   have hlf:l=fs:=by
    have hvo:=HX.out.2.1
    have h1:=Zcb (YG H.out.2.2.1) (YG hvo) HM.out.1 HM.out.2.1
    rw [h1,HX.out.1]
    exact ZhV H.out.2.2.1 H.out.2.2.2.1
   obtain ⟨V4,q22,e4,ZiP,hb4,hq4⟩:=nm1 V3 (.cells #[.int .i64 t,.slice VA vn vc] 24 (0,0))
   rw [←e4,←ZiP]
   have ZaU:Below V2.heap.size V2 V4:=HM.out.2.2.2.trans (hb4.mono HM.out.2.2.2.size)
   have ZdH:=H2.out.1.trans (ZaU.mono H2.out.1.size)
   have hg4:=(ZaU.block _ (Zh H2.out.2.1)).trans H2.out.2.1
   obtain ⟨s5,s6⟩:=cs2 hg4
   obtain ⟨s7,s8⟩:=cs2 hq4
   have hEf:Zj V4 VA vn vc fs:=by rw [←hlf];exact HM.out.2.2.1.below hb4
   have FEn:=Zh5 s t A VA n c vn vc es fs V4 (H.out.1.below ZdH) (H.out.2.1.below ZdH) hEf H.out.2.2.1 H.out.2.2.2.1 H.out.2.2.2.2.1
   have hr4:=(ZaU.block _ (Zh H2.out.2.2)).trans H2.out.2.2
   have H4:=Qh (Qi ZdH (Qi hr4 (Qi hEf hq4)))
   clear e4 ZiP hb4 ZaU ZdH hg4 hEf hlf hr4 hq4
   go_upto_region 42 with (
    go_at_call 52
    refine FEn.mono ?_
    rintro e V5 ⟨CA,cn,ZpF,rfl,⟨hcn,hcb,ZpG⟩,hb5⟩
    have FB:=Zob (ca:=ZpF) (cc:=pc) V5 hcb (H.out.2.2.2.2.2.1.keepd (H4.out.1.trans (hb5.mono H4.out.1.size)))
    have heq:(Zbm cn (M.byteOf (Xo s t es fs))==Zbm pn cf)=true:=by
     have h1:=H.out.2.2.2.2.2.2.2.2.2.2.2.2.2.1
     have h2:=H.out.2.2.2.2.2.2.2.2.2.2.2.2.2.2.1
     rw [hcn,h2,h1]
     exact beq_self_eq_true _
    rw [heq] at FB
    have hr5:=(hb5.block _ (Zh H4.out.2.1)).trans H4.out.2.1
    have hq5:=(hb5.block _ (Zh H4.out.2.2.2)).trans H4.out.2.2.2
    obtain ⟨s9,s10⟩:=cs2 hq5
    obtain ⟨z0,z1⟩:=cs2 hr5
    have z2:=Zd hr5 0
    have z3:=Zd hr5 1
    have H5:=Qh (Qi hb5 hr5)
    clear hcn hcb ZpG hb5 heq hr5 hq5 FEn s5 s6 s7 s8)
   go_wp2_with (
    go_at_call 129
    refine FB.mono ?_
    rintro e V6 ⟨rfl,eV6⟩
    subst eV6
    clear FB)
   refine bodyPost_ret (Zeo rfl _ _ (g+1) _ rfl rfl (Yw (.int .i64 t) (.slice VA vn vc) H5.out.2)) rfl ?_
   have hlo:w.heap.size≤g+1:=by
    have h1:=HX.out.2.2.2.2.2.2
    have h2:=HS1.out.1.base (Zb (g+1) (wO 0 (.slice none 0 0))) (by simp) (g+1) (by simp [Zb])
    exact h2
   refine ⟨VA,vn,vc,rfl,?_,YB _ _ (H4.out.1.trans (H5.out.1.mono H4.out.1.size)) hlo⟩
   exact (H4.out.2.2.1.below H5.out.1).put2 _ _ H5.out.2 (fun e he=>by have:=(Z4 H.out.2.2.2.1 e he).1;omega)
  ·obtain ⟨L,eL⟩:∃ L,L=Qn done:=⟨_,rfl⟩
   obtain ⟨Pd,ePd⟩:∃ P,P=Zr p:=⟨_,rfl⟩
   have Zfp:p∈Zw es fs:=by
    rw [←H.out.2.2.2.2.2.2.2.2.2.2.2.2.2.2.2,hds]
    simp
   have hpr:∀ q,q∈Zw es fs→0≤Zr q∧Zr q≤65536:=fun q hq=>by
    rcases ((Xv H.out.2.2.1 H.out.2.2.2.1 q).1 hq).pid (fun e h=>(Z4 H.out.2.2.1 e h).1) (fun e h=>(Z4 H.out.2.2.2.1 e h).1) with ⟨a,b,_⟩|⟨a,b,_⟩
    ·have:=Z4 H.out.2.2.1 _ a;omega
    ·have:=Z4 H.out.2.2.2.1 _ a;omega
   have hLr:0≤L∧L≤65536:=by rw [eL];exact ZhW done (fun q hq=>hpr q (by rw [←H.out.2.2.2.2.2.2.2.2.2.2.2.2.2.2.2,hds];simp [hq]))
   have hPr:0≤Pd∧Pd≤65536:=by rw [ePd];exact hpr p Zfp
   have hDN:DD w V X (Yh (-3) (Pd-L)++JQ p r) (rowP w.heap.size 3 1 done.length (.slice IA done.length ic) (Zu (ZO done)) :: Zb qo (wO t ov) :: rowP w.heap.size 70 2 rs.length ov (ers rs) :: (rs.map erP++[Zb (g+1) (wO 0 (.slice none 0 0)),Zb g (wO s (.slice A n c))])):=by rw [eL,ePd];exact hDD
   have FN:=hDN.num (by decide) (by decide) (by omega) (by omega)
   have u14:wrap64 (L+(Pd-L))=Pd:=by rw [Zn _ (by omega) (by omega)];omega
   obtain ⟨ch,ech⟩:∃ ch:Int,ch=((ZbD (p :: r):Nat):Int):=⟨_,rfl⟩
   rw [←ech,←eL]
   have hch0:¬ ch=0:=by
    rw [ech]
    have:=Zdu p
    show ¬ ((Xf p:Nat):Int)=0
    omega
   have k1:decide ((done.length:Int)≤128)=true:=decide_eq_true (by omega)
   have k2:decide (done.length≤128)=true:=decide_eq_true (by omega)
   have HP:=Qh (Qi hgh (Qi hds (Qi hrs (Qi eL (Qi ePd (Qi Zfp (Qi hLr (Qi hPr (Qi ech hdl)))))))))
   clear hgh hds hrs eL ePd Zfp hpr hLr hPr ech hdl hDD hDN
   go_upto_region 15 with (
    go_at_call 126
    refine FN.mono ?_
    rintro e V2 ⟨rfl,hD2⟩
    have HD2:=Qh hD2
    clear hD2 FN)
   rw [u14]
   obtain ⟨i9,hi9,hq0,hq1,hq2⟩:=info_parts ZaX
   obtain ⟨V3,e3⟩:∃ W,W=V2.alloc (.cells #[.int .i64 Pd] 3 (0,0)):=⟨_,rfl⟩
   obtain ⟨g3,eg3⟩:∃ q,q=V2.heap.size:=⟨_,rfl⟩
   have hD3:DD w V3 X (JQ p r) (rowP w.heap.size 3 1 done.length (.slice IA done.length ic) (Zu (ZO done)) :: Zb qo (wO t ov) :: rowP w.heap.size 70 2 rs.length ov (ers rs) :: (rs.map erP++[Zb (g+1) (wO 0 (.slice none 0 0)),Zb g (wO s (.slice A n c))])):=by rw [e3];exact HD2.out.below (Zg V2 _)
   have hown3:V3.ownsRow w.heap.size 3 1 (.slice IA done.length ic) done.length (Zu (ZO done)):=hD3.get (.head _)
   have hnews:∀ j u,([.int .i64 Pd]:List Value)[j]?=some u→V3.cell? ((⟨g3,0,none⟩:Addr).add j)=some u:=by rw [e3];exact XC V2 #[.int .i64 Pd] 3 g3 eg3
   have hln:done.length+1≤maxLen∧(done.length+1)*8≤140737488355328:=by have:=HP.out.2.2.2.2.2.2.2.2.2;unfold maxLen;omega
   have HY:=Qh (Qi (Qi hown3 (Qi hln hD3.bel.size)) (Qi (Qi hi9 (Qi hq0 (Qi hq1 hq2))) (Qi hnews hD3)))
   clear hown3 hln hi9 hq0 hq1 hq2 hnews hD3 u14 k1 k2
   go_upto_region 16 with (at_builtin;rw [←e3,←eg3];clear e3 eg3;refine wpList_append_own_at _ rfl (.tmp 56) (.tmp 58) 48 rfl w.heap.size 3 i9 _ 1 8 Tryz.underlying48 HY.out.2.1.1 HY.out.2.1.2.1 HY.out.2.1.2.2.1 HY.out.2.1.2.2.2 rfl (by decide) _ done.length _ rfl HY.out.1.1 ⟨g3,0,none⟩ 1 1 [.int .i64 Pd] rfl rfl HY.out.2.2.1 (fun u hu=>by simp at hu;subst hu;rfl) HY.out.1.2.1.1 HY.out.1.2.1.2 HY.out.1.2.2 ?_;intro v5 V5 hown5 hg5 _ hblk;have HV5:=Qh (HY.out.2.2.2.rowApp hown5 hg5 hblk);clear hown5 hg5 hblk)
   have ZdI:Zu (ZO (done++[p]))=Zu (ZO done)++[.int .i64 Pd]:=by rw [HP.out.2.2.2.2.1];simp [Zu,ZO]
   have hlp:Qn (done++[p])=Pd:=by rw [HP.out.2.2.2.2.1];exact ZhE done p
   by_cases hn:p.2.id=0
   ·have hch:ch=1:=by
     exact Tq85
    subst hch
    have hD5:=HV5.out
    have ht:JQ p r=(Zp (-1),ZbD r) :: Zfc Pd r:=by unfold JQ;rw [if_pos hn,List.nil_append,Zfd,←HP.out.2.2.2.2.1]
    rw [ht] at hD5
    have FS2:=hD5.sym (by decide) (by decide)
    have HN:=Qh (Qi hn (Qi ZdI hlp))
    clear hn ZdI hlp hD5 ht
    go_wp2_with (
     go_at_call 124
     refine FS2.mono ?_
     rintro e V6 ⟨rfl,hD6⟩
     have HD6:=Qh hD6
     clear hD6 FS2)
    go_roundg r.length
    case measure=>have:=HP.out.1;rw [this];simp
    case rel=>
     refine ⟨done++[p],r,ov,rs,⟨rfl,?_⟩,?_,rfl,?_,?_⟩
     ·rw [HP.out.2.1];simp
     ·rw [HN.out.2.2]
     ·rw [HP.out.2.2.1];unfold XT;rw [List.filterMap_append];simp [Za0,HN.out.1]
     ·have:=HD6.out
      rw [HN.out.2.1,HN.out.2.2,List.length_append]
      exact this
   ·have hch1:¬ ch=1:=by
     exact Tq85
    have Zfq:=HV5.out.bel
    have hq5:=HV5.out.obj (q:=g) (o:=wO s (.slice A n c)) (by simp)
    obtain ⟨y0,y1⟩:=cs2 hq5
    have FE:=Zot Pd s A n c es V5 (H.out.1.below Zfq) (H.out.2.1.below Zfq) H.out.2.2.1
    have HN:=Qh (Qi hn (Qi ZdI hlp))
    clear hn ZdI hlp Zfq hq5
    go_upto_region 18 with (
     go_at_call 128
     refine FE.mono ?_
     rintro e V6 ⟨x,bx,EA,en,ec,rfl,hEr,⟨hEc,ZiQ⟩,hb6⟩
     have HE6:=Qh (Qi hEr (Qi hEc (Qi ZiQ hb6)))
     clear hEr hEc ZiQ hb6 FE y0 y1)
    obtain ⟨V7,q15,e7,Zcj,hD7⟩:∃ W q,W=V6.alloc (.cells #[.int .i64 x.id,.slice EA en ec] 70 (0,0))∧q=V6.heap.size∧DD w W X (JQ p r) (Zb q (.cells #[.int .i64 x.id,.slice EA en ec] 70 (0,0)) :: YO EA en ec x.cs :: rowP w.heap.size 3 1 (done.length+1) v5 (Zu (ZO done)++[.int .i64 Pd]) :: Zb qo (wO t ov) :: rowP w.heap.size 70 2 rs.length ov (ers rs) :: (rs.map erP++[Zb (g+1) (wO 0 (.slice none 0 0)),Zb g (wO s (.slice A n c))])):=by
     refine ⟨_,_,rfl,rfl,(HV5.out.new HE6.out.2.2.2 (Zdo HE6.out.2.1 (fun _ _ _ _=>trivial)) (fun q hq=>?_)).alloc _⟩
     unfold YO at hq
     split at hq
     ·cases hq
     ·rcases EA with _|⟨b,o,m⟩
      ·simp at hq
      ·simp at hq
       subst hq
       exact HE6.out.2.2.1 _ o m rfl
    rw [←e7,←Zcj]
    clear e7 Zcj
    go_upto_region 19 with fail
    obtain ⟨V8,q17,e8,ZiR,hD8⟩:∃ W q,W=V7.alloc (.cells #[.int .i64 Pd,.slice none 0 0] 70 (0,0))∧q=V7.heap.size∧DD w W X (JQ p r) (Zb q (.cells #[.int .i64 Pd,.slice none 0 0] 70 (0,0)) :: Zb q15 (.cells #[.int .i64 x.id,.slice EA en ec] 70 (0,0)) :: YO EA en ec x.cs :: rowP w.heap.size 3 1 (done.length+1) v5 (Zu (ZO done)++[.int .i64 Pd]) :: Zb qo (wO t ov) :: rowP w.heap.size 70 2 rs.length ov (ers rs) :: (rs.map erP++[Zb (g+1) (wO 0 (.slice none 0 0)),Zb g (wO s (.slice A n c))])):=⟨_,_,rfl,rfl,hD7.alloc _⟩
    rw [←e8,←ZiR]
    clear e8 ZiR hD7
    have hxc:x.cs=p.1.cs:=Zo5 H.out.2.2.1 H.out.2.2.2.1 HP.out.2.2.2.2.2.1 HN.out.1 (by rw [←HP.out.2.2.2.2.1];exact HE6.out.1)
    have ht:JQ p r=Jg p.1.cs p.2.cs 1 10++X5 Pd r:=by unfold JQ;rw [if_neg HN.out.1,←HP.out.2.2.2.2.1]
    rw [ht] at hD8
    have ZpH:=Qh hD8
    have HXC:=Qh hxc
    clear hD8 ht hxc
    go_wp2_with fail
    go_loopg [18] 10 (fun gh kv wr=>∃ (i:Nat) (cv:Value),gh+i=10∧kv=.int .u8 ((i+1:Nat):Int)∧DD w wr X (Jg p.1.cs p.2.cs (i+1) (10-i)++X5 Pd r) (Zb q17 (.cells #[.int .i64 Pd,cv] 70 (0,0)) :: rowP w.heap.size 75 5 (Yb p.2.cs i).length cv (Ya (Yb p.2.cs i)) :: Zb q15 (.cells #[.int .i64 x.id,.slice EA en ec] 70 (0,0)) :: YO EA en ec x.cs :: rowP w.heap.size 3 1 (done.length+1) v5 (Zu (ZO done)++[.int .i64 Pd]) :: Zb qo (wO t ov) :: rowP w.heap.size 70 2 rs.length ov (ers rs) :: (rs.map erP++[Zb (g+1) (wO 0 (.slice none 0 0)),Zb g (wO s (.slice A n c))])))
    case atStart=>exact ⟨0,.slice none 0 0,rfl,rfl,(ZpH.out.row0 w.heap.size 75 5).swap⟩
    case round=>
     obtain ⟨i,cv,hgi,rfl,hDK⟩:=hrel
     obtain ⟨K0,eK⟩:∃ W,W=wr:=⟨_,rfl⟩
     rw [←eK] at hDK ⊢
     clear eK
     by_cases ZiS:i<10
     ·obtain ⟨m,hm⟩:∃ m,10-i=m+1:=⟨9-i,by omega⟩
      obtain ⟨k,ek⟩:∃ k,k=i+1:=⟨_,rfl⟩
      rw [hm,←ek,Zpa,List.cons_append,List.append_assoc] at hDK
      rw [←ek]
      have Zck:=hDK.obj (q:=q15) (o:=.cells #[.int .i64 x.id,.slice EA en ec] 70 (0,0)) (by simp)
      obtain ⟨z0,z1⟩:=cs2 Zck
      have FC:=ZeZ x.id EA en ec x.cs k K0 (hDK.get (p:=YO EA en ec x.cs) (by simp))
      rw [HXC.out] at FC
      have hbd:=Zfg H.out.2.2.1 H.out.2.2.2.1 p HP.out.2.2.2.2.2.1
      obtain ⟨cx,ecx⟩:∃ c,c=ZL k p.1.cs:=⟨_,rfl⟩
      obtain ⟨hx,ehx⟩:∃ b,b=YM k p.1.cs:=⟨_,rfl⟩
      obtain ⟨cy,ecy⟩:∃ c,c=ZL k p.2.cs:=⟨_,rfl⟩
      rw [←ecx,←ehx] at FC
      rw [←ecx,←ecy] at hDK
      have hnb:∀ j,-8589934592≤cy.v j-cx.v j∧cy.v j-cx.v j≤8589934592:=fun j=>by rw [ecx,ecy];exact ZhY (JL hbd.1) (JL hbd.2)
      have hcb:∀ j,-4294967296≤cy.v j∧cy.v j≤4294967296:=fun j=>by rw [ecy];exact JL hbd.2 j
      obtain ⟨sv,esv⟩:∃ sv:Int,sv=((Xi k p.1.cs p.2.cs:Nat):Int):=⟨_,rfl⟩
      have j1:decide ((k:Int)≤10)=true:=decide_eq_true (by omega)
      have j2:decide (k≤10)=true:=decide_eq_true (by omega)
      have u0:wrap64 (k:Int)=(k:Int):=Zn _ (by omega) (by omega)
      have HK:=Qh (Qi hgi (Qi hm (Qi ek (Qi ecx (Qi ehx (Qi ecy (Qi esv (Qi hDK (Qi hnb hcb)))))))))
      clear hgi hm ZiS ecx ehx ecy esv hDK Zck hbd hnb hcb
      have hk1:1≤k:=by omega
      have hk10:k≤10:=by have:=HK.out.1;have:=HK.out.2.1;omega
      have HKk:=Qh (Qi hk1 hk10)
      clear ek hk1 hk10
      go_upto_region 23 with (
       go_at_call 118
       refine FC.mono ?_
       rintro e K1 ⟨rfl,hb1⟩
       have HB1:=Qh hb1
       clear hb1 FC z0 z1)
      obtain ⟨K2,q19,e2,Zcl,hD2⟩:∃ W q,W=K1.alloc (ZF cx)∧q=K1.heap.size∧DD w W X ((Zp k,Xi k p.1.cs p.2.cs) :: ((if Xi k p.1.cs p.2.cs=2 then QV (Zak k cx cy) 0 (szK k) else [])++(Jg p.1.cs p.2.cs (k+1) m++X5 Pd r))) (Zb q (ZF cx) :: Zb q17 (.cells #[.int .i64 Pd,cv] 70 (0,0)) :: rowP w.heap.size 75 5 (Yb p.2.cs i).length cv (Ya (Yb p.2.cs i)) :: Zb q15 (.cells #[.int .i64 x.id,.slice EA en ec] 70 (0,0)) :: YO EA en ec x.cs :: rowP w.heap.size 3 1 (done.length+1) v5 (Zu (ZO done)++[.int .i64 Pd]) :: Zb qo (wO t ov) :: rowP w.heap.size 70 2 rs.length ov (ers rs) :: (rs.map erP++[Zb (g+1) (wO 0 (.slice none 0 0)),Zb g (wO s (.slice A n c))])):=⟨_,_,rfl,rfl,(HK.out.2.2.2.2.2.2.2.1.below HB1.out).alloc _⟩
      unfold ZF at e2
      rw [←e2,←Zcl]
      clear e2 Zcl
      have FSk:=DD.sym (n:=(k:Int)) hD2 (by omega) (by have:=HKk.out;omega)
      rw [←HK.out.2.2.2.2.2.2.1] at FSk
      clear hD2
      go_upto_block 4 with (
       go_at_call 124
       refine FSk.mono ?_
       rintro e K3 ⟨rfl,hD3⟩
       have HD3:=Qh hD3
       clear hD3 FSk)
      clear j1 j2
      go_cut [20] (fun hv wx=>∃ y:Cmp,(YM k p.2.cs=true→y=ZL k p.2.cs)∧hv=.bool (YM k p.2.cs)∧DD w wx X (Jg p.1.cs p.2.cs (k+1) m++X5 Pd r) (Zb q19 (ZF y) :: Zb q17 (.cells #[.int .i64 Pd,cv] 70 (0,0)) :: rowP w.heap.size 75 5 (Yb p.2.cs i).length cv (Ya (Yb p.2.cs i)) :: Zb q15 (.cells #[.int .i64 x.id,.slice EA en ec] 70 (0,0)) :: YO EA en ec x.cs :: rowP w.heap.size 3 1 (done.length+1) v5 (Zu (ZO done)++[.int .i64 Pd]) :: Zb qo (wO t ov) :: rowP w.heap.size 70 2 rs.length ov (ers rs) :: (rs.map erP++[Zb (g+1) (wO 0 (.slice none 0 0)),Zb g (wO s (.slice A n c))])))
      case first=>
       have hs3:Xi k p.1.cs p.2.cs=0∨Xi k p.1.cs p.2.cs=1∨Xi k p.1.cs p.2.cs=2:=by have:=Zh3 k p.1.cs p.2.cs;omega
       rcases hs3 with hs | hs | hs
       ·have hsv:sv=0:=by rw [HK.out.2.2.2.2.2.2.1,hs];rfl
        subst hsv
        have HS:=Qh hs
        clear hs
        go_wp2_with fail
        go_meet
        obtain ⟨h1,h2⟩:=Zo7 HS.out
        have hd:=HD3.out
        rw [HS.out,if_neg (by decide),List.nil_append] at hd
        exact ⟨cx,fun _=>by rw [HK.out.2.2.2.1,h2],by rw [HK.out.2.2.2.2.1,h1],hd⟩
       ·have hsv:sv=1:=by rw [HK.out.2.2.2.2.2.2.1,hs];rfl
        subst hsv
        have HS:=Qh hs
        clear hs
        go_wp2_with fail
        go_meet
        have h1:=Zo8 HS.out
        have hd:=HD3.out
        rw [HS.out,if_neg (by decide),List.nil_append] at hd
        exact ⟨cx,fun e=>absurd (h1.symm.trans e) (by decide),by rw [h1],hd⟩
       ·have hsv:sv=2:=by rw [HK.out.2.2.2.2.2.2.1,hs];rfl
        subst hsv
        have HS:=Qh hs
        clear hs
        have ts:K3.cell? ⟨0,k,none⟩=some (.int .i64 ((szK k:Nat):Int)):=by rw [←ZhX HKk.out.2];exact (H.out.1.below HD3.out.bel).s k HKk.out.2
        have i0:(0:Int)≤(k:Int):=by omega
        have i1:(k:Int)<11:=by have:=HKk.out;omega
        have hd:=HD3.out
        rw [HS.out,if_pos rfl] at hd
        have HD4:=Qh hd
        have hs4:=ZhH k
        clear hd
        obtain ⟨N,eN⟩:∃ N,N=szK k:=⟨_,rfl⟩
        rw [←eN] at ts HD4 hs4
        have HN4:=Qh (Qi eN hs4)
        clear eN hs4
        go_wp2_with fail
        go_loopg [91] N (fun gh jv wr=>∃ j:Nat,gh+j=N∧jv=.int .i64 (j:Nat)∧DD w wr X (QV (Zak k cx cy) j (N-j)++(Jg p.1.cs p.2.cs (k+1) m++X5 Pd r)) (Zb q19 (ZF (Xh cx cy j)) :: Zb q17 (.cells #[.int .i64 Pd,cv] 70 (0,0)) :: rowP w.heap.size 75 5 (Yb p.2.cs i).length cv (Ya (Yb p.2.cs i)) :: Zb q15 (.cells #[.int .i64 x.id,.slice EA en ec] 70 (0,0)) :: YO EA en ec x.cs :: rowP w.heap.size 3 1 (done.length+1) v5 (Zu (ZO done)++[.int .i64 Pd]) :: Zb qo (wO t ov) :: rowP w.heap.size 70 2 rs.length ov (ers rs) :: (rs.map erP++[Zb (g+1) (wO 0 (.slice none 0 0)),Zb g (wO s (.slice A n c))])))
        case atStart=>exact ⟨0,rfl,rfl,by rw [Zn8];exact HD4.out⟩
        case round=>
         obtain ⟨j,hgj,rfl,hDj⟩:=hrel
         obtain ⟨J0,eJ⟩:∃ W,W=wr:=⟨_,rfl⟩
         rw [←eJ] at hDj ⊢
         clear eJ
         by_cases hjN:j<N
         ·obtain ⟨d,hd⟩:∃ d,N-j=d+1:=⟨N-j-1,by omega⟩
          rw [hd,Zit,List.append_assoc] at hDj
          have hj4:j<4:=by have:=HN4.out.2;omega
          have Za8:=hDj.obj (q:=q19) (o:=ZF (Xh cx cy j)) (by simp)
          have HC:J0.drew.cell? ⟨q19,1+j,none⟩=some (.int .i64 (cx.v j))∧True:=⟨Ziv Za8 hj4,trivial⟩
          have n0:(0:Int)≤(j:Int):=by omega
          have n1:(j:Int)<4:=by omega
          have n2:decide (j<N)=true:=decide_eq_true hjN
          have n3:decide ((j:Int)<(N:Int))=true:=decide_eq_true (by omega)
          obtain ⟨hnb,hcb⟩:=HK.out.2.2.2.2.2.2.2.2
          have ZiT:=hnb j
          have ZpI:=hcb j
          have u5:IntKind.i64.wrap (cx.v j+(cy.v j-cx.v j))=cy.v j:=by rw [Go.IntWalk.i64_in _ ⟨by omega,by omega⟩];omega
          have u6:wrap64 ((j:Int)+1)=(j:Int)+1:=Zn _ (by omega) (by omega)
          obtain ⟨Jd,ed⟩:∃ W,W=J0.drew:=⟨_,rfl⟩
          have HDr:=Qh hDj.drew
          rw [←ed] at HC HDr
          have HJ:=Qh (Qi hgj (Qi hd (Qi hj4 (Qi ZiT (Qi ed hjN)))))
          clear hgj hd hj4 ZiT ZpI ed hnb hcb hDj Za8 hjN
          go_upto_region 31 with fail
          refine Yy (fun W=>W.cell? ⟨q19,1+j,none⟩=some (.int .i64 (cx.v j))∧True) 12 hmx ?_
          change Zz _ _ _ _ _ _ _ _ _ (World.drew _)
          rw [←HJ.out.2.2.2.2.1]
          refine tkp 0 rfl (Or.inr HC) ?_
          refine tkp 1 rfl (Or.inr HC) ?_
          refine tkp 2 rfl (Or.inr HC) ?_
          refine tkp 4 rfl (Or.inr HC) ?_
          refine tkp 5 rfl (Or.inr HC) ?_
          refine tkp 6 rfl (Or.inr HC) ?_
          refine tkp 10 rfl (Or.inr HC) ?_
          refine tkl 3 rfl HC (by intro W ⟨hC0,hC1⟩;go_simp;try with_reducible rfl) ?_
          refine Zi 7 rfl (fun K hK=>?_)
          go_simp
          refine (ZhD k (j:Int) (by have:=HKk.out;omega) (by omega) _).mono ?_
          rintro e v8 ⟨rfl,ev8⟩
          subst ev8
          refine hK _ _ ?_;clear hK K
          refine ⟨Or.inr HC,?_⟩
          refine Zi 8 rfl (fun K hK=>?_)
          go_simp
          refine (DD.num (n:=4*(k:Int)+(j:Int)) (v:=cy.v j-cx.v j) HDr.out (by omega) (by have:=HKk.out;have:=HJ.out;omega) (by have:=HJ.out;omega) (by have:=HJ.out;omega)).mono ?_
          rintro e J5 ⟨rfl,hD5⟩
          have hb5:=hD5.obj (q:=q19) (o:=ZF (Xh cx cy j)) (by simp)
          have HC:J5.cell? ⟨q19,1+j,none⟩=some (.int .i64 (cx.v j))∧True:=⟨Ziv hb5 HJ.out.2.2.1,trivial⟩
          have y0:=HC.1
          have y1:=Zd hb5 (1+j)
          have HD5:=Qh hD5
          clear hD5 hb5
          refine hK _ _ ?_;clear hK K
          refine ⟨Or.inr HC,?_⟩
          refine tkp 9 rfl (Or.inr HC) ?_
          refine tkp 11 rfl (Or.inr HC) ?_
          refine Zi 12 rfl (fun K hK=>?_)
          go_simp
          refine hK _ _ ?_;clear hK K
          refine ⟨Or.inl (by kernel_rfl),?_⟩
          refine ZX (by kernel_rfl) ?_ _
          clear y0 y1 HC
          go_wp2_with fail
          go_roundg (N-(j+1))
          case measure=>have:=HJ.out;omega
          case rel=>
           have h5:=HD5.out.objSet (i:=1+j) (.int .i64 (cy.v j))
           rw [Zpb cx cy HJ.out.2.2.1] at h5
           refine ⟨j+1,by have:=HJ.out;omega,by go_num,?_⟩
           rw [show N-(j+1)=d by have:=HJ.out;omega]
           exact h5
         ·have n2:decide (j<N)=false:=decide_eq_false hjN
          have n3:decide ((j:Int)<(N:Int))=false:=decide_eq_false (by omega)
          have ZiU:j=N:=by omega
          have HJ:=Qh (Qi hDj ZiU)
          clear hDj ZiU hjN hgj
          go_wp2_with fail
          go_meet
          obtain ⟨hD,hjN⟩:=HJ.out
          have hfit:=Zo4 H.out.2.2.1 H.out.2.2.2.1 p HP.out.2.2.2.2.2.1
          rw [hjN,Nat.sub_self,ZoX,List.nil_append] at hD
          refine ⟨Xh cx cy N,fun _=>?_,by rw [Zo9 HS.out],hD⟩
          rw [HN4.out.1,HK.out.2.2.2.1,HK.out.2.2.2.2.2.1]
          exact Zn9 hfit.1 hfit.2
      case rest=>
       obtain ⟨y,hy,rfl,hDy⟩:=hcut
       obtain ⟨Y,eY⟩:∃ W,W=wc:=⟨_,rfl⟩
       rw [←eY] at hDy ⊢
       clear eY
       have hki:k=i+1:=HK.out.2.2.1
       have hmi:10-(i+1)=m:=by have:=HK.out.2.1;omega
       have hgi:=HK.out.1
       have u8:IntKind.u8.wrap ((k:Int)+1)=(k:Int)+1:=by rw [IntKind.wrap_u8];have:=HKk.out;omega
       have HI:=Qh (Qi hki (Qi hmi hgi))
       clear hki hmi hgi
       obtain ⟨bh,ebh⟩:∃ b,b=YM k p.2.cs:=⟨_,rfl⟩
       rw [←ebh] at hy ⊢
       rcases bh with _ | _
       ·have HDy:=Qh (Qi hDy ebh)
        clear hDy ebh hy
        go_wp2_with fail
        go_roundg (10-(i+1))
        case measure=>have:=HI.out;have:=HK.out.2.1;omega
        case rel=>
         refine ⟨i+1,cv,by have:=HI.out;have:=HK.out.2.1;omega,congrArg (Value.int .u8) (by have:=HI.out;omega),?_⟩
         have hd:=HDy.out.1.tail
         have e1:Yb p.2.cs (i+1)=Yb p.2.cs i:=by rw [Ze1,←HI.out.1,Zpd HDy.out.2.symm,List.append_nil]
         rw [e1,HI.out.2.1,←HI.out.1]
         exact hd
       ·have ey:=hy rfl
        obtain ⟨CA0,cc0,ecv⟩:=YF (hDy.get (p:=rowP w.heap.size 75 5 (Yb p.2.cs i).length cv (Ya (Yb p.2.cs i))) (by simp))
        subst ecv
        have Qy:=hDy.obj (q:=q17) (o:=.cells #[.int .i64 Pd,.slice CA0 (Yb p.2.cs i).length cc0] 70 (0,0)) (by simp)
        have s1:Y.cell? ⟨q17,1,none⟩=some (.slice CA0 (Yb p.2.cs i).length cc0):=Za Qy 1 _ rfl
        obtain ⟨c0,c1,c2,c3,c4⟩:=Za1 (hDy.obj (q:=q19) (o:=ZF y) (by simp))
        obtain ⟨Y1,e1⟩:∃ W,W=Y.alloc (ZF y):=⟨_,rfl⟩
        obtain ⟨g1,eg1⟩:∃ q,q=Y.heap.size:=⟨_,rfl⟩
        have hD1:=(hDy.below (W':=Y1) (by rw [e1];exact Zg Y _)).third
        obtain ⟨i8,hi8,hq0,hq1,hq2⟩:=info_parts ZcQ
        have hnews:∀ j u,y.cells[j]?=some u→Y1.cell? ((⟨g1,0,none⟩:Addr).add j)=some u:=by rw [e1];exact XC Y #[.int .u8 (y.kind:Nat),.int .i64 y.v0,.int .i64 y.v1,.int .i64 y.v2,.int .i64 y.v3] 75 g1 eg1
        have hln:(Yb p.2.cs i).length+1≤maxLen∧((Yb p.2.cs i).length+1)*40≤140737488355328:=by have:=ZhZ p.2.cs i;have:=HI.out;have:=HKk.out;unfold maxLen;omega
        have HZ:=Qh (Qi (Qi hD1 (Qi hln hD1.bel.size)) (Qi (Qi hi8 (Qi hq0 (Qi hq1 hq2))) (Qi hnews (Qi ey ebh))))
        clear hD1 hln hi8 hq0 hq1 hq2 hnews ey ebh hDy Qy hy
        unfold ZF at e1
        go_upto_region 21 with (at_builtin;rw [←e1,←eg1];clear e1 eg1;refine wpList_append_own_at _ rfl (.tmp 109) (.tmp 111) 68 rfl w.heap.size 75 i8 _ 5 40 Tryz.underlying68 HZ.out.2.1.1 HZ.out.2.1.2.1 HZ.out.2.1.2.2.1 HZ.out.2.1.2.2.2 rfl (by decide) _ (Yb p.2.cs i).length _ rfl (HZ.out.1.1.get (p:=rowP w.heap.size 75 5 (Yb p.2.cs i).length (.slice CA0 (Yb p.2.cs i).length cc0) (Ya (Yb p.2.cs i))) (.head _)) ⟨g1,0,none⟩ 1 1 y.cells rfl rfl HZ.out.2.2.1 (Zhj y) HZ.out.1.2.1.1 HZ.out.1.2.1.2 HZ.out.1.2.2 ?_;intro v6 Y6 hown6 hg6 _ hblk6;obtain ⟨g6,c6,rfl⟩:=ownsRow_succ hown6;have hD6:=HZ.out.1.1.rowApp hown6 hg6 hblk6;have hb6:=hD6.obj (q:=q17) (o:=.cells #[.int .i64 Pd,.slice CA0 (Yb p.2.cs i).length cc0] 70 (0,0)) (by simp);have s2:Y6.cell? ⟨q17,1,none⟩=some (.slice CA0 (Yb p.2.cs i).length cc0):=Za hb6 1 _ rfl;have s3:=Zd hb6 1;have HD6:=Qh hD6;clear hown6 hg6 hblk6 hD6 hb6 s1 c0 c1 c2 c3 c4)
        go_wp2_with fail
        go_roundg (10-(i+1))
        case measure=>have:=HI.out;have:=HK.out.2.1;omega
        case rel=>
         refine ⟨i+1,.slice (some ⟨g6,0,none⟩) ((Yb p.2.cs i).length+1) c6,by have:=HI.out;have:=HK.out.2.1;omega,congrArg (Value.int .u8) (by have:=HI.out;omega),?_⟩
         have hd:=((HD6.out.third.objSet (i:=1) (.slice (some ⟨g6,0,none⟩) ((Yb p.2.cs i).length+1) c6)).third).tail
         have e1:Yb p.2.cs (i+1)=Yb p.2.cs i++[y]:=by rw [Ze1,←HI.out.1,Zpc HZ.out.2.2.2.2.symm,HZ.out.2.2.2.1]
         have e2:Ya (Yb p.2.cs i++[y])=Ya (Yb p.2.cs i)++y.cells:=by simp [Ya]
         rw [e1,HI.out.2.1,←HI.out.1,e2,List.length_append]
         exact hd
     ·obtain rfl:i=10:=by omega
      have hdk:=hDK
      rw [show 10-10=0 from rfl] at hdk
      have j1:decide (((10+1:Nat):Int)≤10)=false:=rfl
      have j2:decide (10+1≤10)=false:=rfl
      have hp2:p.2∈fs∧Pd=p.2.id:=by
       have hd:=(Xv H.out.2.2.1 H.out.2.2.2.1 p).1 HP.out.2.2.2.2.2.1
       have hn:=HN.out.1
       rw [HP.out.2.2.2.2.1]
       have h1:∀ e,e∈fs→1≤e.id:=fun e h=>(Z4 H.out.2.2.2.1 e h).1
       unfold Zr
       cases hd with
       | was he hf=>exact absurd rfl hn
       | now hf he=>have:=h1 _ hf;exact ⟨hf,by simp only [Ent.zero];omega⟩
       | both he hf e1 e2=>exact ⟨hf,by simp only [];omega⟩
      have hr2:=Y0 H.out.2.2.2.1 _ hp2.1
      rw [Zh0 hr2] at hdk
      obtain ⟨CA,cc,ecv,Zcm⟩:=hdk.swap.rowCrow rfl (by have:=ZhZ p.2.cs 10;rw [Zh0 hr2] at this;omega) (Zpe hr2)
      subst ecv
      obtain ⟨OA,oc,eov⟩:=YF (Zcm.get (p:=rowP w.heap.size 70 2 rs.length ov (ers rs)) (by simp))
      subst eov
      have Qy:=Zcm.obj (q:=q17) (o:=.cells #[.int .i64 Pd,.slice CA p.2.cs.length cc] 70 (0,0)) (by simp)
      have hbo:=Zcm.obj (q:=qo) (o:=wO t (.slice OA rs.length oc)) (by simp)
      obtain ⟨s0,s1⟩:=cs2 Qy
      have s2:K0.cell? ⟨qo,1,none⟩=some (.slice OA rs.length oc):=Za hbo 1 _ rfl
      have HE:=Qh (Qi Zcm hp2)
      clear hdk Zcm hDK Qy hbo hr2 hp2 hgi ZiS
      obtain ⟨i7,hi7,hq0,hq1,hq2⟩:=info_parts Zb1
      obtain ⟨K1,e1⟩:∃ W,W=K0.alloc (.cells #[.int .i64 Pd,.slice CA p.2.cs.length cc] 70 (0,0)):=⟨_,rfl⟩
      obtain ⟨g1,eg1⟩:∃ q,q=K0.heap.size:=⟨_,rfl⟩
      have hD1:DD w K1 X (X5 Pd r) (rowP w.heap.size 70 2 rs.length (.slice OA rs.length oc) (ers rs) :: Zb qo (wO t (.slice OA rs.length oc)) :: rowP w.heap.size 3 1 (done.length+1) v5 (Zu (ZO done)++[.int .i64 Pd]) :: YO CA p.2.cs.length cc p.2.cs :: (rs.map erP++[Zb (g+1) (wO 0 (.slice none 0 0)),Zb g (wO s (.slice A n c))])):=by
       rw [e1]
       refine DD.below (DD.perm (DD.sub HE.out.1 (List.Sublist.cons_cons _ (.cons _ (.cons _ (.cons _ (List.Sublist.refl _)))))) ?_) (Zg K0 _)
       exact ((List.reverse_perm [YO CA p.2.cs.length cc p.2.cs,rowP w.heap.size 3 1 (done.length+1) v5 (Zu (ZO done)++[.int .i64 Pd]),Zb qo (wO t (.slice OA rs.length oc)),rowP w.heap.size 70 2 rs.length (.slice OA rs.length oc) (ers rs)]).symm).append_right _
      obtain ⟨x9,ex9⟩:∃ x9:ER,x9=⟨⟨Pd,p.2.cs⟩,CA,p.2.cs.length,cc⟩:=⟨_,rfl⟩
      have hnews:∀ j u,x9.cells[j]?=some u→K1.cell? ((⟨g1,0,none⟩:Addr).add j)=some u:=by rw [e1,ex9];exact XC K0 #[.int .i64 Pd,.slice CA p.2.cs.length cc] 70 g1 eg1
      have hrl:rs.length≤24:=by
       have h1:=HP.out.2.2.2.2.2.2.2.2.2
       have h2:rs.length=(XT done).length:=by rw [←HP.out.2.2.1,List.length_map]
       have h3:(XT done).length≤done.length:=List.length_filterMap_le _ _
       omega
      have hln:rs.length+1≤maxLen∧(rs.length+1)*32≤140737488355328:=by unfold maxLen;omega
      have HZ:=Qh (Qi (Qi hD1 (Qi hln hD1.bel.size)) (Qi (Qi hi7 (Qi hq0 (Qi hq1 hq2))) (Qi hnews ex9)))
      clear hD1 hln hi7 hq0 hq1 hq2 hnews ex9 hrl
      go_upto_region 13 with (at_builtin;rw [←e1,←eg1];clear e1 eg1;refine wpList_append_own_at _ rfl (.tmp 115) (.tmp 117) 22 rfl w.heap.size 70 i7 _ 2 32 Tryz.underlying22 HZ.out.2.1.1 HZ.out.2.1.2.1 HZ.out.2.1.2.2.1 HZ.out.2.1.2.2.2 rfl (by decide) _ rs.length _ rfl (HZ.out.1.1.get (p:=rowP w.heap.size 70 2 rs.length (.slice OA rs.length oc) (ers rs)) (.head _)) ⟨g1,0,none⟩ 1 1 x9.cells rfl rfl HZ.out.2.2.1 (ZaP x9) HZ.out.1.2.1.1 HZ.out.1.2.1.2 HZ.out.1.2.2 ?_;intro v7 K7 QY hg7 _ hblk7;obtain ⟨g7,c7,rfl⟩:=ownsRow_succ QY;have hD7:=HZ.out.1.1.rowApp QY hg7 hblk7;have hb7:=hD7.obj (q:=qo) (o:=wO t (.slice OA rs.length oc)) (by simp);have s3:K7.cell? ⟨qo,1,none⟩=some (.slice OA rs.length oc):=Za hb7 1 _ rfl;have s4:=Zd hb7 1;have HD7:=Qh hD7;clear QY hg7 hblk7 hD7 hb7 s0 s1 s2)
      have hd8:=HD7.out.swap.objSet (i:=1) (.slice (some ⟨g7,0,none⟩) (rs.length+1) c7)
      have hd9:DD w (K7.setCell ⟨qo,1,none⟩ (.slice (some ⟨g7,0,none⟩) (rs.length+1) c7)) X (X5 Pd r) (rowP w.heap.size 3 1 (done.length+1) v5 (Zu (ZO done)++[.int .i64 Pd]) :: Zb qo (wO t (.slice (some ⟨g7,0,none⟩) (rs.length+1) c7)) :: rowP w.heap.size 70 2 (rs.length+1) (.slice (some ⟨g7,0,none⟩) (rs.length+1) c7) (ers rs++x9.cells) :: ((rs++[x9]).map erP++[Zb (g+1) (wO 0 (.slice none 0 0)),Zb g (wO s (.slice A n c))])):=by
       have h9:=hd8.third
       refine DD.perm h9 (List.Perm.cons _ (List.Perm.cons _ (List.Perm.cons _ ?_)))
       rw [List.map_append,List.append_assoc,HZ.out.2.2.2]
       exact (List.perm_middle (l₁:=rs.map erP)).symm
      rw [Zfd] at hd9
      have FS9:=hd9.sym (by decide) (by decide)
      clear hd8 hd9
      go_wp2_with (
       go_at_call 124
       refine FS9.mono ?_
       rintro e K9 ⟨rfl,hD9⟩
       have HD9:=Qh hD9
       clear hD9 FS9)
      go_roundg r.length
      case measure=>have:=HP.out.1;rw [this];simp
      case rel=>
       refine ⟨done++[p],r,.slice (some ⟨g7,0,none⟩) (rs.length+1) c7,rs++[x9],⟨rfl,?_⟩,?_,rfl,?_,?_⟩
       ·rw [HP.out.2.1];simp
       ·rw [HN.out.2.2]
       ·rw [List.map_append,HP.out.2.2.1,HZ.out.2.2.2]
        unfold XT
        rw [List.filterMap_append]
        have hp:Za0 p=some p.2:=by unfold Za0;rw [if_neg HN.out.1]
        simp only [List.map_cons,List.map_nil,List.filterMap_cons,hp,List.filterMap_nil]
        rw [HE.out.2.2]
       ·have h:=HD9.out
        rw [HN.out.2.1,HN.out.2.2,List.length_append,List.length_append,ZcV]
        exact h
end
end Go.Proofs.YtlgcfimhfmgkmaaGreatDoor
