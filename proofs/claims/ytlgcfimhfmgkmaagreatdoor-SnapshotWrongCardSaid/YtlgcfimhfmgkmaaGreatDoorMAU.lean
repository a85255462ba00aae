/- Lemmas for the statement. -/
import Derived.Test.YtlgcfimhfmgkmaaGreatDoorMAT
set_option linter.unusedVariables false
set_option linter.unusedSimpArgs false
namespace Go.Proofs.YtlgcfimhfmgkmaaGreatDoor
open Go.RowKit
section
structure XF (w:World) (A:Option Addr) (n:Nat) (l:List Int):Prop where
 len:n=l.length
 at_:∀ (j:Nat) (x:Int),l[j]?=some x→∃ b o,A=some ⟨b,o,none⟩∧w.cell? ⟨b,o+j,none⟩=some (.int .i64 x)
 lim:n≤1000000
 rng:∀ x,x∈l→-9223372036854775808≤x∧x≤9223372036854775807
theorem XF.below {w w':World} {A:Option Addr} {n:Nat} {l:List Int} (h:XF w A n l) (hb:Below w.heap.size w w'):XF w' A n l:=
 ⟨h.len,fun j x hj=>by
  obtain ⟨b,o,e,hc⟩:=h.at_ j x hj
  exact ⟨b,o,e,(hb.cell (Zc hc)).trans hc⟩,h.lim,h.rng⟩
def YN (l:List Int) (k:Int):Int:=((l.filter (fun x=>decide (x=k))).length:Nat)
theorem ZeS (l:List Int) (k:Int):0≤YN l k∧YN l k≤l.length:=by
 have:=List.length_filter_le (fun x=>decide (x=k)) l
 unfold YN
 omega
theorem ZnQ (l:List Int) (j:Nat) (x:Int) (h:l[j]?=some x):YN (l.take (j+1))=Qc (YN (l.take j)) x (YN (l.take j) x+1):=by
 funext k
 rw [List.take_add_one,h]
 unfold Qc YN
 rw [List.filter_append]
 by_cases e:k=x
 ·subst e;simp
 ·have:¬ x=k:=fun e'=>e e'.symm
  simp [e,this]
def Zan (es:List Ent) (ids:List Int):List Ent:=es.filter (fun e=>decide (YN ids e.id=0))
def Zao (fs:List Ent) (ids:List Int):List Ent:=fs.filter (fun e=>decide (0<YN ids e.id))
def XR (es fs:List Ent) (ids:List Int):List Ent:=Zan es ids++Zao fs ids
theorem ZnR (es:List Ent) (ids:List Int) (j:Nat) (x:Ent) (h:es[j]?=some x):Zan (es.take (j+1)) ids=Zan (es.take j) ids++(if YN ids x.id=0 then [x] else []):=by
 rw [List.take_add_one,h]
 unfold Zan
 rw [List.filter_append]
 by_cases e:YN ids x.id=0<;>simp [e]
theorem ZnS (es:List Ent) (ids:List Int) (j:Nat) (x:Ent) (h:es[j]?=some x):Zao (es.take (j+1)) ids=Zao (es.take j) ids++(if 0<YN ids x.id then [x] else []):=by
 rw [List.take_add_one,h]
 unfold Zao
 rw [List.filter_append]
 by_cases e:0<YN ids x.id<;>simp [e]
theorem Zbz {P:Program} {w:World} {ops:Array Oper} {o:Oper} {a:Act} {K:Act→World→Prop} {Q:Exit→Act→World→Prop} {E:Prop}
  (hg:o.guard=none) (s x:Operand) (t:TypeId) (hop:o.op=Op.call { callee:=Callee.builtin Builtin.append,args:=#[s,x],argTypes:=#[t,t] })
  (base:Nat) (e:TypeId) (i:TypeInfo) (z:Value) (size bytes:Nat) (h1:P.underlying t=some (.slice e)) (h2:P.info? e=some i) (h3:i.zero=some z) (h4:i.size=size) (h5:i.bytes=bytes) (h6:z.cells.size=size) (h7:0<size)
  (v:Value) (k:Nat) (xs:List Value) (hs:a.eval s=v) (hown:w.ownsRow base e size v k xs) (ad:Addr) (m c:Nat) (news:List Value) (hx:a.eval x=.slice (some ad) m c) (hn:news.length=m*size)
  (hc:∀ j u,news[j]?=some u→w.cell? (ad.add j)=some u) (h1c:∀ u∈news,u.oneCell'=true) (b1:k+m≤maxLen) (b2:(k+m)*bytes≤140737488355328) (b3:base≤w.heap.size)
  (hK:∀ v' w',w'.ownsRow base e size v' (k+m) (xs++news)→w.grownBy w' v.ownBlock→(v'=.slice none 0 0↔v=.slice none 0 0∧m=0)→(v'.ownBlock=v.ownBlock∨v'.ownBlock=some w.heap.size)→K (a.put o.dst v') w') :
  if Region.wanted o (yielded ops a.tmps)=true then Oper.wp P o a w K Q else E:=by
 have hw:Region.wanted o (yielded ops a.tmps)=true:=by simp [Region.wanted,hg]
 rw [if_pos hw]
 obtain ⟨v',w',hr,r1,r2,r3,r4⟩:=run_append_own_at (P:=P) w base t o.type e i z size bytes h1 h2 h3 h4 h5 h6 h7 v k xs hown ad m c news hn hc h1c b1 b2 b3
 unfold Oper.wp execOp
 simp only [hop,resolve,invoke,builtin,Sem.run_bind,Sem.run_pure,Result.andThen_ok,List.map_toArray,List.map_cons,List.map_nil,hs,hx,hr]
 exact hK v' w' r1 r2 r3 r4
set_option maxRecDepth 100000 in
set_option maxHeartbeats 8000000 in
theorem Zca (s t:Int) (A B I:Option Addr) (n c m d q z:Nat) (es fs:List Ent) (ids:List Int) (w:World) (hT:Tabs w) (ha:Zj w A n c es) (hb:Zj w B m d fs) (hi:XF w I q ids) (va:Zl s es=true) (vb:Zl t fs=true) (hl:(XR es fs ids).length≤64) :
    Calls Tryz.prog 50 #[.agg #[.int .i64 s,.slice A n c],.agg #[.int .i64 t,.slice B m d],.slice I q z] w fun e w'=>∃ VA vn vc l,e=.returned (.tuple #[.agg #[.int .i64 t,.slice VA vn vc],.int .i64 0])∧(l.Perm (XR es fs ids)∧l.Pairwise (fun x y=>x.id≤y.id))∧Zj w' VA vn vc l∧Below w.heap.size w w':=by
  have hmm:=@run_makeMap Tryz.prog
  obtain ⟨w1,e1⟩:∃ W,W=((w.alloc (.cells #[.int .i64 s,.slice A n c] 24 (0,0))).alloc (.cells #[.int .i64 t,.slice B m d] 24 (0,0))).alloc (.cells #[.int .i64 0,.slice none 0 0] 24 (0,0)):=⟨_,rfl⟩
  obtain ⟨g,eg⟩:∃ g,g=w.heap.size:=⟨_,rfl⟩
  have hb1:Below w.heap.size w w1:=by rw [e1];exact Zab w _ _ _
  have hg0:w1.heap[g]?=some (wO s (.slice A n c)):=by rw [e1,eg];exact Zbp w _ _ _
  have hg1:w1.heap[g+1]?=some (wO t (.slice B m d)):=by rw [e1,eg];exact Zbq w _ _ _
  have hg2:w1.heap[g+1+1]?=some (wO 0 (.slice none 0 0)):=by rw [e1,eg];exact ZaQ w _ _ _
  obtain ⟨f0,f1⟩:=cs2 hg0
  obtain ⟨f2,f3⟩:=cs2 hg1
  have FA:=Qd s A n c es w1 (hT.below hb1) (ha.below hb1)
  rw [va] at FA
  have H:=Qh (Qi hT (Qi ha (Qi hb (Qi hi (Qi va (Qi vb (Qi hl (Qi hb1 (Qi hg0 (Qi hg1 (Qi hg2 eg)))))))))))
  clear hT ha hb hi va vb hl hb1 hg0 hg1 hg2
  go_enter Tryz.func50,Tryz.ntmps50
  go_upto_region 1 with fail
  rw [←e1,←eg]
  clear e1 eg
  go_upto_region 3 with (first
    | (have t1:=FA
       go_at_call 9
       refine t1.mono ?_
       rintro e w2 ⟨rfl,hb2⟩
       have k0:=(hb2.cell (Zc f2)).trans f2
       have k1:=(hb2.cell (Zc f3)).trans f3
       have Zt:Below w.heap.size w w2:=H.out.2.2.2.2.2.2.2.1.trans (hb2.mono H.out.2.2.2.2.2.2.2.1.size)
       have FB:=Qd t B m d fs w2 (H.out.1.below Zt) (H.out.2.2.1.below Zt)
       rw [H.out.2.2.2.2.2.1] at FB
       have H2:=Qh (Qi Zt hb2)
       clear hb2 Zt t1 FA f0 f1 f2 f3)
    | (have t2:=FB
       go_at_call 9
       refine t2.mono ?_
       rintro e w3 ⟨rfl,hb3⟩
       have H3:=Qh (Qi (H2.out.1.trans (hb3.mono H2.out.1.size)) (H2.out.2.trans (hb3.mono H2.out.2.size)))
       clear hb3 t2 FB k0 k1))
  obtain ⟨w4,e4⟩:∃ W,W=w3.alloc (.map #[] 0):=⟨_,rfl⟩
  obtain ⟨mb,em⟩:∃ b,b=w3.heap.size:=⟨_,rfl⟩
  have X0:Below w3.heap.size w3 w4:=by rw [e4];exact Zg w3 _
  have hM:MP w w4 g mb 0 (fun _=>0) s t (.slice A n c) (.slice B m d):=by
    have hx:=H3.out.2
    have hbl:=fun q o (h:w1.heap[q]?=some o)=>(X0.block q (Nat.lt_of_lt_of_le (Zh h) hx.size)).trans ((hx.block q (Zh h)).trans h)
    exact ⟨H3.out.1.trans (X0.mono H3.out.1.size),hbl _ _ H.out.2.2.2.2.2.2.2.2.1,hbl _ _ H.out.2.2.2.2.2.2.2.2.2.1,hbl _ _ H.out.2.2.2.2.2.2.2.2.2.2.1,YK.start (by rw [e4,em];exact heap_alloc_new w3 _),by rw [em];exact H3.out.1.size⟩
  have HM:=Qh hM
  clear hM X0
  go_upto_region 4 with fail
  rw [←e4,←em]
  clear e4 em
  go_wp2_with fail
  go_loopg [28] q (fun gh iv wr=>∃ j:Nat,gh+j=q∧iv=.int .i64 (j:Nat)∧MP w wr g mb j (YN (ids.take j)) s t (.slice A n c) (.slice B m d))
  case atStart=>exact ⟨0,rfl,rfl,HM.out⟩
  case round=>
    obtain ⟨j,hg,rfl,hMP⟩:=hrel
    obtain ⟨W,eW⟩:∃ W,W=wr:=⟨_,rfl⟩
    rw [←eW] at hMP ⊢
    clear eW
    have hi:=H.out.2.2.2.1
    have hlen:=hi.len
    have hlim:=hi.lim
    by_cases hlt:j<q
    · obtain ⟨x,hx⟩:∃ x,ids[j]?=some x:=⟨_,List.getElem?_eq_getElem (by omega)⟩
      obtain ⟨b,o,rfl,hc⟩:=hi.at_ j x hx
      have c0:=(hMP.out.cell (Zc hc)).trans hc
      have i0:(0:Int)≤(j:Int):=by omega
      have i1:(j:Int)<(q:Int):=by omega
      have i2:decide (j<q)=true:=decide_eq_true hlt
      have u2:wrap64 ((j:Int)+1)=(j:Int)+1:=Zn _ (by omega) (by omega)
      have hr:=hi.rng x (List.mem_of_getElem? hx)
      have hcl:=ZeS (ids.take j) x
      have htl:(ids.take j).length≤j:=by rw [List.length_take];omega
      obtain ⟨v,ev⟩:∃ v,v=YN (ids.take j) x:=⟨_,rfl⟩
      have u1:wrap64 (v+1)=v+1:=Zn _ (by omega) (by omega)
      have hlk:=hMP.mp.look (T:=169) Tryz.underlying169 (by simp) x hr.1 hr.2
      rw [←ev] at hlk
      obtain ⟨W2,hrun,ZeT⟩:=hMP.put (T:=169) Tryz.underlying169 (by unfold maxLen;omega) x hr.1 hr.2 (v+1) (by omega) (by omega)
      have hnx:=ZnQ ids j x hx
      rw [←ev] at hnx
      rw [←hnx] at ZeT
      have HX:=Qh (Qi hlt (Qi hg ZeT))
      clear hMP ZeT hnx hcl htl ev hr hx hlen hlim hi
      go_wp2_with fail
      go_roundg (q-(j+1))
      case measure=>have:=HX.out.1;have:=HX.out.2.1;omega
      case rel=>exact ⟨j+1,by have:=HX.out.1;omega,by go_num,HX.out.2.2⟩
    · have i2:decide (j<q)=false:=decide_eq_false hlt
      have ht:ids.take j=ids:=List.take_of_length_le (by omega)
      rw [ht] at hMP
      have p2:W.cell? ⟨g+1,0,none⟩=some (.int .i64 t):=Za hMP.b1 0 _ rfl
      have HX:=Qh hMP
      clear hMP hlt ht hi hlen hlim hg
      obtain ⟨ob,eo⟩:∃ b,b=W.heap.size:=⟨_,rfl⟩
      obtain ⟨w6,e6⟩:∃ V,V=W.alloc (.cells #[.int .i64 t,.slice none 0 0] 24 (0,0)):=⟨_,rfl⟩
      have hG0:MG w w6 g mb j (YN ids) s t (.slice A n c) (.slice B m d) ob (.slice none 0 0) []:=by
        rw [e6,eo];exact MG.new HX.out (Zh HX.out.b2)
      have p3:w6.cell? ⟨g,1,none⟩=some (.slice A n c):=Za hG0.mp.b0 1 _ rfl
      obtain ⟨i9,hi9,hz0,hz1,hz2⟩:=info_parts Zb1
      have HI:=Qh (Qi hi9 (Qi hz0 (Qi hz1 hz2)))
      have HG0:=Qh hG0
      clear hG0 hi9 hz0 hz1 hz2
      go_upto_region 10 with fail
      rw [←e6,←eo]
      clear e6 eo
      go_wp2_with fail
      go_loopg [43] n (fun gh iv wr=>∃ (j2:Nat) (ov:Value) (rs:List ER),gh+j2=n∧iv=.int .i64 (j2:Nat)∧rs.map ER.e=Zan (es.take j2) ids∧MG w wr g mb j (YN ids) s t (.slice A n c) (.slice B m d) ob ov rs)
      case atStart=>exact ⟨0,_,[],rfl,rfl,rfl,HG0.out⟩
      case round=>
        obtain ⟨j2,ov,rs,hg,rfl,hrs,hMG⟩:=hrel
        obtain ⟨W0,eW⟩:∃ W,W=wr:=⟨_,rfl⟩
        rw [←eW] at hMG ⊢
        clear eW
        have h:=H.out.2.1
        have hlen:=h.len
        have hlim:=h.lim
        by_cases hlt:j2<n
        · obtain ⟨x,hx⟩:∃ x,es[j2]?=some x:=⟨_,List.getElem?_eq_getElem (by omega)⟩
          have hW:=hMG.mp.out
          obtain ⟨b,o,CA,cn,cc,rfl,⟨c0,c1⟩,hr⟩:=h.at_ j2 x hx
          have c0:=(Zm (hW.block b (Zc c0)) _).trans c0
          have c1:=(Zm (hW.block b (Zc c1)) _).trans c1
          have hr:=hr.below hW
          obtain ⟨W1,g1,e1,eg,⟨f0,f1⟩,hb1⟩:=Zaa W0 x.id CA cn cc
          have i0:(0:Int)≤(j2:Int):=by omega
          have i1:(j2:Int)<(n:Int):=by omega
          have i2:decide (j2<n)=true:=decide_eq_true hlt
          have u2:wrap64 ((j2:Int)+1)=(j2:Int)+1:=Zn _ (by omega) (by omega)
          have hG1:=hMG.below hb1
          have hxi:=Jb (Y0 H.out.2.2.2.2.1 x (List.mem_of_getElem? hx))
          have hlk:=hG1.mp.mp.look (T:=169) Tryz.underlying169 (Tryz.zeroValue3 W1) x.id (by omega) (by omega)
          obtain ⟨v,ev⟩:∃ v,v=YN ids x.id:=⟨_,rfl⟩
          rw [←ev] at hlk
          have hmore:=ZnR es ids j2 x hx
          rw [←ev,←hrs] at hmore
          have hle:rs.length≤j2:=by
            have h1:(rs.map ER.e).length≤(es.take j2).length:=by rw [hrs];exact List.length_filter_le _ _
            rw [List.length_map,List.length_take] at h1
            omega
          have F:=Zhr x CA cn cc W1.drew (hr.below (hb1.drew))
          have k3:W1.cell? ⟨ob,1,none⟩=some ov:=Za hG1.bo 1 _ rfl
          have HN:=Qh (show rs.length+1≤maxLen∧(rs.length+1)*32≤140737488355328 from by unfold maxLen;omega)
          have HG:=Qh hG1
          have HX2:=Qh (Qi hlt (Qi hg hmore))
          clear hG1 hMG hb1 hr hW hmore hlt hg hlen hlim h hx hxi hrs hle ev
          by_cases hv:v=0
          · subst hv
            go_upto_region 13 with fail
            rw [←e1,←eg]
            clear e1 eg
            go_upto_region 14 with fail
            have hmx:Tryz.prog.follows .mixedOrders=true:=by kernel_rfl
            have JN:W1.cell? ⟨ob,1,none⟩=some ov∧W1.cell? ⟨g1,0,none⟩=some (.int .i64 x.id)∧W1.cell? ⟨g1,1,none⟩=some (.slice CA cn cc):=⟨k3,f0,f1⟩
            refine Yy (fun W=>W.cell? ⟨ob,1,none⟩=some ov∧W.cell? ⟨g1,0,none⟩=some (.int .i64 x.id)∧W.cell? ⟨g1,1,none⟩=some (.slice CA cn cc)) 5 hmx ?_
            change Zz _ _ _ _ _ _ _ _ _ (World.drew _)
            clear k3 f0 f1
            refine Zc3 (i:=0) (v:=?_) rfl (by kernel_rfl) (by kernel_rfl) (by kernel_rfl) (by decide) (fun _ _ _ h=>h) (Or.inl ⟨by kernel_rfl,?_⟩) (Or.inr JN) ?_;rotate_left;focus (intro W hW;clear hW;go_simp;try with_reducible rfl)
            refine Zb6 (i:=1) (v:=?_) 3 rfl (by kernel_rfl) (by kernel_rfl) (by kernel_rfl) (by kernel_rfl) (by kernel_rfl) (by decide) (fun _ _ _ h=>h) (Or.inl ⟨by kernel_rfl,?_⟩) JN ?_;rotate_left;focus (intro W hW;obtain ⟨hC0,hC1,hC2⟩:=hW;go_simp;try with_reducible rfl)
            refine Zb6 (i:=2) (v:=?_) 3 rfl (by kernel_rfl) (by kernel_rfl) (by kernel_rfl) (by kernel_rfl) (by kernel_rfl) (by decide) (fun _ _ _ h=>h) (Or.inl ⟨by kernel_rfl,?_⟩) JN ?_;rotate_left;focus (intro W hW;obtain ⟨hC0,hC1,hC2⟩:=hW;go_simp;try with_reducible rfl)
            refine Zi 3 rfl (fun K hK=>?_)
            go_simp
            refine F.mono ?_
            rintro e W2 ⟨PA,pn,pc,rfl,hPC,hb2⟩
            have Zt:Below W1.heap.size W1 W2:=((Below.refl _ W1).drew).trans hb2
            have HC2:W2.cell? ⟨ob,1,none⟩=some ov∧W2.cell? ⟨g1,0,none⟩=some (.int .i64 x.id)∧W2.cell? ⟨g1,1,none⟩=some (.slice CA cn cc):=⟨(Zt.cell (Zc JN.1)).trans JN.1,(Zt.cell (Zc JN.2.1)).trans JN.2.1,(Zt.cell (Zc JN.2.2)).trans JN.2.2⟩
            have HG2:=Qh (HG.out.below Zt)
            have HP:=Qh (Qi hPC Zt)
            clear hPC hb2 Zt
            refine hK _ _ ?_;clear hK K
            refine ⟨Or.inr HC2,?_⟩
            refine Zi 4 rfl (fun K hK=>?_)
            go_simp
            refine hK _ _ ?_;clear hK K
            have ZK:=Zg W2 (.cells #[.int .i64 x.id,.slice PA pn pc] 70 (0,0))
            refine ⟨Or.inr ⟨(ZK.cell (Zc HC2.1)).trans HC2.1,(ZK.cell (Zc HC2.2.1)).trans HC2.2.1,(ZK.cell (Zc HC2.2.2)).trans HC2.2.2⟩,?_⟩
            clear ZK
            refine Zi 5 rfl (fun K hK=>?_)
            refine Zbz rfl (.tmp 53) (.tmp 56) 22 rfl w.heap.size 70 i9 _ 2 32 Tryz.underlying22 HI.out.1 HI.out.2.1 HI.out.2.2.1 HI.out.2.2.2 rfl (by decide) ov rs.length (ers rs) rfl ((HG2.out.fe.below (Zg W2 _)).own) ⟨W2.heap.size,0,none⟩ 1 1 (ER.cells ⟨x,PA,pn,pc⟩) rfl rfl (XC W2 _ _ _ rfl) (ZaP _) HN.out.1 HN.out.2 ((HG2.out.fe.below (Zg W2 _)).out.size) (fun v5 W5 hown5 hg5 _ hblk=>?_)
            obtain ⟨g5,c5,rfl⟩:=ownsRow_succ hown5
            have HG6:=Qh (HG2.out.push (x:=⟨x,PA,pn,pc⟩) _ HP.out.1.1 (fun b o q e=>⟨by have:W1.heap.size≤b:=HP.out.1.2 b o q e;have:=Zh HG.out.bo;omega,fun e2=>by have:W1.heap.size≤b:=HP.out.1.2 b o q e;have:=(Yg HG.out.fe.own e2).1;omega⟩) hg5 hown5 (by rw [World.size_alloc] at hblk;exact hblk))
            have bo5:W5.heap[ob]?=some (wO t ov):=(hg5.block ob (Nat.lt_of_lt_of_le (Zh HG2.out.bo) (Zg W2 _).size) (fun e=>Q6 HG2.out.fe.own HG2.out.bo (by decide) e.symm)).trans (((Zg W2 _).block ob (Zh HG2.out.bo)).trans HG2.out.bo)
            have y1:W5.cell? ⟨ob,1,none⟩=some ov:=Za bo5 1 _ rfl
            have y2:W5.frozen? ⟨ob,1,none⟩=false:=Zd bo5 1
            clear hown5 hg5 hblk bo5
            refine hK _ _ ?_;clear hK K
            refine ⟨Or.inl (by kernel_rfl),?_⟩
            refine tkq 6 rfl ?_
            refine Zi 7 rfl (fun K hK=>?_)
            go_simp
            refine hK _ _ ?_;clear hK K
            refine ⟨Or.inl (by kernel_rfl),?_⟩
            refine ZX (by kernel_rfl) ?_ _
            go_wp2_with fail
            go_roundg (n-(j2+1))
            case measure=>have:=HX2.out.1;have:=HX2.out.2.1;omega
            case rel=>
              obtain ⟨h1,h2,h3⟩:=HX2.out
              refine ⟨j2+1,_,_,by omega,by go_num,?_,HG6.out⟩
              rw [h3,if_pos trivial,List.map_append];rfl
          · have hv2:(v==0)=false:=by rw [beq_eq_false_iff_ne];exact hv
            go_upto_region 13 with fail
            rw [←e1,←eg]
            clear e1 eg
            go_wp2_with fail
            go_roundg (n-(j2+1))
            case measure=>have:=HX2.out.1;have:=HX2.out.2.1;omega
            case rel=>
              obtain ⟨h1,h2,h3⟩:=HX2.out
              refine ⟨j2+1,_,_,by omega,by go_num,?_,HG.out⟩
              rw [h3,if_neg hv,List.append_nil]
        · have i2:decide (j2<n)=false:=decide_eq_false hlt
          have ht:es.take j2=es:=List.take_of_length_le (by omega)
          rw [ht] at hrs
          have p4:W0.cell? ⟨g+1,1,none⟩=some (.slice B m d):=Za hMG.mp.b1 1 _ rfl
          have HY:=Qh (Qi hrs hMG)
          clear hrs hMG hlt ht h hlen hlim hg HX HG0
          obtain ⟨rs0,ZhK⟩:∃ l,l=rs:=⟨_,rfl⟩
          rw [←ZhK] at HY
          clear ZhK
          go_wp2_with fail
          go_loopg [63] m (fun gh iv wr=>∃ (j3:Nat) (ov:Value) (rs:List ER),gh+j3=m∧iv=.int .i64 (j3:Nat)∧rs.map ER.e=Zan es ids++Zao (fs.take j3) ids∧MG w wr g mb j (YN ids) s t (.slice A n c) (.slice B m d) ob ov rs)
          case atStart=>exact ⟨0,_,rs0,rfl,rfl,HY.out.1.trans (by simp [Zao]),HY.out.2⟩
          case round=>
            obtain ⟨j3,ov,rs,hg,rfl,hrs,hMG⟩:=hrel
            obtain ⟨W0,eW⟩:∃ W,W=wr:=⟨_,rfl⟩
            rw [←eW] at hMG ⊢
            clear eW
            have h:=H.out.2.2.1
            have hlen:=h.len
            have hlim:=h.lim
            by_cases hlt:j3<m
            · obtain ⟨x,hx⟩:∃ x,fs[j3]?=some x:=⟨_,List.getElem?_eq_getElem (by omega)⟩
              have hW:=hMG.mp.out
              obtain ⟨b,o,CA,cn,cc,rfl,⟨c0,c1⟩,hr⟩:=h.at_ j3 x hx
              have c0:=(Zm (hW.block b (Zc c0)) _).trans c0
              have c1:=(Zm (hW.block b (Zc c1)) _).trans c1
              have hr:=hr.below hW
              obtain ⟨W1,g1,e1,eg,⟨f0,f1⟩,hb1⟩:=Zaa W0 x.id CA cn cc
              have i0:(0:Int)≤(j3:Int):=by omega
              have i1:(j3:Int)<(m:Int):=by omega
              have i2:decide (j3<m)=true:=decide_eq_true hlt
              have u2:wrap64 ((j3:Int)+1)=(j3:Int)+1:=Zn _ (by omega) (by omega)
              have hG1:=hMG.below hb1
              have hxi:=Jb (Y0 H.out.2.2.2.2.2.1 x (List.mem_of_getElem? hx))
              have hlk:=hG1.mp.mp.look (T:=169) Tryz.underlying169 (Tryz.zeroValue3 W1) x.id (by omega) (by omega)
              obtain ⟨v,ev⟩:∃ v,v=YN ids x.id:=⟨_,rfl⟩
              rw [←ev] at hlk
              have hmore:=ZnS fs ids j3 x hx
              rw [←ev] at hmore
              have hmore:Zan es ids++Zao (fs.take (j3+1)) ids=rs.map ER.e++(if 0<v then [x] else []):=by rw [hmore,hrs,List.append_assoc]
              have hv0:0≤v:=by rw [ev];exact (ZeS ids x.id).1
              have hle:rs.length≤n+j3:=by
                have h1:(rs.map ER.e).length≤es.length+(fs.take j3).length:=by rw [hrs,List.length_append];exact Nat.add_le_add (List.length_filter_le _ _) (List.length_filter_le _ _)
                rw [List.length_map,List.length_take] at h1
                have h2:=H.out.2.1.len
                omega
              have F:=Zhr x CA cn cc W1.drew (hr.below (hb1.drew))
              have k3:W1.cell? ⟨ob,1,none⟩=some ov:=Za hG1.bo 1 _ rfl
              have HN:=Qh (show rs.length+1≤maxLen∧(rs.length+1)*32≤140737488355328 from by have:=H.out.2.1.lim;unfold maxLen;omega)
              have HG:=Qh hG1
              have HX2:=Qh (Qi hlt (Qi hg hmore))
              clear hG1 hMG hb1 hr hW hmore hv0 hlt hg hlen hlim h hx hxi hrs hle ev
              by_cases hv:0<v
              · have hv2:decide (0<v)=true:=decide_eq_true hv
                go_upto_region 19 with fail
                rw [←e1,←eg]
                clear e1 eg
                go_upto_region 20 with fail
                have hmx:Tryz.prog.follows .mixedOrders=true:=by kernel_rfl
                have JO:W1.cell? ⟨ob,1,none⟩=some ov∧W1.cell? ⟨g1,0,none⟩=some (.int .i64 x.id)∧W1.cell? ⟨g1,1,none⟩=some (.slice CA cn cc):=⟨k3,f0,f1⟩
                refine Yy (fun W=>W.cell? ⟨ob,1,none⟩=some ov∧W.cell? ⟨g1,0,none⟩=some (.int .i64 x.id)∧W.cell? ⟨g1,1,none⟩=some (.slice CA cn cc)) 5 hmx ?_
                change Zz _ _ _ _ _ _ _ _ _ (World.drew _)
                clear k3 f0 f1
                refine Zc3 (i:=0) (v:=?_) rfl (by kernel_rfl) (by kernel_rfl) (by kernel_rfl) (by decide) (fun _ _ _ h=>h) (Or.inl ⟨by kernel_rfl,?_⟩) (Or.inr JO) ?_;rotate_left;focus (intro W hW;clear hW;go_simp;try with_reducible rfl)
                refine Zb6 (i:=1) (v:=?_) 3 rfl (by kernel_rfl) (by kernel_rfl) (by kernel_rfl) (by kernel_rfl) (by kernel_rfl) (by decide) (fun _ _ _ h=>h) (Or.inl ⟨by kernel_rfl,?_⟩) JO ?_;rotate_left;focus (intro W hW;obtain ⟨hC0,hC1,hC2⟩:=hW;go_simp;try with_reducible rfl)
                refine Zb6 (i:=2) (v:=?_) 3 rfl (by kernel_rfl) (by kernel_rfl) (by kernel_rfl) (by kernel_rfl) (by kernel_rfl) (by decide) (fun _ _ _ h=>h) (Or.inl ⟨by kernel_rfl,?_⟩) JO ?_;rotate_left;focus (intro W hW;obtain ⟨hC0,hC1,hC2⟩:=hW;go_simp;try with_reducible rfl)
                refine Zi 3 rfl (fun K hK=>?_)
                go_simp
                refine F.mono ?_
                rintro e W2 ⟨PA,pn,pc,rfl,hPC,hb2⟩
                have Zt:Below W1.heap.size W1 W2:=((Below.refl _ W1).drew).trans hb2
                have HC2:W2.cell? ⟨ob,1,none⟩=some ov∧W2.cell? ⟨g1,0,none⟩=some (.int .i64 x.id)∧W2.cell? ⟨g1,1,none⟩=some (.slice CA cn cc):=⟨(Zt.cell (Zc JO.1)).trans JO.1,(Zt.cell (Zc JO.2.1)).trans JO.2.1,(Zt.cell (Zc JO.2.2)).trans JO.2.2⟩
                have HG2:=Qh (HG.out.below Zt)
                have HP:=Qh (Qi hPC Zt)
                clear hPC hb2 Zt
                refine hK _ _ ?_;clear hK K
                refine ⟨Or.inr HC2,?_⟩
                refine Zi 4 rfl (fun K hK=>?_)
                go_simp
                refine hK _ _ ?_;clear hK K
                have ZK:=Zg W2 (.cells #[.int .i64 x.id,.slice PA pn pc] 70 (0,0))
                refine ⟨Or.inr ⟨(ZK.cell (Zc HC2.1)).trans HC2.1,(ZK.cell (Zc HC2.2.1)).trans HC2.2.1,(ZK.cell (Zc HC2.2.2)).trans HC2.2.2⟩,?_⟩
                clear ZK
                refine Zi 5 rfl (fun K hK=>?_)
                refine Zbz rfl (.tmp 73) (.tmp 76) 22 rfl w.heap.size 70 i9 _ 2 32 Tryz.underlying22 HI.out.1 HI.out.2.1 HI.out.2.2.1 HI.out.2.2.2 rfl (by decide) ov rs.length (ers rs) rfl ((HG2.out.fe.below (Zg W2 _)).own) ⟨W2.heap.size,0,none⟩ 1 1 (ER.cells ⟨x,PA,pn,pc⟩) rfl rfl (XC W2 _ _ _ rfl) (ZaP _) HN.out.1 HN.out.2 ((HG2.out.fe.below (Zg W2 _)).out.size) (fun v5 W5 hown5 hg5 _ hblk=>?_)
                obtain ⟨g5,c5,rfl⟩:=ownsRow_succ hown5
                have HG6:=Qh (HG2.out.push (x:=⟨x,PA,pn,pc⟩) _ HP.out.1.1 (fun b o q e=>⟨by have:W1.heap.size≤b:=HP.out.1.2 b o q e;have:=Zh HG.out.bo;omega,fun e2=>by have:W1.heap.size≤b:=HP.out.1.2 b o q e;have:=(Yg HG.out.fe.own e2).1;omega⟩) hg5 hown5 (by rw [World.size_alloc] at hblk;exact hblk))
                have bo5:W5.heap[ob]?=some (wO t ov):=(hg5.block ob (Nat.lt_of_lt_of_le (Zh HG2.out.bo) (Zg W2 _).size) (fun e=>Q6 HG2.out.fe.own HG2.out.bo (by decide) e.symm)).trans (((Zg W2 _).block ob (Zh HG2.out.bo)).trans HG2.out.bo)
                have y1:W5.cell? ⟨ob,1,none⟩=some ov:=Za bo5 1 _ rfl
                have y2:W5.frozen? ⟨ob,1,none⟩=false:=Zd bo5 1
                clear hown5 hg5 hblk bo5
                refine hK _ _ ?_;clear hK K
                refine ⟨Or.inl (by kernel_rfl),?_⟩
                refine tkq 6 rfl ?_
                refine Zi 7 rfl (fun K hK=>?_)
                go_simp
                refine hK _ _ ?_;clear hK K
                refine ⟨Or.inl (by kernel_rfl),?_⟩
                refine ZX (by kernel_rfl) ?_ _
                go_wp2_with fail
                go_roundg (m-(j3+1))
                case measure=>have:=HX2.out.1;have:=HX2.out.2.1;omega
                case rel=>
                  obtain ⟨h1,h2,h3⟩:=HX2.out
                  refine ⟨j3+1,_,_,by omega,by go_num,?_,HG6.out⟩
                  rw [h3,if_pos hv,List.map_append];rfl
              · have hv2:decide (0<v)=false:=decide_eq_false hv
                go_upto_region 19 with fail
                rw [←e1,←eg]
                clear e1 eg
                go_wp2_with fail
                go_roundg (m-(j3+1))
                case measure=>have:=HX2.out.1;have:=HX2.out.2.1;omega
                case rel=>
                  obtain ⟨h1,h2,h3⟩:=HX2.out
                  refine ⟨j3+1,_,_,by omega,by go_num,?_,HG.out⟩
                  rw [h3,if_neg (by omega),List.append_nil]
            · have i2:decide (j3<m)=false:=decide_eq_false hlt
              have ht:fs.take j3=fs:=List.take_of_length_le (by omega)
              rw [ht] at hrs
              have hrl:rs.length≤64:=by
                have h1:=H.out.2.2.2.2.2.2.1
                unfold XR at h1
                rw [←hrs,List.length_map] at h1
                exact h1
              obtain ⟨VA,vc,rfl,-⟩:=hMG.fe.fin (W':=W0) (by omega) (fun _ _=>rfl)
              have p5:W0.cell? ⟨ob,1,none⟩=some (.slice VA rs.length vc):=Za hMG.bo 1 _ rfl
              have i3:(rs.length:Int)≤64:=by omega
              have hid:∀ r,r∈rs→0≤r.e.id∧r.e.id≤65536:=fun r hr=>by
                have h1:r.e∈rs.map ER.e:=List.mem_map.2 ⟨r,hr,rfl⟩
                rw [hrs] at h1
                rcases List.mem_append.1 h1 with h1 | h1
                · have:=Jb (Y0 H.out.2.2.2.2.1 r.e (List.mem_filter.1 h1).1);omega
                · have:=Jb (Y0 H.out.2.2.2.2.2.1 r.e (List.mem_filter.1 h1).1);omega
              obtain ⟨L,eL⟩:=Zhw rs hid
              have hLl:L.length=rs.length:=by rw [←eL,List.length_map]
              have FS:=Znv w W0 (.slice VA rs.length vc) L (by rw [eL];exact hMG.fe) (by omega)
              have HZ:=Qh (Qi hrs (Qi hMG (Qi eL hLl)))
              clear hrs hMG hlt ht h hlen hlim hg HY hid eL hLl hrl
              go_upto_region 25 with (go_at_call 108;refine FS.mono ?_;rintro e W7 ⟨rfl,rs',hps,hF7,hg7⟩;have H7:=Qh (Qi hps (Qi hF7 hg7));clear hps hF7 hg7 FS)
              have hbl:∀ (qq:Nat) (tt:Int) (vv:Value),W0.heap[qq]?=some (wO tt vv)→W7.heap[qq]?=some (wO tt vv):=fun qq tt vv hq=>(H7.out.2.2.block qq (Zh hq) (fun e=>Q6 HZ.out.2.1.fe.own hq (by decide) e.symm)).trans hq
              have bo7:=hbl _ _ _ HZ.out.2.1.bo
              have b27:=hbl _ _ _ HZ.out.2.1.mp.b2
              obtain ⟨y0,y1⟩:=cs2 bo7
              obtain ⟨y2,y3⟩:=cs2 b27
              have y4:=Zd b27 0
              have y5:=Zd b27 1
              have HB:=Qh b27
              clear bo7 b27 hbl
              go_wp2_with fail
              obtain ⟨hrs,hMG,eL,hLl⟩:=HZ.out
              obtain ⟨⟨hperm,hsort⟩,hF7,hg7⟩:=H7.out
              refine bodyPost_ret (Zeo rfl _ _ (g+1+1) _ rfl rfl (Yw (.int .i64 t) (.slice VA rs.length vc) HB.out)) rfl ?_
              have hout:Below w.heap.size w (put2 W7 (g+1+1) (.int .i64 t) (.slice VA rs.length vc)):=YB _ _ hF7.out (by have:=H.out.2.2.2.2.2.2.2.2.2.2.2;omega)
              have hmem:∀ r,r∈rs'.map ERB.r→r∈rs:=fun r hr=>by rw [←eL];exact (hperm.map _).mem_iff.1 hr
              have hlen':(rs'.map ERB.r).length=rs.length:=by rw [List.length_map,hperm.length_eq,hLl]
              obtain ⟨A6,c6,e6,hE⟩:=ZcW (w:=put2 W7 (g+1+1) (.int .i64 t) (.slice VA rs.length vc)) (l:=rs'.map ERB.r)
                (XW hF7.own (fun qq hq=>YE _ _ _ _ (fun e=>Q6 hF7.own HB.out (by decide) (by rw [hq,e]))))
                (by rw [hlen'];have:=H.out.2.1.lim;omega)
                (fun r hr=>(hF7.row r hr).stepN (fun hne b o qq hA hl=>YE _ _ _ _ (by have:=hMG.fo r (hmem r hr) hne b o qq hA;have:=hMG.gt;omega)))
              injection e6 with e6 e7 e8
              subst e6 e8
              refine ⟨VA,rs.length,vc,rs'.map (fun x=>x.r.e),rfl,⟨?_,?_⟩,?_,hout⟩
              · have h1:(rs'.map (fun x=>x.r.e)).Perm (L.map (fun x=>x.r.e)):=hperm.map _
                have h2:L.map (fun x=>x.r.e)=XR es fs ids:=by
                  have:L.map (fun x=>x.r.e)=(L.map ERB.r).map ER.e:=by rw [List.map_map];rfl
                  rw [this,eL];exact hrs
                rw [←h2];exact h1
              · rw [List.pairwise_map];exact hsort
              · rw [List.map_map,hlen'] at hE
                exact hE
end
end Go.Proofs.YtlgcfimhfmgkmaaGreatDoor
