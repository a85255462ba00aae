/- Lemmas for the statement. -/
import Derived.Test.YtlgcfimhfmgkmaaGreatDoorMAC
set_option linter.unusedVariables false
set_option linter.unusedSimpArgs false
set_option maxRecDepth 100000
set_option maxHeartbeats 1000000
namespace Go.Proofs.YtlgcfimhfmgkmaaGreatDoor
open Go.RowKit
section
theorem Zli {P:Program} {f:FuncId} {args:Array Value} {w:World} {a n:Nat} {v:Value}
  (h:Calls P f args (w.drewN (a+n)) fun e w'=>e=.returned v∧w.drewN (a+n)=w'):Calls P f args (w.drewN (a+n)) fun e w''=>e=.returned v∧∃ m,w''=w.drewN (a+m):=
 h.mono fun _ _ ⟨he,hm⟩=>⟨he,n,hm.symm⟩
theorem Zbl {s:St} (h:pick s=none):2147483648≤s.hi∧s.lo<2147483648∧(s.lo<1073741824∨3221225472≤s.hi):=by
 unfold pick at h
 split at h
 ·cases h
 split at h
 ·cases h
 split at h
 ·cases h
 omega
theorem Zlj (bit:Nat→Nat) (k:Nat):∀ s,(Yo bit k s).cnt=s.cnt:=by
 induction k with
 | zero=>intro s;rfl
 | succ k ih=>
  intro s
  simp only [Yo]
  split
  ·rfl
  ·rw [ih];rfl
def narrow (fr:List Nat) (i:Nat) (s:St):St:=
 { s with lo:=s.lo+(s.hi-s.lo+1)*(fr.take i).sum / fr.sum,hi:=s.lo+(s.hi-s.lo+1)*((fr.take i).sum+fr.getD i 0) / fr.sum-1 }
def YH (bit:Nat→Nat) (fr:List Nat) (i:Nat) (s:St):St:=
 { Yo bit 16 (narrow fr i s) with cnt:=s.cnt+1 }
theorem Zgd (a b t:Nat) (ht:0<t):a / t+b / t≤(a+b) / t:=by
 rw [Nat.le_div_iff_mul_le ht,Nat.add_mul]
 exact Nat.add_le_add (Nat.div_mul_le_self a t) (Nat.div_mul_le_self b t)
theorem J4 {fr:List Nat} (h:∀ x,x∈fr→1≤x) {i:Nat} (hi:i<fr.length):1≤fr.getD i 0:=by
 rw [List.getD_eq_getElem?_getD,List.getElem?_eq_getElem hi]
 exact h _ (List.getElem_mem hi)
theorem ZcH (sz a x t:Nat) (h1:1073741824<sz) (h2:sz≤4294967296) (hx:1≤x) (ht:a+x≤t) (h3:t≤8192) :
    sz*a / t+131072≤sz*(a+x) / t∧sz*(a+x) / t≤sz∧sz*(a+x)≤35184372088832∧sz*a≤35184372088832:=by
  have h0:0<t:=by omega
  refine ⟨?_,?_,?_,?_⟩
  · have e1:131072≤sz / t:=by rw [Nat.le_div_iff_mul_le h0];omega
    have e2:=Zgd (sz*a) sz t h0
    have e3:(sz*a+sz) / t≤sz*(a+x) / t:=by
      refine Nat.div_le_div_right ?_
      rw [Nat.mul_add]
      have:=Nat.mul_le_mul_left sz hx
      omega
    omega
  · rw [Nat.div_le_iff_le_mul_add_pred h0]
    have:=Nat.mul_le_mul_left sz ht
    rw [Nat.mul_comm t sz]
    omega
  · calc sz*(a+x)≤4294967296*8192:=Nat.mul_le_mul h2 (by omega)
      _=35184372088832:=rfl
  · calc sz*a≤4294967296*8192:=Nat.mul_le_mul h2 (by omega)
      _=35184372088832:=rfl
theorem Jk {fr:List Nat} {i:Nat} (hi:i<fr.length):(fr.take i).sum+fr.getD i 0≤fr.sum:=by
 have:=Zbk fr (i+1)
 rw [ZaJ fr i hi] at this
 exact this
theorem J6 {fr:List Nat} {i:Nat} {s:St} (hg:Good s) (hs:pick s=none) (h1:∀ x,x∈fr→1≤x) (h2:fr.sum≤8192) (hi:i<fr.length) :
  Good (narrow fr i s)∧131072≤(narrow fr i s).hi-(narrow fr i s).lo+1∧s.lo≤(narrow fr i s).lo∧(narrow fr i s).hi≤s.hi:=by
 obtain ⟨p1,p2,p3⟩:=Zbl hs
 have hh:=hg.hi
 obtain ⟨c1,c2,_,_⟩:=ZcH (s.hi-s.lo+1) ((fr.take i).sum) (fr.getD i 0) fr.sum (by omega) (by omega) (J4 h1 hi) (Jk hi) h2
 have ho:=hg.out
 have hn:=hg.num
 unfold narrow
 generalize (s.hi-s.lo+1)*(fr.take i).sum / fr.sum=qa at c1 ⊢
 generalize (s.hi-s.lo+1)*((fr.take i).sum+fr.getD i 0) / fr.sum=qb at c1 c2 ⊢
 refine ⟨⟨?_,?_,ho,hn⟩,?_,?_,?_⟩<;>(simp only [];omega)
theorem Zlk {X:Box} {F:List Nat} {st:St} {bm g:Nat} {fr:List Nat} (i:Nat) (w:World) (h:COk X w F st (4294967295-st.hi)) (hB:X.B≤w.heap.size) (hg:Good st) (hset:pick st=none) (hm:MOk w bm g fr) (hi:i<fr.length)
  (hF:bm∉F∧g∉F) (hG:bm∉X.G∧g∉X.G) (ha:st.at_≤900000) (hc:st.cnt≤1000000) :
  Calls Tryz.prog 167 #[.pointer (some ⟨X.bw,0,none⟩),.pointer (some ⟨bm,0,none⟩),.int .i64 (i:Nat)] w fun e w'=>e=.returned (.tuple #[])∧∃ F',COk X w' F' (YH X.bit fr i st) (4294967295-(YH X.bit fr i st).hi)∧MOk w' bm g (learn fr i)∧Fr (F++[bm,g]) w (F'++[bm,g]) w':=by
 obtain ⟨ng,nr,nl,nh⟩:=J6 hg hset hm.one hm.tot hi
 obtain ⟨p1,p2,p3⟩:=Zbl hset
 have hhi:=hg.hi
 obtain ⟨c1,c2,c3,c4⟩:=ZcH (st.hi-st.lo+1) ((fr.take i).sum) (fr.getD i 0) fr.sum (by omega) (by omega) (J4 hm.one hi) (Jk hi) hm.tot
 have htot:=hm.tot
 have Zd8:=hm.few
 have htk:=Jk hi
 have hx1:=J4 hm.one hi
 have hbel:=fun n=>Zk9 i (w.drewN n) (hm.same rfl rfl) (Nat.le_of_lt hi)
 have hhigh:=fun n=>Zd7 st.hi (w.drewN n) (h.drewN n) (by omega)
 have hnar:narrow fr i st={ st with lo:=st.lo+(st.hi-st.lo+1)*(fr.take i).sum / fr.sum,hi:=st.lo+(st.hi-st.lo+1)*((fr.take i).sum+fr.getD i 0) / fr.sum-1 }:=rfl
 obtain ⟨m0,m1⟩:=Qi hm.c0 hm.c1
 have mi:=hm.at_ hi
 obtain ⟨a,ea⟩:∃ a,a=(fr.take i).sum:=⟨_,rfl⟩
 obtain ⟨x,ex⟩:∃ x,x=fr.getD i 0:=⟨_,rfl⟩
 obtain ⟨t,et⟩:∃ t,t=fr.sum:=⟨_,rfl⟩
 obtain ⟨n,en⟩:∃ n,n=fr.length:=⟨_,rfl⟩
 rw [←ea,←ex,←et] at c1 c2 hnar
 rw [←ea,←ex] at c3
 rw [←ea] at c4
 rw [←ea,←ex,←et] at htk
 rw [←ea] at hbel
 rw [←ex] at mi hx1
 rw [←et] at m1 htot
 rw [←en] at m0 Zd8
 have hin:i<n:=by omega
 obtain ⟨lo,elo⟩:∃ l,l=st.lo:=⟨_,rfl⟩
 obtain ⟨hh,ehh⟩:∃ l,l=st.hi:=⟨_,rfl⟩
 obtain ⟨k0,k1,_,k3,_,_,_,kf⟩:=h.cells
 have f0:=kf 0
 have f1:=kf 1
 have f3:=kf 3
 rw [←elo] at k0
 rw [←elo,←ehh] at c1 c2 c3 c4 hnar p3
 rw [←ehh] at p1
 rw [←elo] at p2
 rw [←ehh] at k1 hhigh hhi
 obtain ⟨sz,esz⟩:∃ sz,sz=hh-lo+1:=⟨_,rfl⟩
 rw [←esz] at c1 c2 c3 c4 hnar
 obtain ⟨pb,epb⟩:∃ p,p=sz*(a+x):=⟨_,rfl⟩
 obtain ⟨pa,epa⟩:∃ p,p=sz*a:=⟨_,rfl⟩
 rw [←epb,←epa] at c1
 rw [←epb] at c2 c3 
 rw [←epa] at c4
 rw [←epb,←epa] at hnar
 obtain ⟨qb,eqb⟩:∃ p,p=pb / t:=⟨_,rfl⟩
 obtain ⟨qa,eqa⟩:∃ p,p=pa / t:=⟨_,rfl⟩
 rw [←eqb,←eqa] at c1 hnar
 rw [←eqb] at c2
 have r1:(sz:Int)*((a:Int)+(x:Int))=(pb:Nat):=by rw [epb];push_cast;rfl
 have r2:(sz:Int)*(a:Int)=(pa:Nat):=by rw [epa];push_cast;rfl
 have r3:(pb:Int) / (t:Int)=(qb:Nat):=by rw [eqb];rfl
 have r4:(pa:Int) / (t:Int)=(qa:Nat):=by rw [eqa];rfl
 have hsz:(hh:Int)-(lo:Int)+1=(sz:Nat):=by omega
 have H:=Qh (Qi h (Qi hm (Qi hnar (Qi ng (Qi nr hB)))))
 have HC:=Qh (Qi hbel hhigh)
 have HE:=Qh (Qi elo (Qi ehh esz))
 clear h hm hnar ng nr hB hbel hhigh elo ehh epb epa eqb eqa ea ex et en hg hset nl nh kf
 have hl1:lo≤hh:=by omega
 clear p1 p2 p3 esz
 go_enter Tryz.func167,Tryz.ntmps167
 go_wp2_with fail
 go_quiet ((go_at_call 205;exact ZfW (HC.out.1 _)))
 rename Nat=>nq1
 go_wp2_with fail
 go_quiet ((go_at_call 206;exact Zli (HC.out.2 _)))
 rename Nat=>nq2
 go_wp2_with fail
 go_quiet (fail)
 rename Nat=>nq3
 go_upto_region 4 with fail
 have hz1:COk X (((w.drewN nq1).drewN nq2).drewN nq3) F st (4294967295-st.hi):=((H.out.1.drewN _).drewN _).drewN _
 have hz2:MOk (((w.drewN nq1).drewN nq2).drewN nq3) bm g fr:=H.out.2.1.same rfl rfl
 have hz3:Fr F w F (((w.drewN nq1).drewN nq2).drewN nq3):=(((Fr.refl _ _).drewN _).drewN _).drewN _
 have hz4:X.B≤(((w.drewN nq1).drewN nq2).drewN nq3).heap.size:=H.out.2.2.2.2.2
 obtain ⟨wz,ewz⟩:∃ wz,wz=(((w.drewN nq1).drewN nq2).drewN nq3):=⟨_,rfl⟩
 rw [←ewz] at hz1 hz2 hz3 hz4 ⊢
 clear ewz k0 k1 f0 f1
 obtain ⟨k0,k1,_,_,_,_,_,kf⟩:=hz1.cells
 have f0:=kf 0
 have f1:=kf 1
 rw [←HE.out.1] at k0
 rw [←HE.out.2.1] at k1
 have HZ:=Qh (Qi hz1 (Qi hz2 (Qi hz3 hz4)))
 clear hz1 hz2 hz3 hz4 kf f3 k3
 go_cut [] (fun wx=>COk X wx F (narrow fr i st) (4294967295-(narrow fr i st).hi)∧Fr F w F wx∧MOk wx bm g fr)
 case first=>
  go_region
  all_goals
   go_wp2_with fail
   go_meet
   have e1:(4294967295:Int)-((lo:Int)+(qb:Int)-1)=((4294967295-(lo+qb-1):Nat):Int):=by omega
   rw [e1]
   have hne:∀ q,q∉F→X.bw≠q:=fun q hq e=>hq (by rw [←e];exact HZ.out.1.head)
   refine ⟨?_,((HZ.out.2.2.1.store HZ.out.1.head 0 _).store HZ.out.1.head 1 _).drewN 1,?_⟩
   ·rw [H.out.2.2.1]
    exact (((HZ.out.1.set_lo (lo+qa)).set_sh (4294967295-(lo+qb-1))).hi _).drew
   ·refine HZ.out.2.1.same ?_ ?_
    ·exact (Below.heap_setCell _ _ _ _ (hne bm hF.1).symm).trans (Below.heap_setCell _ _ _ _ (hne bm hF.1).symm)
    ·exact (Below.heap_setCell _ _ _ _ (hne g hF.2).symm).trans (Below.heap_setCell _ _ _ _ (hne g hF.2).symm)
 case rest=>
  have HW:=Qh hcut;clear hcut k0 k1 f0 f1 r1 r2 r3 r4 hsz
  go_wp2_with fail
  refine (Zlh wc HW.out.1 (by have:=H.out.2.2.2.1.hi;omega) (Nat.le_trans H.out.2.2.2.2.2 HW.out.2.1.size) H.out.2.2.2.1 H.out.2.2.2.2.1 ha).mono ?_
  rintro e w1 ⟨rfl,F1,h1,fr1⟩
  have hb1:bm∉F∧g∉F:=hF
  have hm1:=HW.out.2.2.keep fr1 hF.1 hF.2
  have H1:=Qh (Qi h1 (Qi fr1 hm1));clear h1 fr1 hm1
  go_wp2_with fail
  refine (Zld i w1 H1.out.2.2 hi).mono ?_
  rintro e w2 ⟨rfl,hm2,fr2⟩
  have hF1:bm∉F1∧g∉F1:=by
   have hl:=H1.out.2.1.apart (H:=[bm,g]) (by intro q hq;simp at hq;rcases hq with rfl|rfl;exact hF.1;exact hF.2) (by intro q hq;simp at hq;rcases hq with rfl|rfl;exact lt_of_block HW.out.2.2.blk;exact lt_of_block HW.out.2.2.row)
   exact ⟨hl bm (by simp),hl g (by simp)⟩
  have h2:=H1.out.1.keep fr2 (by intro q hq h;simp at h;rcases h with rfl|rfl;exact hF1.1 hq;exact hF1.2 hq) (by intro q hq h;simp at h;rcases h with rfl|rfl;exact hG.1 hq;exact hG.2 hq)
  obtain ⟨_,_,_,k3,_,_,_,kf⟩:=h2.cells
  have f3:=kf 3
  have hcnt:(Yo X.bit 16 (narrow fr i st)).cnt=st.cnt:=(Zlj _ _ _).trans rfl
  rw [hcnt] at k3
  have H2:=Qh (Qi h2 (Qi fr2 (Qi hm2 (Qi hF1 hcnt))));clear h2 fr2 hm2 kf hF1 hcnt
  go_wp2_with fail
  go_end0
  refine ⟨rfl,F1,?_,?_,?_⟩
  ·have:=H2.out.1.set_cnt (st.cnt+1)
   exact this
  ·refine H2.out.2.2.1.same ?_ ?_
   ·exact Below.heap_setCell _ _ _ _ (fun e=>H2.out.2.2.2.1.1 (by rw [e];exact H2.out.1.head))
   ·exact Below.heap_setCell _ _ _ _ (fun e=>H2.out.2.2.2.1.2 (by rw [e];exact H2.out.1.head))
  ·have q1:Fr (F++[bm,g]) w (F1++[bm,g]) w1:=(HW.out.2.1.trans H1.out.2.1).more [bm,g]
   have q2:Fr (F1++[bm,g]) w1 (F1++[bm,g]) w2:=⟨H2.out.2.1.os,H2.out.2.1.tape,H2.out.2.1.output,H2.out.2.1.size,fun q hq hn=>H2.out.2.1.block q hq (fun e=>hn (List.mem_append_right _ e)),fun q hq=>Or.inl hq⟩
   exact (q1.trans q2).store (List.mem_append_left _ H2.out.1.head) 3 _
end
section
open M (bitsOf bitsOf_length numOf)
def YA (s:St):List Bool:=s.out++(decide (1073741824≤s.lo) :: List.replicate (s.dl+1) (!decide (1073741824≤s.lo)))
theorem ZbX (s:St):(YA s).length=s.out.length+s.dl+2:=by unfold YA;simp;omega
def Jl (B:Nat):Box:={ B:=B,bw:=B,T:=186,G:=[],A:=none,n:=0,cap:=0,f:=fun _=>0,x9:=none }
def J7 (d:Nat) (l:List Bool):St:={ lo:=0,hi:=0,dl:=d,cnt:=0,out:=l,num:=0,at_:=0 }
theorem Zll (w:World) (d:Nat):COk (Jl w.heap.size) (w.alloc (.cells #[.int .u64 0,.int .u64 0,.int .i64 (d:Nat),.int .i64 0,.slice none 0 0,.int .i64 0,.int .u64 0,.slice none 0 0,.int .i64 0] 186)) [w.heap.size] (J7 d []) 0:=
 ⟨_,WOk.new (Nat.le_refl _) rfl rfl (by decide),rfl,rfl,rfl,rfl,rfl,rfl,rfl,rfl,Or.inl rfl,by simp [Jl],by simp [Jl],by simp [Jl]⟩
theorem Zlm {X:Box} {F:List Nat} {s:St} {sh:Nat} (N K:Nat) (l:List Bool) (n k:Int) (w:World) (h:COk X w F s sh) (hB:X.B≤w.heap.size) (en:n=N) (ek:k=K) (hl:s.out.length+K≤1048576) (hk:K≤64) (hN:N<2 ^ K) (hb:bitsOf N K=l) :
  Calls Tryz.prog 214 #[.pointer (some ⟨X.bw,4,none⟩),.int .u64 n,.int .i64 k] w fun e w'=>e=.returned (.int .i64 0)∧∃ F',COk X w' F' { s with out:=s.out++l } sh∧Fr F w F' w':=by
 obtain ⟨cs,hw,hkk⟩:=h.wok
 refine (Zf1 N K hw hB en ek hl hk hN).mono ?_
 rintro e w' ⟨rfl,F',ds,h1,h2,h3⟩
 rw [hb] at h1
 exact ⟨rfl,F',hkk _ _ _ _ h1 h2 h3,h3⟩
theorem COk.bytes {X:Box} {F:List Nat} {s:St} {sh:Nat} (n:Nat) {w:World} (h:COk X w F s sh) (hl:s.out.length≤2000000) (e:Zk s.out=n) :
  Calls Tryz.prog 211 #[.pointer (some ⟨X.bw,4,none⟩)] w fun e w'=>∃ v,e=.returned v∧Q4 w w' v n (M.byteOf s.out):=by
 obtain ⟨cs,hw,_⟩:=h.wok
 exact ZkV n hw hl e
theorem COk.len {X:Box} {F:List Nat} {s:St} {sh:Nat} (n:Int) {w:World} (h:COk X w F s sh) (e:(s.out.length:Int)=n) :
  Calls Tryz.prog 212 #[.pointer (some ⟨X.bw,4,none⟩)] w fun e w'=>e=.returned (.int .i64 n)∧w=w':=by
 obtain ⟨cs,hw,_⟩:=h.wok
 exact Zky n hw e
theorem Q4.back {u w w':World} {v:Value} {n:Nat} {f:Nat→Nat} (h:Q4 w w' v n f) (hb:Below u.heap.size u w):Q4 u w' v n f:=by
 obtain ⟨⟨F,A,cap,e,hr,hF,hn⟩,hb2⟩:=h
 exact ⟨⟨F,A,cap,e,hr,fun q hq=>⟨Nat.le_trans hb.size (hF q hq).1,(hF q hq).2⟩,hn⟩,Ze hb hb2⟩
structure Zln (w:World) (st:St) (br:Nat) (FR:List Nat) (m:Nat) (F3:List Nat) (wr:World):Prop where
 c:COk (Jl w.heap.size) wr F3 (J7 (st.dl+1) (st.out.take m)) 0
 r:ROk wr br FR ((pad st.out).drop (min m st.out.length)) 0
 b:Below w.heap.size w wr
 ap:∀ q,q∈br :: FR→q∉F3
 rb:w.heap.size≤br
theorem Tq39 {p:Prop} (h:p:=by
 rw [e5] at hc5
 have H5:=Qh (Qi hc5 fr5);clear hc5 fr5 e5
 go_wp2_with fail
 refine (H5.out.1.bytes (Zk (YA st)) (by show (YA st).length≤_;rw [ZbX];omega) rfl).mono ?_
 rintro e w6 ⟨v,rfl,hv⟩
 have H6:=Qh hv;clear hv
 go_wp2_with fail
 go_ret
 exact ⟨v,rfl,H6.out.back (ZbU HR.out.b H5.out.2 HC.out.base)⟩):p:=h
theorem Zlo {X:Box} {F:List Nat} {st:St} (sh:Nat) (w:World) (h:COk X w F st sh) (hl:st.out.length+st.dl+2≤1000000) :
  Calls Tryz.prog 173 #[.pointer (some ⟨X.bw,0,none⟩)] w fun e w'=>∃ v,e=.returned v∧Q4 w w' v (Zk (YA st)) (M.byteOf (YA st)):=by
 obtain ⟨k0,_,k2,_⟩:=h.cells
 have hlo:0≤(st.lo:Int):=by omega
 have H:=Qh h;clear h
 go_enter Tryz.func173,Tryz.ntmps173
 go_wp2_with fail
 have e0:COk (Jl w.heap.size) (w.alloc (.cells #[.int .u64 0,.int .u64 0,.int .i64 ((st.dl:Int)+1),.int .i64 0,.slice none 0 0,.int .i64 0,.int .u64 0,.slice none 0 0,.int .i64 0] 186)) [w.heap.size] (J7 (st.dl+1) []) 0:=Zll w (st.dl+1)
 have b0:Below w.heap.size w (w.alloc (.cells #[.int .u64 0,.int .u64 0,.int .i64 ((st.dl:Int)+1),.int .i64 0,.slice none 0 0,.int .i64 0,.int .u64 0,.slice none 0 0,.int .i64 0] 186)):=(Below.refl _ _).alloc (Nat.le_refl _) _
 obtain ⟨w0,ew0⟩:∃ w0,w0=(w.alloc (.cells #[.int .u64 0,.int .u64 0,.int .i64 ((st.dl:Int)+1),.int .i64 0,.slice none 0 0,.int .i64 0,.int .u64 0,.slice none 0 0,.int .i64 0] 186)):=⟨_,rfl⟩
 rw [←ew0] at e0 b0 ⊢
 clear ew0
 have H0:=Qh (Qi e0 (Qi b0 (H.out.below b0)));clear e0 b0
 refine (H0.out.2.2.bytes _ (by omega) rfl).mono ?_
 rintro e w1 ⟨v,rfl,hv⟩
 obtain ⟨A,cap,rfl,hbr,hb1,hnil⟩:=hv.brow
 have H1:=Qh (Qi hbr (Qi hb1 hnil));clear hbr hb1 hnil hv
 go_wp2_with fail
 refine (Zk3 st.out H1.out.1 rfl (by omega) H1.out.2.2).mono ?_
 rintro e w2 ⟨br,FR,rfl,hr,hrb,hb2⟩
 have Zt:=Ze H1.out.2.1 hb2
 have Zge:=Ze H0.out.2.1 Zt
 have hsz:w.heap.size<w1.heap.size:=Nat.lt_of_lt_of_le (H0.out.1.lt _ (by simp)) H1.out.2.1.size
 have H2:=Qh (Qi hr (Qi hrb (Qi Zge (Qi Zt hsz))));clear hr hrb hb2 Zge Zt hsz
 obtain ⟨L,eL⟩:∃ L,L=st.out.length:=⟨_,rfl⟩
 have hLb:L≤1000000:=by omega
 have EL:=Qh eL;clear eL
 go_wp2_with fail
 refine ((H.out.below H2.out.2.2.1).len (L:Int) (by rw [EL.out])).mono ?_
 rintro e w3 ⟨rfl,rfl⟩
 go_wp2_with fail
 go_loopg [5] L (fun gh z wr=>∃ (m:Nat) (y:Int) (F3:List Nat),gh=L-m∧z=.int .i64 y∧y=(L:Int)-m∧m≤L+64∧Zln w st br FR m F3 wr)
 case atStart=>
  refine ⟨0,(L:Int),[w.heap.size],by omega,rfl,by omega,by omega,?_,?_,H2.out.2.2.1,?_,?_⟩
  ·exact H0.out.1.below H2.out.2.2.2.1
  ·simpa using H2.out.1
  ·intro q hq h
   rw [List.mem_singleton] at h
   have:=H2.out.2.1 q hq
   have:=H2.out.2.2.2.2
   omega
  ·have:=H2.out.2.1 br (by simp)
   have:=H2.out.2.2.2.2
   omega
 case round=>
  obtain ⟨m,y,F3,hgh,rfl,hy,hm,hR⟩:=hrel
  have Hgh:=Qh hgh;clear hgh
  have HR:=Qh hR;clear hR H1
  by_cases hlt:0<y
  ·obtain ⟨K,hK⟩:∃ K,K=min 64 (L-m):=⟨_,rfl⟩
   have hmin:(if 64<y then (64:Int) else y)=(K:Nat):=by split<;>omega
   have hK1:K≤64:=by omega
   have hmL:m+K≤L:=by omega
   have HK:=Qh hK;clear hK
   have HY:=Qh hy;clear hy
   have hy1:y≤1000000:=by have:=HY.out;omega
   obtain ⟨sl,esl⟩:∃ sl,sl=(st.out.drop m).take K:=⟨_,rfl⟩
   have Zgf:sl.length=K:=by rw [esl,List.length_take,List.length_drop];have:=EL.out;omega
   have hget:X9 K ((pad st.out).drop (min m st.out.length)) 0=(numOf sl,0,(pad st.out).drop (min (m+64) st.out.length),0):=by
    have e1:min m st.out.length=m:=by have:=EL.out;omega
    have e2:min (m+64) st.out.length=m+K:=by have:=EL.out;have:=HK.out;omega
    rw [e1,e2]
    unfold X9
    rw [if_neg (by simp),if_neg (by rw [List.length_drop,Zf3];have:=ZkY st.out;have:=EL.out;unfold Zk;omega),List.drop_drop]
    have e3:((pad st.out).drop m).take K=sl:=by
     rw [esl]
     unfold pad
     rw [List.drop_append_of_le_length (by have:=EL.out;omega),List.take_append_of_le_length (by rw [List.length_drop];have:=EL.out;omega)]
    rw [e3]
   have htk:st.out.take m++sl=st.out.take (m+64):=by
    rw [List.take_add,esl]
    congr 1
    have:=HK.out
    by_cases h64:K=64
    ·rw [h64]
    ·rw [List.take_of_length_le (l:=st.out.drop m) (i:=64) (by rw [List.length_drop];have:=EL.out;omega),List.take_of_length_le (by rw [List.length_drop];have:=EL.out;omega)]
   have HS:=Qh (Qi esl (Qi Zgf (Qi hget htk)));clear esl Zgf hget htk
   go_wp2_with fail
   refine (Zk2 K (numOf sl) 0 _ _ _ HR.out.r rfl rfl hK1 HS.out.2.2.1).mono ?_
   rintro e w4 ⟨rfl,hr4,ho4⟩
   have hfb:=Fr.of_only ho4
   have hc4:=HR.out.c.keep hfb (by intro q hq h;rw [List.mem_singleton] at h;subst h;exact HR.out.ap q (by simp) hq) (by simp [Jl])
   have hb4:=ZcE HR.out.b ho4 HR.out.rb
   have H4:=Qh (Qi hr4 (Qi hc4 (Qi hb4 ho4.size)));clear hr4 hc4 hb4 ho4 hfb
   go_wp2_with fail
   refine (Zlm (X:=Jl w.heap.size) (numOf sl) K sl _ _ w4 H4.out.2.1 H4.out.2.2.1.size rfl rfl (by show (st.out.take m).length+K≤_;rw [List.length_take];omega) hK1 (by have:=M.numOf_lt sl;rw [HS.out.2.1] at this;exact this) (by have:=M.bitsOf_numOf sl;rw [HS.out.2.1] at this;exact this)).mono ?_
   rintro e w5 ⟨rfl,F5,hc5,fr5⟩
   have H5:=Qh (Qi hc5 fr5);clear hc5 fr5
   go_wp2_with fail
   go_roundg (L-(m+64))
   case measure=>have:=Hgh.out;have:=HY.out;omega
   case rel=>
    have hrl:∀ q,q∈br :: FR→q<w4.heap.size:=H4.out.1.lt
    refine ⟨m+64,y-64,F5,rfl,rfl,by have:=HY.out;omega,by have:=HY.out;omega,?_,?_,?_,?_,HR.out.rb⟩
    ·have:=H5.out.1
     unfold J7 at this ⊢
     rw [←HS.out.2.2.2]
     exact this
    ·exact H4.out.1.keep H5.out.2 HR.out.ap
    ·exact ZbU H4.out.2.2.1 H5.out.2 H4.out.2.1.base
    ·exact H5.out.2.apart HR.out.ap hrl
  ·have hmm:L≤m:=by omega
   have hk0:=H.out.below HR.out.b
   obtain ⟨k0',_⟩:=hk0.cells
   have htk:st.out.take m=st.out:=List.take_of_length_le (by have:=EL.out;omega)
   have hc:=HR.out.c
   rw [htk] at hc
   have HC:=Qh hc;clear hc htk hk0 hy
   have hend:∀ b:Bool,b=decide (1073741824≤st.lo)→st.out++(b :: List.replicate (st.dl+1) (!b))=YA st:=by rintro b rfl;rfl
   have HE:=Qh hend;clear hend
   by_cases hq:1073741824≤st.lo
   ·have d1:decide (((st.lo:Nat):Int)<1073741824)=false:=decide_eq_false (by omega)
    have hb:=HE.out true (by rw [decide_eq_true hq])
    have HB:=Qh hb;clear hb
    clear hq
    go_wp2_with fail
    refine (ZcG (X:=Jl w.heap.size) true wr HC.out HR.out.b.size (by show st.out.length+(st.dl+1)+1≤_;omega)).mono ?_
    rintro e w5 ⟨rfl,F5,hc5,fr5⟩
    have e5:(J7 (st.dl+1) st.out).out++(true :: List.replicate (J7 (st.dl+1) st.out).dl (!true))=YA st:=HB.out
    exact Tq39
   ·have d1:decide (((st.lo:Nat):Int)<1073741824)=true:=decide_eq_true (by omega)
    have hb:=HE.out false (by rw [decide_eq_false hq])
    have HB:=Qh hb;clear hb
    clear hq
    go_wp2_with fail
    refine (ZcG (X:=Jl w.heap.size) false wr HC.out HR.out.b.size (by show st.out.length+(st.dl+1)+1≤_;omega)).mono ?_
    rintro e w5 ⟨rfl,F5,hc5,fr5⟩
    have e5:(J7 (st.dl+1) st.out).out++(false :: List.replicate (J7 (st.dl+1) st.out).dl (!false))=YA st:=HB.out
    exact Tq39
end
section
theorem ZbY {bit:Nat→Nat} {s:St} {x:Nat} {o:List Bool} {d:Nat} (h:pick s=some (x,o,d)) (hg:Good s) :
  Good (shift bit s x o d)∧(shift bit s x o d).hi-(shift bit s x o d).lo+1=2*(s.hi-s.lo+1)∧(shift bit s x o d).at_=s.at_+1:=by
 obtain ⟨h1,h2,h3,h4⟩:=ZaK h hg.le hg.hi
 have:=hg.le
 have:=hg.out
 refine ⟨⟨by simp only [shift];omega,by simp only [shift];omega,by simp only [shift];omega,by simp only [shift];omega⟩,by simp only [shift];omega,rfl⟩
theorem Zlp (bit:Nat→Nat) (k:Nat):∀ s,Good s→4294967296<(s.hi-s.lo+1)*2 ^ k→Good (Yo bit k s)∧pick (Yo bit k s)=none∧(Yo bit k s).at_≤s.at_+k∧s.at_≤(Yo bit k s).at_:=by
  induction k with
  | zero=>intro s hg h;have:=hg.hi;simp at h;omega
  | succ k ih=>
    intro s hg h
    rcases hp:pick s with _|⟨x,o,d⟩
    · rw [J2 hp];exact ⟨hg,hp,by omega,by omega⟩
    · rw [J3 hp]
      obtain ⟨g1,g2,g3⟩:=ZbY (bit:=bit) hp hg
      obtain ⟨i1,i2,i3,i4⟩:=ih _ g1 (by
        rw [g2]
        rw [Nat.pow_succ] at h
        calc 4294967296<(s.hi-s.lo+1)*(2 ^ k*2):=h
          _=2*(s.hi-s.lo+1)*2 ^ k:=by rw [Nat.mul_comm (2 ^ k) 2,←Nat.mul_assoc,Nat.mul_comm _ 2])
      exact ⟨i1,i2,by omega,by omega⟩
structure Live (s:St):Prop where
 good:Good s
 none:pick s=none
 at_:s.at_≤32+16*s.cnt
theorem Zgg {bit:Nat→Nat} {fr:List Nat} {i:Nat} {s:St} (h:Live s) (h1:∀ x,x∈fr→1≤x) (h2:fr.sum≤8192) (hi:i<fr.length) :
  Live (YH bit fr i s)∧(YH bit fr i s).cnt=s.cnt+1:=by
 obtain ⟨n1,n2,_,_⟩:=J6 h.good h.none h1 h2 hi
 obtain ⟨g1,g2,g3,_⟩:=Zlp bit 16 (narrow fr i s) n1 (by omega)
 refine ⟨⟨⟨g1.le,g1.hi,g1.out,g1.num⟩,g2,?_⟩,rfl⟩
 have:=h.at_
 have e:(narrow fr i s).at_=s.at_:=rfl
 simp only [YH]
 omega
def st0:St:={ lo:=0,hi:=4294967295,dl:=0,cnt:=0,out:=[],num:=0,at_:=0 }
theorem ZbZ:Live st0:=⟨⟨by decide,by decide,by decide,by decide⟩,by decide,by decide⟩
def Xc (B bw:Nat):Box:={ B:=B,bw:=bw,T:=188,G:=[],A:=none,n:=0,cap:=0,f:=fun _=>0,x9:=none }
theorem Zlq (w:World) (B:Nat) (hB:B≤w.heap.size):COk (Xc B w.heap.size) (w.alloc (.cells #[.int .u64 0,.int .u64 0,.int .i64 0,.int .i64 0,.slice none 0 0,.int .i64 0,.int .u64 0,.slice none 0 0,.int .i64 0] 188)) [w.heap.size] st0 (4294967295-st0.hi):=
 ⟨_,WOk.new hB rfl rfl (by decide),rfl,rfl,rfl,rfl,rfl,rfl,rfl,rfl,Or.inl rfl,by simp [Xc],by simp [Xc],by simp [Xc]⟩
structure EOk (X:Box) (w:World) (F:List Nat) (s:St):Prop where
 c:COk X w F s (4294967295-s.hi)
 live:Live s
 base:X.B≤w.heap.size
theorem Zd9 {X:Box} {F:List Nat} {st:St} {bm g:Nat} {fr:List Nat} (i:Nat) (w:World) (h:EOk X w F st) (hc:st.cnt<32768) (hm:MOk w bm g fr) (hi:i<fr.length) (hF:bm∉F∧g∉F) (hG:bm∉X.G∧g∉X.G) :
  Calls Tryz.prog 167 #[.pointer (some ⟨X.bw,0,none⟩),.pointer (some ⟨bm,0,none⟩),.int .i64 (i:Nat)] w fun e w'=>e=.returned (.tuple #[])∧∃ F',EOk X w' F' (YH X.bit fr i st)∧MOk w' bm g (learn fr i)∧Fr (F++[bm,g]) w (F'++[bm,g]) w':=by
 have:=h.live.at_
 refine (Zlk i w h.c h.base h.live.good h.live.none hm hi hF hG (by omega) (by omega)).mono ?_
 rintro e w' ⟨rfl,F',h1,h2,h3⟩
 exact ⟨rfl,F',⟨h1,(Zgg h.live hm.one hm.tot hi).1,Nat.le_trans h.base h3.size⟩,h2,h3⟩
theorem Zlr {X:Box} {F:List Nat} {st:St} {bm g:Nat} {fr:List Nat} (i:Nat) (w:World) (h:EOk X w F st) (hc:st.cnt<32768) (hm:MOk w bm g fr) (hi:i<fr.length) (hF:bm∉F∧g∉F) (hG:bm∉X.G∧g∉X.G) :
  Calls Tryz.prog 113 #[.pointer (some ⟨X.bw,0,none⟩),.pointer (some ⟨bm,0,none⟩),.int .i64 (i:Nat)] w fun e w'=>e=.returned (.int .i64 0)∧∃ F',EOk X w' F' (YH X.bit fr i st)∧MOk w' bm g (learn fr i)∧Fr (F++[bm,g]) w (F'++[bm,g]) w':=by
 obtain ⟨_,_,_,k3,_⟩:=h.c.cells
 have hcode:=Zd9 i w h hc hm hi hF hG
 have hth:=Zbj w hm
 have hhas:=Zk8 (i:Int) true w hm (Or.inl ⟨rfl,by omega,by omega⟩)
 have d1:decide ((32768:Int)≤(st.cnt:Nat))=false:=decide_eq_false (by omega)
 have H:=Qh (Qi hcode (Qi hth hhas))
 clear h hm hcode hth hhas
 go_enter Tryz.func113,Tryz.ntmps113
 go_wp2_with fail
 refine H.out.2.1.mono ?_
 rintro e w' ⟨rfl,rfl⟩
 go_wp2_with fail
 refine H.out.2.2.mono ?_
 rintro e w' ⟨rfl,rfl⟩
 go_wp2_with fail
 refine H.out.1.mono ?_
 rintro e w' ⟨rfl,hq⟩
 have HQ:=Qh hq;clear hq
 go_wp2_with fail
 go_ret
 exact ⟨rfl,HQ.out⟩
theorem Zls {X:Box} {F:List Nat} {st:St} (w:World) (h:EOk X w F st) (hc:st.cnt≤32768) :
  Calls Tryz.prog 120 #[.pointer (some ⟨X.bw,0,none⟩)] w fun e w'=>∃ v,e=.returned v∧Q4 w w' v (Zk (YA st)) (M.byteOf (YA st)):=by
 have:=h.live.at_
 have:=h.live.good.out
 have hb:=Zlo _ w h.c (by omega)
 have H:=Qh hb
 clear h hb
 go_enter Tryz.func120,Tryz.ntmps120
 go_wp2_with fail
 refine H.out.mono ?_
 rintro e w' ⟨v,rfl,hq⟩
 have HQ:=Qh hq;clear hq
 go_wp2_with fail
 go_ret
 exact ⟨v,rfl,HQ.out⟩
end
section
def Y7 (bit:Nat→Nat):Nat→Nat
 | 0=>0
 | k+1=>2*Y7 bit k+bit k
theorem Zgh (X:Box) (k:Nat):Y7 X.bit k<2 ^ k:=by
 induction k with
 | zero=>exact Nat.one_pos
 | succ k ih=>have:=X.bit_le k;simp only [Y7,Nat.pow_succ];omega
def Z9 (bit:Nat→Nat) (k:Nat):St:={ lo:=0,hi:=4294967295,dl:=0,cnt:=0,out:=[],num:=Y7 bit k,at_:=k }
theorem Zgi (X:Box):Live (Z9 X.bit 32):=by
 have:=Zgh X 32
 exact ⟨⟨by simp [Z9],by simp [Z9],by simp [Z9],by simp only [Z9];omega⟩,rfl,by simp [Z9]⟩
def Yp (B bw:Nat) (G:List Nat) (A:Option Addr) (n cap:Nat) (f:Nat→Nat):Box:={ B:=B,bw:=bw,T:=265,G:=G,A:=A,n:=n,cap:=cap,f:=f,x9:=some (.bool true) }
theorem Zgj {B bw n cap:Nat} {G F:List Nat} {A:Option Addr} {f:Nat→Nat} {w:World} {s:St} {sh:Nat} (h:COk (Yp B bw G A n cap f) w F s sh):w.cell? ⟨bw,6,none⟩=some (.int .u64 (s.num:Nat))∧w.frozen? ⟨bw,6,none⟩=false:=by
 obtain ⟨_,_,_,_,c6,_,_,hf⟩:=h.cells
 exact ⟨c6,hf 6⟩
theorem Zlt (b:Nat→Nat) (k:Nat):4294967295-(Z9 b k).hi=0:=by simp [Z9]
theorem Zlu (A:Option Addr) (n cap:Nat) (f:Nat→Nat) (w:World) (h:Z8 w A n f) (hn:n≤1000000) (hby:∀ i,i<n→f i<256) (hnil:A=none→n=0∧cap=0) :
    Calls Tryz.prog 123 #[.slice A n cap] w fun e w'=>∃ G A' cap',e=.returned (.pointer (some ⟨w.heap.size,0,none⟩))∧EOk (Yp w.heap.size w.heap.size G A' n cap' f) w' [w.heap.size] (Z9 (Yp w.heap.size w.heap.size G A' n cap' f).bit 32)∧(∀ q,q∈G→w.heap.size≤q)∧Below w.heap.size w w':=by
  have hcl:=fun wx hb=>Zd4 A n cap f wx (h.keepd (w':=wx) hb) hn hnil
  have H:=Qh (Qi hcl hby);clear hcl h hby hnil
  go_enter Tryz.func123,Tryz.ntmps123
  go_wp2_with fail
  refine (H.out.1 _ ((Below.refl _ _).alloc (Nat.le_refl _) _)).mono ?_
  rintro e w1 ⟨v,rfl,hv⟩
  obtain ⟨⟨G,A',cap',rfl,hrow,hG,_⟩,hbel⟩:=hv
  have hblk:w1.heap[w.heap.size]?=some (.cells #[.int .u64 0,.int .u64 0,.int .i64 0,.int .i64 0,.slice none 0 0,.int .i64 0,.int .u64 0,.slice none 0 0,.int .i64 0,.bool true] 265 (0,0)):=(hbel.block _ (by simp)).trans (heap_alloc_new w _)
  have hlt:∀ q,q∈G→w.heap.size<q:=by
    intro q hq
    have:=(hG q hq).1
    rw [World.size_alloc] at this
    omega
  have hb1:Below w.heap.size w w1:=((Below.refl _ _).alloc (Nat.le_refl _) _).trans (hbel.mono (by simp))
  have hc0:COk (Yp w.heap.size w.heap.size G A' n cap' f) (w1.setCell ⟨w.heap.size,7,none⟩ (.slice A' n cap')) [w.heap.size] (Z9 (Yp w.heap.size w.heap.size G A' n cap' f).bit 0) 0:=by
    have hw:WOk w1 w.heap.size w.heap.size 4 265 #[.int .u64 0,.int .u64 0,.int .i64 0,.int .i64 0,.slice none 0 0,.int .i64 0,.int .u64 0,.slice none 0 0,.int .i64 0,.bool true] [w.heap.size] []:=
      (WOk.new (B:=w.heap.size) (o:=4) (Nat.le_refl _) rfl rfl (by decide)).below hbel
    refine ⟨_,hw.set_ 7 (by decide) (by decide) _,rfl,rfl,rfl,rfl,rfl,rfl,rfl,rfl,?_,?_,hn,H.out.2⟩
    · exact hrow.same fun q hq=>Below.heap_setCell _ _ _ _ (fun e=>by have h1:=hlt q hq;have h2:q=w.heap.size:=e;omega)
    · intro q hq
      have h1:=hlt q hq
      refine ⟨fun e=>by rw [List.mem_singleton] at e;omega,?_⟩
      simpa [World.setCell] using (hG q hq).2
  have f7:=Zd hblk 7
  have c7:=(cell_of_block hblk 7).trans rfl
  have hb2:Below w.heap.size w (w1.setCell ⟨w.heap.size,7,none⟩ (.slice A' n cap')):=ZcE hb1 (Only.setCell (b:=w.heap.size) (p:=⟨w.heap.size,7,none⟩) (Only.refl _ _) rfl _) (Nat.le_refl _)
  have H1:=Qh (Qi hc0 (Qi hlt (Qi hb2 hblk)));clear hc0 hlt hb1 hb2 hblk hbel hG hrow
  go_wp2_with fail
  go_loopg [12] 32 (fun gh i wr=>∃ j:Nat,gh=32-j∧j≤32∧i=.int .i64 j∧(COk (Yp w.heap.size w.heap.size G A' n cap' f) wr [w.heap.size] (Z9 (Yp w.heap.size w.heap.size G A' n cap' f).bit j) 0∧Below w.heap.size w wr))
  case atStart=>exact ⟨0,rfl,by omega,rfl,H1.out.1,H1.out.2.2.1⟩
  case round=>
    obtain ⟨j,hgh,hj,rfl,hR⟩:=hrel
    have Hgh:=Qh hgh;clear hgh
    have HR:=Qh hR;clear hR c7 f7
    by_cases hlt:j<32
    · obtain ⟨c6,f6⟩:=Zgj HR.out.1
      have Y5:=Zgh (Yp w.heap.size w.heap.size G A' n cap' f) j
      have hp:2 ^ j≤2 ^ 31:=Nat.pow_le_pow_right (by decide) (by omega)
      have hbit:=(Yp w.heap.size w.heap.size G A' n cap' f).bit_le j
      have hnx:=fun m=>Zga (wr.drewN m) (HR.out.1.drewN m) (by show j≤_;omega)
      have hs2:∀ b,Y7 b (j+1)=2*Y7 b j+b j:=fun _=>rfl
      have e1:(Z9 (Yp w.heap.size w.heap.size G A' n cap' f).bit j).at_=j:=rfl
      have e2:(Z9 (Yp w.heap.size w.heap.size G A' n cap' f).bit j).num=Y7 (Yp w.heap.size w.heap.size G A' n cap' f).bit j:=rfl
      have hs3:=hs2 (Yp w.heap.size w.heap.size G A' n cap' f).bit
      rw [e1] at hnx
      rw [e2] at c6
      obtain ⟨num,enum⟩:∃ num,num=Y7 (Yp w.heap.size w.heap.size G A' n cap' f).bit j:=⟨_,rfl⟩
      obtain ⟨b,eb⟩:∃ b,b=(Yp w.heap.size w.heap.size G A' n cap' f).bit j:=⟨_,rfl⟩
      rw [←enum] at c6 Y5 hs3
      rw [←eb] at hbit hnx hs3
      have hnum2:num<2147483648:=by omega
      have HN:=Qh (Qi hnx (Qi enum (Qi eb hs3)))
      clear hnx enum eb Y5 hp e1 e2 hs2 hs3
      go_wp2_with fail
      go_region_with (
        (refine (HN.out.1 _).mono ?_
         rintro e w3 ⟨rfl,h4,fr4⟩
         obtain ⟨c6q,f6'⟩:=Zgj h4
         have c6':w3.cell? ⟨w.heap.size,6,none⟩=some (.int .u64 (num:Nat)):=c6q.trans (by rw [HN.out.2.1];rfl)
         clear c6q
         have H4:=Qh (Qi h4 fr4);clear h4 fr4))
      all_goals
        have hv:IntKind.u64.wrap (IntKind.u64.wrap (2*(num:Int))+(b:Int))=((2*num+b:Nat):Int):=by
          rw [IntKind.wrap_u64,IntKind.wrap_u64];omega
        obtain ⟨nv,env⟩:∃ nv,nv=2*num+b:=⟨_,rfl⟩
        rw [hv,←env]
        clear hv
        have hend:COk (Yp w.heap.size w.heap.size G A' n cap' f) (w3.setCell ⟨w.heap.size,6,none⟩ (.int .u64 (nv:Nat))) [w.heap.size] (Z9 (Yp w.heap.size w.heap.size G A' n cap' f).bit (j+1)) 0:=by
          have:=H4.out.1.set_num nv
          unfold Z9
          rw [HN.out.2.2.2,←env]
          exact this
        have hbel:=ZcE (ZcE (YW HR.out.2 _) H4.out.2 (Nat.le_refl _)) (Only.setCell (b:=w.heap.size) (p:=⟨w.heap.size,6,none⟩) (Only.refl _ w3) rfl (.int .u64 (nv:Nat))) (Nat.le_refl _)
        have HE:=Qh (Qi hend hbel)
        clear hend hbel env
        go_wp2_with fail
        go_roundg (32-(j+1))
        case measure=>have:=Hgh.out;omega
        case rel=>exact ⟨j+1,rfl,by omega,by go_num,HE.out.1,HE.out.2⟩
    · obtain rfl:j=32:=by omega
      go_wp2_with fail
      go_ret
      refine ⟨G,A',cap',rfl,⟨by rw [Zlt];exact HR.out.1,Zgi _,HR.out.2.size⟩,fun q hq=>Nat.le_of_lt (H1.out.2.1 q hq),HR.out.2⟩
end
section
def Jm:List Nat→Nat→Nat
 | [],_=>0
 | x :: xs,v=>if v<x then 0 else Jm xs (v-x)+1
theorem Zgk (l:List Nat):∀ v,v<l.sum→Jm l v<l.length∧(l.take (Jm l v)).sum≤v∧v<(l.take (Jm l v)).sum+l.getD (Jm l v) 0:=by
 induction l with
 | nil=>intro v h;simp at h
 | cons x xs ih=>
  intro v h
  unfold Jm
  split
  ·simpa using ‹v<x›
  ·rename_i hx
   obtain ⟨h1,h2,h3⟩:=ih (v-x) (by simp at h;omega)
   refine ⟨by simp;omega,?_,?_⟩
   ·simp only [List.take_succ_cons,List.sum_cons];omega
   ·simp only [List.take_succ_cons,List.sum_cons,List.getD_cons_succ];omega
theorem Zgl (l:List Nat):∀ v j,(l.take j).sum≤v→v<(l.take j).sum+l.getD j 0→Jm l v=j:=by
 induction l with
 | nil=>intro v j h1 h2;simp at h2
 | cons x xs ih=>
  intro v j h1 h2
  cases j with
  | zero=>unfold Jm;rw [if_pos (by simpa using h2)]
  | succ j=>
   simp only [List.take_succ_cons,List.sum_cons,List.getD_cons_succ] at h1 h2
   unfold Jm
   rw [if_neg (by omega),ih (v-x) j (by omega) (by omega)]
def Q5 (fr:List Nat) (s:St):Nat:=((s.num-s.lo+1)*fr.sum-1) / (s.hi-s.lo+1)
def Yu (fr:List Nat) (s:St):Nat:=Jm fr (Q5 fr s)
structure Yq (s:St):Prop where
 lo:s.lo≤s.num
 hi:s.num≤s.hi
theorem Zea {fr:List Nat} {s:St} (h:Yq s) (h0:0<fr.sum):Q5 fr s<fr.sum:=by
 unfold Q5
 have h1:=h.lo
 have h2:=h.hi
 rw [Nat.div_lt_iff_lt_mul (by omega)]
 have:(s.num-s.lo+1)*fr.sum≤(s.hi-s.lo+1)*fr.sum:=Nat.mul_le_mul_right _ (by omega)
 have h3:1*fr.sum≤(s.num-s.lo+1)*fr.sum:=Nat.mul_le_mul_right _ (by omega)
 rw [Nat.mul_comm fr.sum]
 omega
theorem Zlv (d t sz a b:Nat) (hd:d<sz) (h0:0<t) (h1:a≤((d+1)*t-1) / sz) (h2:((d+1)*t-1) / sz<b):sz*a / t≤d∧d+1≤sz*b / t:=by
 have hp:1*t≤(d+1)*t:=Nat.mul_le_mul_right _ (by omega)
 constructor
 ·rw [Nat.le_div_iff_mul_le (by omega)] at h1
  have:sz*a / t<d+1:=by
   rw [Nat.div_lt_iff_lt_mul h0,Nat.mul_comm sz a]
   omega
  omega
 ·rw [Nat.div_lt_iff_lt_mul (by omega)] at h2
  rw [Nat.le_div_iff_mul_le h0,Nat.mul_comm sz b]
  omega
theorem Zgm {fr:List Nat} {i:Nat} {s:St} (h:Yq s) (h0:0<fr.sum) (h1:(fr.take i).sum≤Q5 fr s) (h2:Q5 fr s<(fr.take i).sum+fr.getD i 0):Yq (narrow fr i s):=by
 have e1:=h.lo
 have e2:=h.hi
 obtain ⟨q1,q2⟩:=Zlv (s.num-s.lo) fr.sum (s.hi-s.lo+1) _ _ (by omega) h0 h1 h2
 constructor
 ·show s.lo+(s.hi-s.lo+1)*(fr.take i).sum / fr.sum≤s.num
  omega
 ·show s.num≤s.lo+(s.hi-s.lo+1)*((fr.take i).sum+fr.getD i 0) / fr.sum-1
  omega
theorem Zlw (X:Box) {s:St} {x:Nat} {o:List Bool} {d:Nat} (hp:pick s=some (x,o,d)) (hg:Good s) (h:Yq s):Yq (shift X.bit s x o d):=by
 obtain ⟨h1,h2,_,h4⟩:=ZaK hp hg.le hg.hi
 have e1:=h.lo
 have e2:=h.hi
 have e3:=X.bit_le s.at_
 have e4:=hg.hi
 have e:(shift X.bit s x o d).num=2*(s.num-x)+X.bit s.at_:=by
  simp only [shift]
  omega
 constructor
 ·rw [e];simp only [shift];omega
 ·rw [e];simp only [shift];omega
theorem Zlx (X:Box) (k:Nat):∀ s,Good s→Yq s→Yq (Yo X.bit k s):=by
 induction k with
 | zero=>intro s _ h;exact h
 | succ k ih=>
  intro s hg h
  rcases hp:pick s with _|⟨x,o,d⟩
  ·rw [J2 hp];exact h
  ·rw [J3 hp]
   exact ih _ (ZbY hp hg).1 (Zlw X hp hg h)
theorem Zly (X:Box) {fr:List Nat} {s:St} (hl:Live s) (h:Yq s) (h1:∀ x,x∈fr→1≤x) (h2:fr.sum≤8192) (h0:0<fr.sum):Yq (YH X.bit fr (Yu fr s) s)∧Yu fr s<fr.length:=by
 obtain ⟨e1,e2,e3⟩:=Zgk fr (Q5 fr s) (Zea h h0)
 have hn:=Zgm h h0 e2 e3
 have hg:=(J6 hl.good hl.none h1 h2 e1).1
 have:=Zlx X 16 _ hg hn
 exact ⟨⟨this.lo,this.hi⟩,e1⟩
theorem Zgn {X:Box} {F:List Nat} {st:St} {bm g:Nat} {fr:List Nat} (w:World) (h:EOk X w F st) (hiv:Yq st) (hc:st.cnt<32768) (hm:MOk w bm g fr) (hF:bm∉F∧g∉F) (hG:bm∉X.G∧g∉X.G) :
    Calls Tryz.prog 177 #[.pointer (some ⟨X.bw,0,none⟩),.pointer (some ⟨bm,0,none⟩)] w fun e w'=>e=.returned (.int .i64 (Yu fr st:Nat))∧∃ F',EOk X w' F' (YH X.bit fr (Yu fr st) st)∧Yq (YH X.bit fr (Yu fr st) st)∧MOk w' bm g (learn fr (Yu fr st))∧Fr (F++[bm,g]) w (F'++[bm,g]) w':=by
  have h0:0<fr.sum:=by
    have:=Jk (fr:=fr) (i:=0) hm.pos
    have:=J4 hm.one hm.pos
    omega
  obtain ⟨civ,hsl⟩:=Zly X h.live hiv hm.one hm.tot h0
  have hvt:=Zea hiv h0
  have htot:=hm.tot
  have Zd8:=hm.few
  have hpos:=hm.pos
  have hgood:=h.live.good
  have hhi:=hgood.hi
  have Zgo:=hiv.lo
  have Zgp:=hiv.hi
  obtain ⟨k0,_,_,_,k6,_,_,_⟩:=h.c.cells
  have m0:=hm.c0
  have m1:=hm.c1
  have g0:=hm.at_ hm.pos
  have hhigh:=fun n=>Zd7 st.hi (w.drewN n) (h.c.drewN n) (by omega)
  have hv:Q5 fr st=((st.num-st.lo+1)*fr.sum-1) / (st.hi-st.lo+1):=rfl
  have hf0:(fr.take 0).sum+fr.getD 0 0≤fr.sum:=Jk hm.pos
  obtain ⟨v,ev⟩:∃ v,v=Q5 fr st:=⟨_,rfl⟩
  obtain ⟨t,et⟩:∃ t,t=fr.sum:=⟨_,rfl⟩
  obtain ⟨n,en⟩:∃ n,n=fr.length:=⟨_,rfl⟩
  obtain ⟨x0,ex0⟩:∃ x,x=fr.getD 0 0:=⟨_,rfl⟩
  obtain ⟨lo,elo⟩:∃ l,l=st.lo:=⟨_,rfl⟩
  obtain ⟨hi,ehi⟩:∃ l,l=st.hi:=⟨_,rfl⟩
  obtain ⟨num,enum⟩:∃ l,l=st.num:=⟨_,rfl⟩
  rw [←ev,←enum,←elo,←et,←ehi] at hv
  rw [←ev,←et] at hvt
  rw [←et] at htot m1 h0 hf0
  rw [←en] at Zd8 hpos m0
  rw [←ex0] at g0 hf0
  rw [←elo] at k0 Zgo
  rw [←enum] at k6 Zgo Zgp
  rw [←ehi] at Zgp hhi hhigh
  obtain ⟨sz,esz⟩:∃ sz,sz=hi-lo+1:=⟨_,rfl⟩
  obtain ⟨p,ep⟩:∃ p,p=(num-lo+1)*t:=⟨_,rfl⟩
  rw [←esz,←ep] at hv
  have hp1:1≤p:=by rw [ep];exact Nat.mul_pos (by omega) h0
  have hp2:p≤35184372088832:=by
    rw [ep]
    calc (num-lo+1)*t≤4294967296*8192:=Nat.mul_le_mul (by omega) htot
      _=35184372088832:=rfl
  have r0:(hi:Int)-(lo:Int)+1=(sz:Nat):=by omega
  obtain ⟨d,ed⟩:∃ d,d=num-lo:=⟨_,rfl⟩
  have r1:(num:Int)-(lo:Int)=(d:Nat):=by omega
  have r2:((d:Int)+1)*(t:Int)=(p:Nat):=by rw [ep,←ed];push_cast;rfl
  have r3:((p:Int)-1) / (sz:Int)=(v:Nat):=by
    rw [hv,show ((p:Int)-1)=((p-1:Nat):Int) from by omega];rfl
  have hdb:d<4294967296:=by omega
  have hszb:1≤sz:=by omega
  have hx0:x0≤8192:=by omega
  have hlh:lo≤hi:=by omega
  have H:=Qh (Qi h (Qi hm (Qi civ hsl)))
  have HE:=Qh (Qi ev (Qi et (Qi en (Qi ex0 hhigh))))
  clear h hm civ hsl ev et en ex0 elo ehi enum esz ep hv hhigh hgood hiv ed
  go_enter Tryz.func177,Tryz.ntmps177
  go_wp2_with fail
  go_quiet ((go_at_call 206;exact ZfW (HE.out.2.2.2.2 _)))
  rename Nat=>nq1
  go_wp2_with fail
  go_quiet (fail)
  rename Nat=>nq2
  go_wp2_with fail
  go_quiet (fail)
  rename Nat=>nq3
  go_wp2_with fail
  rw [r3]
  have hz1:EOk X (((w.drewN nq1).drewN nq2).drewN nq3) F st:=⟨((H.out.1.c.drewN _).drewN _).drewN _,H.out.1.live,H.out.1.base⟩
  have hz2:MOk (((w.drewN nq1).drewN nq2).drewN nq3) bm g fr:=H.out.2.1.same rfl rfl
  have hz3:Fr F w F (((w.drewN nq1).drewN nq2).drewN nq3):=(((Fr.refl _ _).drewN _).drewN _).drewN _
  obtain ⟨wz,ewz⟩:∃ wz,wz=(((w.drewN nq1).drewN nq2).drewN nq3):=⟨_,rfl⟩
  rw [←ewz] at hz1 hz2 hz3 ⊢
  have HZ:=Qh (Qi hz1 (Qi hz2 hz3))
  clear ewz hz1 hz2 hz3 k0 k6 m0 m1 g0 r0 r1 r2 r3
  go_loopg [7,8] n (fun gh sv uv wr=>∃ j U:Nat,gh=n-j∧j<n∧sv=.int .i64 (j:Nat)∧uv=.int .u64 (U:Nat)∧(U=(fr.take j).sum+fr.getD j 0∧(fr.take j).sum≤v∧wr=wz))
  case atStart=>exact ⟨0,x0,rfl,hpos,rfl,rfl,by rw [HE.out.2.2.2.1];simp,by simp,rfl⟩
  case round=>
    obtain ⟨j,U,hgh,hj,rfl,rfl,hU,hjv,rfl⟩:=hrel
    have Hgh:=Qh hgh;clear hgh
    have hUb:U≤t:=by rw [hU,HE.out.2.1];exact Jk (by rw [←HE.out.2.2.1];exact hj)
    by_cases hle:U≤v
    · have hj1:j+1<n:=by
        rcases Nat.lt_or_ge (j+1) n with h | h
        · exact h
        · have e1:(fr.take (j+1)).sum=U:=by rw [hU,ZaJ fr j (by rw [←HE.out.2.2.1];exact hj)]
          rw [List.take_of_length_le (by rw [←HE.out.2.2.1];omega),←HE.out.2.1] at e1
          omega
      have m0:=HZ.out.2.1.c0
      rw [←HE.out.2.2.1] at m0
      have g1:=HZ.out.2.1.at_ (i:=j+1) (by rw [←HE.out.2.2.1];exact hj1)
      have hs2:=ZaJ fr j (by rw [←HE.out.2.2.1];exact hj)
      have hb2:(fr.take (j+1)).sum+fr.getD (j+1) 0≤t:=by rw [HE.out.2.1];exact Jk (by rw [←HE.out.2.2.1];exact hj1)
      obtain ⟨x1,ex1⟩:∃ x,x=fr.getD (j+1) 0:=⟨_,rfl⟩
      rw [←ex1] at g1 hb2
      rw [hs2,←hU] at hb2
      have i1:(U:Int)≤(v:Nat):=by omega
      have i2:(0:Int)≤((j+1:Nat):Int):=by omega
      have i3:((j+1:Nat):Int)<(n:Nat):=by omega
      have HJ:=Qh (Qi hU (Qi hs2 ex1));clear hU hs2 ex1
      obtain ⟨j1,ej1⟩:∃ q,q=j+1:=⟨_,rfl⟩
      rw [←ej1] at g1 i2 i3 hj1
      have r5:(j:Int)+1=(j1:Nat):=by omega
      have EJ:=Qh ej1;clear ej1 hjv hle
      go_wp2_with fail
      go_roundg (n-j1)
      case measure=>have:=Hgh.out;have:=EJ.out;omega
      case rel=>
        refine ⟨j1,U+x1,rfl,hj1,rfl,by go_num,?_,?_,rfl⟩
        · rw [EJ.out,HJ.out.2.1,←HJ.out.1,HJ.out.2.2]
        · rw [EJ.out,HJ.out.2.1,←HJ.out.1];omega
    · have i1:(v:Int)<(U:Nat):=by omega
      have ZaL:Yu fr st=j:=Zgl fr _ j (by rw [←HE.out.1];exact hjv) (by rw [←HE.out.1,←hU];omega)
      have HS:=Qh ZaL;clear ZaL hU hjv hle
      go_wp2_with fail
      have hcode:=Zd9 (Yu fr st) wr HZ.out.1 hc HZ.out.2.1 H.out.2.2.2 hF hG
      rw [HS.out] at hcode
      have HC:=Qh hcode;clear hcode
      refine HC.out.mono ?_
      rintro e w4 ⟨rfl,F4,h4,hm4,fr4⟩
      have H4:=Qh (Qi h4 (Qi hm4 fr4));clear h4 hm4 fr4
      go_wp2_with fail
      go_ret
      rw [HS.out]
      have Zgq:=H.out.2.2.1
      rw [HS.out] at Zgq
      refine ⟨rfl,F4,H4.out.1,Zgq,H4.out.2.1,(HZ.out.2.2.more [bm,g]).trans H4.out.2.2⟩
end
end Go.Proofs.YtlgcfimhfmgkmaaGreatDoor
