/- Lemmas for the statement. -/
import Derived.Test.YtlgcfimhfmgkmaaGreatDoorMBE
set_option linter.unusedVariables false
set_option linter.unusedSimpArgs false
set_option maxRecDepth 100000
set_option maxHeartbeats 8000000
namespace Go.Proofs.YtlgcfimhfmgkmaaGreatDoor
open Go.RowKit
section
theorem Zjq (w:World) (x:Rec) (CA:Option Addr) (cn cc:Nat):∃ W g,W=w.alloc (.cells #[.int .i64 x.num,.int .i64 x.base,.int .i64 x.tick,.slice CA cn cc] 45 (0,0))∧g=w.heap.size∧W.heap[g]?=some (.cells #[.int .i64 x.num,.int .i64 x.base,.int .i64 x.tick,.slice CA cn cc] 45 (0,0))∧Below w.heap.size w W:=
 ⟨_,_,rfl,rfl,heap_alloc_new w _,Zg w _⟩
theorem Zjr (x:Rec) (CA:Option Addr) (cn cc:Nat) (k:Int) (w:World) (hx:0≤x.num∧x.num≤1073741824) (hk:0≤k∧k≤1073741824) :
  Calls Tryz.prog 61 #[.agg #[.int .i64 x.num,.int .i64 x.base,.int .i64 x.tick,.slice CA cn cc],.int .i64 k] w fun e w'=>e=.returned (.int .i64 (x.num-k))∧Below w.heap.size w w':=by
 obtain ⟨w1,g,e1,eg,hg,hb⟩:=Zjq w x CA cn cc
 have f0:w1.cell? ⟨g,0,none⟩=some (.int .i64 x.num):=Za hg 0 _ rfl
 have u0:wrap64 (x.num-k)=x.num-k:=Zn _ (by omega) (by omega)
 have H:=Qh hb
 have HU:=Qh u0
 clear hb hg hx hk u0
 go_enter Tryz.func61,Tryz.ntmps61
 go_upto_region 1 with fail
 rw [←e1,←eg]
 clear e1 eg
 go_wp2_with fail
 go_ret
 exact ⟨congrArg (fun v=>Ending.returned (Value.int .i64 v)) HU.out,H.out⟩
def XK (B L n:Int):Bool:=decide (n<B) || (decide (n≤L-32)&&!(decide (n=B)))
theorem Zjs (x:Rec) (CA:Option Addr) (cn cc:Nat) (Bq Lq:Int) (hLq:0≤Lq∧Lq≤1073741824) (kb:Nat) (w:World) (hkb:w.cell? ⟨kb,0,none⟩=some (.int .i64 Bq)∧w.cell? ⟨kb,1,none⟩=some (.int .i64 Lq)) :
  Calls Tryz.prog 65 #[.agg #[.int .i64 x.num,.int .i64 x.base,.int .i64 x.tick,.slice CA cn cc],.pointer (some ⟨kb,0,none⟩)] w fun e w'=>e=.returned (.bool (XK Bq Lq x.num))∧Below w.heap.size w w':=by
 obtain ⟨w1,g,e1,eg,hg,hb⟩:=Zjq w x CA cn cc
 have f0:w1.cell? ⟨g,0,none⟩=some (.int .i64 x.num):=Za hg 0 _ rfl
 have k0:=(hb.cell (Zc hkb.1)).trans hkb.1
 have k1:=(hb.cell (Zc hkb.2)).trans hkb.2
 have u0:wrap64 (Lq-32)=Lq-32:=Zn _ (by omega) (by omega)
 obtain ⟨a,ea⟩:∃ a,a=decide (x.num<Bq):=⟨_,rfl⟩
 obtain ⟨b,eb⟩:∃ b,b=decide (x.num≤Lq-32):=⟨_,rfl⟩
 obtain ⟨c,ec⟩:∃ c,c=decide (x.num=Bq):=⟨_,rfl⟩
 have hR:XK Bq Lq x.num=(a || (b&&!c)):=by unfold XK;rw [←ea,←eb,←ec]
 rw [hR]
 have d0:decide (x.num<Bq)=a:=ea.symm
 have d1:decide (x.num≤Lq-32)=b:=eb.symm
 have d2:(x.num==Bq)=c:=by rw [ec];rfl
 have d3:(x.num != Bq)=!c:=by rw [←d2];rfl
 have H:=Qh hb
 clear hb hg ea eb ec hR hkb hLq
 go_enter Tryz.func65,Tryz.ntmps65
 go_upto_region 1 with fail
 rw [←e1,←eg]
 clear e1 eg
 rcases a with _ | _<;>rcases b with _ | _<;>rcases c with _ | _
 all_goals
  go_wp2_with fail
  go_ret
  exact ⟨rfl,H.out⟩
theorem Zqw (K:Int) (A:Option Addr) (n cap:Nat) (l:List Rec) (w:World) (h:Zy w A n cap l) (hup:∀ (i j:Nat) x y,i<j→l[i]?=some x→l[j]?=some y→Rec.num x<Rec.num y) (hrg:(∀ (t:Nat) y,l[t]?=some y→0≤y.num∧y.num≤1073741824)∧0≤K∧K≤1073741824) :
  Calls Tryz.prog 60 #[.slice A n cap,.int .i64 K,.func (.func 61) #[] #[]] w fun e w'=>∃ (k:Nat) (b:Bool),e=.returned (.tuple #[.int .i64 (k:Nat),.bool b])∧((k≤n∧(∀ (t:Nat) y,t<k→l[t]?=some y→Rec.num y<K)∧(∀ (t:Nat) y,k≤t→l[t]?=some y→K≤Rec.num y))∧(b=true↔∃ x,l[k]?=some x∧Rec.num x=K))∧Below w.heap.size w w':=by
 have H:=Qh (Qi h (Qi hup hrg))
 clear h hup hrg
 go_enter Tryz.func60,Tryz.ntmps60
 go_wp2_with fail
 go_loopg [9,10] n (fun gh iv jv wr=>∃ i j:Nat,(gh=j-i∧i≤j∧j≤n)∧((∀ (t:Nat) y,t<i→l[t]?=some y→Rec.num y<K)∧(∀ (t:Nat) y,j≤t→l[t]?=some y→K≤Rec.num y))∧iv=.int .i64 (i:Nat)∧jv=.int .i64 (j:Nat)∧Below w.heap.size w wr)
 case atStart=>
  exact Tq70
 case round=>
  obtain ⟨i,j,hg,hall,rfl,rfl,hW⟩:=hrel
  obtain ⟨W,eW⟩:∃ W,W=wr:=⟨_,rfl⟩
  rw [←eW] at hW ⊢
  clear eW
  have h:=H.out.1
  have hlen:=h.len
  have hlim:=h.lim
  by_cases hlt:i<j
  ·obtain ⟨m,em⟩:∃ m,m=(i+j) / 2:=⟨_,rfl⟩
   have hmi:i≤m:=by omega
   have hmj:m<j:=by omega
   obtain ⟨x,hx⟩:∃ x,l[m]?=some x:=⟨_,List.getElem?_eq_getElem (by omega)⟩
   have i0:(0:Int)≤(m:Int):=by omega
   have i1:(m:Int)<(n:Int):=by omega
   have i2:decide (i<j)=true:=decide_eq_true hlt
   have i3:wrap64 ((i:Int)+(j:Int))=((i+j:Nat):Int):=by rw [Zn _ (by omega) (by omega)];omega
   have i4:wrap64 (IntKind.u64.wrap ((i:Int)+(j:Int)) / 2)=(m:Int):=by rw [Go.IntWalk.u64_in _ ⟨by omega,by omega⟩,Zn _ (by omega) (by omega),em];omega
   have w2:wrap64 ((m:Int)+1)=(m:Int)+1:=Zn _ (by omega) (by omega)
   obtain ⟨R,eR⟩:∃ R:Int,R=(x.num-K):=⟨_,rfl⟩
   have hsg:(R<0↔Rec.num x<K)∧(R=0↔Rec.num x=K):=by rw [eR];exact ⟨by omega,by omega⟩
   obtain ⟨b,o,CA,cn,cc,rfl,⟨c0,c1,c2,c3⟩,hr⟩:=h.at_ m x hx
   have hbk:=hW.block b (Zc c0)
   have c0:=(Zm hbk _).trans c0
   have c1:=(Zm hbk _).trans c1
   have c2:=(Zm hbk _).trans c2
   have c3:=(Zm hbk _).trans c3
   clear hbk
   have F:Calls Tryz.prog 61 #[.agg #[.int .i64 x.num,.int .i64 x.base,.int .i64 x.tick,.slice CA cn cc],.int .i64 K] W fun e w'=>e=.returned (.int .i64 R)∧Below W.heap.size W w':=by rw [eR];exact Zjr x CA cn cc K W (H.out.2.2.1 _ x hx) H.out.2.2.2
   obtain ⟨D,eD⟩:∃ D:Bool,D=decide (R<0):=⟨_,rfl⟩
   have HX:=Qh (Qi hx (Qi hg (Qi hall (Qi hW (Qi hsg (Qi eD (Qi hmi (Qi hmj hlen))))))))
   have eD':=eD.symm
   clear hx hlt hg hall hW hsg eR eD h hlen hlim em hmi hmj
   rcases D with _ | _
   ·go_wp2_with (go_at_call 61;refine F.mono ?_;rintro e w3 ⟨rfl,hb3⟩;have H3:=Qh hb3;clear hb3)
    go_roundg (m-i)
    case measure=>have:=HX.out.2.1;have:=HX.out.2.2.2.2.2.2;omega
    case rel=>
     obtain ⟨hx,hg,hall,hW,hsg,eD,hmi,hmj,hlen⟩:=HX.out
     refine ⟨i,m,⟨rfl,hmi,by omega⟩,⟨hall.1,fun t y ht hy=>?_⟩,rfl,rfl,hW.trans (H3.out.mono hW.size)⟩
     have hR:K≤Rec.num x:=by
      have:=of_decide_eq_false eD.symm
      have:=hsg.1
      omega
     exact Tq84
   ·go_wp2_with (go_at_call 61;refine F.mono ?_;rintro e w3 ⟨rfl,hb3⟩;have H3:=Qh hb3;clear hb3)
    go_roundg (j-(m+1))
    case measure=>have:=HX.out.2.1;have:=HX.out.2.2.2.2.2.2;omega
    case rel=>
     obtain ⟨hx,hg,hall,hW,hsg,eD,hmi,hmj,hlen⟩:=HX.out
     refine ⟨m+1,j,⟨rfl,by omega,hg.2.2⟩,⟨fun t y ht hy=>?_,hall.2⟩,by go_num,rfl,hW.trans (H3.out.mono hW.size)⟩
     have hR:Rec.num x<K:=hsg.1.1 (of_decide_eq_true eD.symm)
     exact Tq80
  ·obtain rfl:i=j:=by omega
   have i2:decide (i<i)=false:=decide_eq_false hlt
   by_cases hin:i<n
   ·obtain ⟨x,hx⟩:∃ x,l[i]?=some x:=⟨_,List.getElem?_eq_getElem (by omega)⟩
    obtain ⟨m,em⟩:∃ m,m=i:=⟨_,rfl⟩
    have i0:(0:Int)≤(i:Int):=by omega
    have i1:(i:Int)<(n:Int):=by omega
    have i3:decide (i<n)=true:=decide_eq_true hin
    obtain ⟨R,eR⟩:∃ R:Int,R=(x.num-K):=⟨_,rfl⟩
    have hsg:(R<0↔Rec.num x<K)∧(R=0↔Rec.num x=K):=by rw [eR];exact ⟨by omega,by omega⟩
    obtain ⟨b,o,CA,cn,cc,rfl,⟨c0,c1,c2,c3⟩,hr⟩:=h.at_ i x hx
    have hbk:=hW.block b (Zc c0)
    have c0:=(Zm hbk _).trans c0
    have c1:=(Zm hbk _).trans c1
    have c2:=(Zm hbk _).trans c2
    have c3:=(Zm hbk _).trans c3
    clear hbk
    have F:Calls Tryz.prog 61 #[.agg #[.int .i64 x.num,.int .i64 x.base,.int .i64 x.tick,.slice CA cn cc],.int .i64 K] W fun e w'=>e=.returned (.int .i64 R)∧Below W.heap.size W w':=by rw [eR];exact Zjr x CA cn cc K W (H.out.2.2.1 _ x hx) H.out.2.2.2
    have HX:=Qh (Qi hx (Qi hg (Qi hall (Qi hW (Qi hsg (Qi hin hlen))))))
    clear hx hlt hg hall hW hsg eR h hlen hlim em hin
    go_wp2_with (go_at_call 61;refine F.mono ?_;rintro e w3 ⟨rfl,hb3⟩;have H3:=Qh hb3;clear hb3)
    exact Tq43
   ·exact Tq34
theorem Zqx (Bq Lq:Int) (hLq:0≤Lq∧Lq≤1073741824) (kb:Nat) (A:Option Addr) (n cap:Nat) (l:List Rec) (w:World) (h:Zy w A n cap l) (hkb:w.cell? ⟨kb,0,none⟩=some (.int .i64 Bq)∧w.cell? ⟨kb,1,none⟩=some (.int .i64 Lq)) :
  Calls Tryz.prog 133 #[.slice A n cap,.func (.func 65) #[] #[.pointer (some ⟨kb,0,none⟩)]] w fun e w'=>∃ k:Int,e=.returned (.int .i64 k)∧Xd (fun r=>XK Bq Lq r.num) l k∧Below w.heap.size w w':=by
 have H:=Qh (Qi h hkb)
 clear h hkb
 go_enter Tryz.func133,Tryz.ntmps133
 go_wp2_with fail
 go_loopg [8] n (fun gh iv wr=>∃ j:Nat,gh+j=n∧(∀ (i:Nat) y,i<j→l[i]?=some y→(fun r=>XK Bq Lq r.num) y=false)∧iv=.int .i64 (j:Nat)∧Below w.heap.size w wr)
 case atStart=>exact ⟨0,rfl,fun i y h=>by omega,rfl,Below.refl _ _⟩
 case round=>
  obtain ⟨j,hg,hall,rfl,hW⟩:=hrel
  obtain ⟨W,eW⟩:∃ W,W=wr:=⟨_,rfl⟩
  rw [←eW] at hW ⊢
  clear eW
  have h:=H.out.1
  have hlen:=h.len
  have hlim:=h.lim
  by_cases hlt:j<n
  ·obtain ⟨x,hx⟩:∃ x,l[j]?=some x:=⟨_,List.getElem?_eq_getElem (by omega)⟩
   have i0:(0:Int)≤(j:Int):=by omega
   have i1:(j:Int)<(n:Int):=by omega
   have i2:decide (j<n)=true:=decide_eq_true hlt
   have w2:wrap64 ((j:Int)+1)=(j:Int)+1:=Zn _ (by omega) (by omega)
   obtain ⟨R,eR⟩:∃ R,R=(fun r=>XK Bq Lq r.num) x:=⟨_,rfl⟩
   obtain ⟨b,o,CA,cn,cc,rfl,⟨c0,c1,c2,c3⟩,hr⟩:=h.at_ j x hx
   have hbk:=hW.block b (Zc c0)
   have c0:=(Zm hbk _).trans c0
   have c1:=(Zm hbk _).trans c1
   have c2:=(Zm hbk _).trans c2
   have c3:=(Zm hbk _).trans c3
   clear hbk
   have F:Calls Tryz.prog 65 #[.agg #[.int .i64 x.num,.int .i64 x.base,.int .i64 x.tick,.slice CA cn cc],.pointer (some ⟨kb,0,none⟩)] W fun e w'=>e=.returned (.bool R)∧Below W.heap.size W w':=by rw [eR];exact Zjs x CA cn cc Bq Lq hLq kb W ⟨(Zm (hW.block kb (Zc H.out.2.1)) _).trans H.out.2.1,(Zm (hW.block kb (Zc H.out.2.2)) _).trans H.out.2.2⟩
   have HX:=Qh (Qi hx (Qi hlt (Qi hg (Qi hall (Qi hW eR)))))
   clear hx hlt hg hall hW eR h hlen hlim
   rcases R with _ | _
   ·go_wp2_with (go_at_call 65;refine F.mono ?_;rintro e w3 ⟨rfl,hb3⟩;have H3:=Qh hb3;clear hb3)
    exact Tq3
   ·go_wp2_with (go_at_call 65;refine F.mono ?_;rintro e w3 ⟨rfl,hb3⟩;have H3:=Qh hb3;clear hb3)
    exact Tq12
  ·exact Tq4
theorem Zqy (Bq Lq:Int) (hLq:0≤Lq∧Lq≤1073741824) (kb:Nat) (B g cap:Nat) (ls:List LR) (w:World) (h:w.ownsRow B 45 4 (.slice (some ⟨g,0,none⟩) ls.length cap) ls.length (lrs ls)) (hn:ls.length≤1000) (hr:∀ x,x∈ls→Zj w x.A x.n x.c x.r.es) (hkb:w.cell? ⟨kb,0,none⟩=some (.int .i64 Bq)∧w.cell? ⟨kb,1,none⟩=some (.int .i64 Lq)) (hne:kb≠g) :
  Calls Tryz.prog 64 #[.slice (some ⟨g,0,none⟩) ls.length cap,.func (.func 65) #[] #[.pointer (some ⟨kb,0,none⟩)]] w fun e w'=>∃ m,e=.returned (.slice (some ⟨g,0,none⟩) m cap)∧m=(ls.filter fun x=>!(fun r=>XK Bq Lq r.num) x.r).length∧w'.ownsRow B 45 4 (.slice (some ⟨g,0,none⟩) m cap) m (lrs (ls.filter fun x=>!(fun r=>XK Bq Lq r.num) x.r))∧w.grownBy w' (some g):=by
 obtain ⟨P,eP⟩:∃ P:Rec→Bool,P=(fun r=>XK Bq Lq r.num):=⟨_,rfl⟩
 rw [←eP]
 obtain ⟨n,en⟩:∃ n,n=ls.length:=⟨_,rfl⟩
 obtain ⟨hnc,hcm,hB,hgl⟩:=Zci h
 have hm:maxLen≤9223372036854775807:=by unfold maxLen;omega
 obtain ⟨A',c',e',hL⟩:=Zch h (by omega) hr
 injection e' with e1 _ e2
 subst e1 e2
 have F:=Zqx Bq Lq hLq kb (some ⟨g,0,none⟩) ls.length cap (ls.map LR.r) w hL hkb
 rw [←eP] at F
 rw [←en] at h hn hnc F ⊢
 have H:=Qh (Qi (Qi h (Qi en (Qi hne eP))) (Qi hkb (Qi hnc (Qi hcm (Qi hgl hn)))))
 clear h hL hr hne hnc hcm hB hgl eP en hn hm hkb
 go_enter Tryz.func64,Tryz.ntmps64
 go_upto_region 2 with (go_at_call 133;refine F.mono ?_;rintro e w2 ⟨kk,rfl,hk,hb2⟩;have H2:=Qh (Qi hk hb2);clear hk hb2)
 have hg2:w.grownBy w2 (some g):=(Zav H2.out.2).but _
 have ho2:=Y3 H.out.1.1 H2.out.2
 rcases H2.out.1 with ⟨i0,y,rfl,hy,hp,hno⟩|⟨rfl,hno⟩
 ·rw [List.getElem?_map] at hy
  rcases hx:ls[i0]? with _ | x
  ·rw [hx] at hy;cases hy
  rw [hx] at hy
  injection hy with hy
  subst hy
  obtain ⟨hi0,-⟩:=List.getElem?_eq_some_iff.1 hx
  have hK:(ls.take (i0+1)).filter (fun x=>!P x.r)=ls.take i0:=by
   exact Tq44
  have hI0:QX (lrs ls) ls (ls.take i0) i0 (i0+1):=⟨by rw [List.length_take];omega,by omega,Zfl ls i0,ZdC ls (i0+1)⟩
  have b1:((i0:Int)==-1)=false:=by simp
  have b2:wrap64 ((i0:Int)+1)=(i0:Int)+1:=Zn _ (by omega) (by have:=H.out.1.2.1;have:=H.out.2.2.2.2.2;omega)
  have HS:=Qh (Qi (Qi hI0 hK) (Qi hg2 (Qi ho2 hi0)))
  have HB:=Qh b2
  clear b2
  clear hI0 hK hg2 ho2 hi0 hp hno hx F H2
  go_wp2_with fail
  go_loopg [5,6] (n-(i0+1)) (fun gh iv jv wr=>∃ (i j:Nat) (xs:List Value),gh+j=n∧iv=.int .i64 (i:Nat)∧jv=.int .i64 (j:Nat)∧QX xs ls ((ls.take j).filter fun x=>!P x.r) i j∧wr.ownsRow B 45 4 (.slice (some ⟨g,0,none⟩) n cap) n xs∧w.grownBy wr (some g))
  case atStart=>exact ⟨i0,i0+1,lrs ls,by have:=HS.out.2.2.2;have:=H.out.1.2.1;omega,rfl,by rw [HB.out];go_num,by rw [HS.out.1.2];exact HS.out.1.1,HS.out.2.2.1,HS.out.2.1⟩
  case round=>
   obtain ⟨i,j,xs,hgh,rfl,rfl,hI,hO,hG⟩:=hrel
   obtain ⟨W,eW⟩:∃ W,W=wr:=⟨_,rfl⟩
   rw [←eW] at hO hG ⊢
   clear eW HS
   have hln:=hO.1
   have hen:=H.out.1.2.1
   have hij:=hI.lt
   have hnc:=H.out.2.2.1
   have hn:=H.out.2.2.2.2.2
   have hgl:=Nat.lt_of_lt_of_le H.out.2.2.2.2.1 hG.size
   by_cases hlt:j<n
   ·obtain ⟨x,hx⟩:∃ x,ls[j]?=some x:=⟨_,List.getElem?_eq_getElem (by omega)⟩
    have at_:=fun k u (hk:k<4) (hu:x.cells[k]?=some u)=>(hO.cellAt (j*4+k) (by omega)).trans (hI.at_ hx k u hu)
    have c0:W.cell? ⟨g,j*4,none⟩=some (.int .i64 x.r.num):=at_ 0 _ (by omega) rfl
    have c1:W.cell? ⟨g,j*4+1,none⟩=some (.int .i64 x.r.base):=at_ 1 _ (by omega) rfl
    have c2:W.cell? ⟨g,j*4+2,none⟩=some (.int .i64 x.r.tick):=at_ 2 _ (by omega) rfl
    have c3:W.cell? ⟨g,j*4+3,none⟩=some (.slice x.A x.n x.c):=at_ 3 _ (by omega) rfl
    clear at_
    have i0:(0:Int)≤(j:Int):=by omega
    have i1:(j:Int)<(n:Int):=by omega
    have i2:decide (j<n)=true:=decide_eq_true hlt
    have i3:(0:Int)≤(i:Int):=by omega
    have i4:(i:Int)<(n:Int):=by omega
    have b2:wrap64 ((j:Int)+1)=(j:Int)+1:=Zn _ (by omega) (by omega)
    have b3:wrap64 ((i:Int)+1)=(i:Int)+1:=Zn _ (by omega) (by omega)
    obtain ⟨W1,e1⟩:∃ W1,W1=W.alloc (.cells #[.int .i64 x.r.num,.int .i64 x.r.base,.int .i64 x.r.tick,.slice x.A x.n x.c] 45 (0,0)):=⟨_,rfl⟩
    obtain ⟨gb,eb⟩:∃ gb,gb=W.heap.size:=⟨_,rfl⟩
    have hb1:Below W.heap.size W W1:=by rw [e1];exact Zg W _
    have hbx:W1.heap[gb]?=some (.cells #[.int .i64 x.r.num,.int .i64 x.r.base,.int .i64 x.r.tick,.slice x.A x.n x.c] 45 (0,0)):=by rw [e1,eb];exact heap_alloc_new W _
    obtain ⟨d0,d1,d2,d3⟩:=cs4 hbx
    have hO1:=Y3 hO hb1
    have hG1:w.grownBy W1 (some g):=hG.trans ((Zav hb1).but _)
    obtain ⟨R,eR⟩:∃ R,R=P x.r:=⟨_,rfl⟩
    have hkb:=Qi (hG1.cell H.out.2.1.1 (fun e=>H.out.1.2.2.1 (by injection e))) (hG1.cell H.out.2.1.2 (fun e=>H.out.1.2.2.1 (by injection e)))
    have F:Calls Tryz.prog 65 #[.agg #[.int .i64 x.r.num,.int .i64 x.r.base,.int .i64 x.r.tick,.slice x.A x.n x.c],.pointer (some ⟨kb,0,none⟩)] W1 fun e w'=>e=.returned (.bool R)∧Below W1.heap.size W1 w':=by rw [eR,H.out.1.2.2.2];exact Zjs x.r x.A x.n x.c Bq Lq hLq kb W1 hkb
    have HX:=Qh (Qi (Qi hx (Qi hlt (Qi hgh eR))) (Qi hI (Qi hO1 (Qi hG1 (Qi hbx (Qi hln hen))))))
    clear hx hlt hgh eR hI hO hO1 hG hG1 hbx hb1 hln hen hij hnc hgl hn
    go_upto_region 8 with fail
    rw [←e1,←eb]
    clear e1 eb
    rcases R with _ | _
    ·go_upto_region 9 with (go_at_call 65;refine F.mono ?_;rintro e w3 ⟨rfl,hb3⟩;have H3:=Qh hb3;clear hb3)
     exact Tq9
    ·go_wp2_with (go_at_call 65;refine F.mono ?_;rintro e w3 ⟨rfl,hb3⟩;have H3:=Qh hb3;clear hb3)
     exact Tq35
   ·exact Tq10
 ·exact Tq40
theorem Zqz (B n c:Nat) (A:Option Addr) (ls:List LR) (x:LR) (rb:Nat) (w:World) (h:w.ownsRow B 45 4 (.slice A n c) n (lrs ls)) (hn:n≤1000) (hl:n=ls.length) (hrb:∀ j u,x.cells[j]?=some u→w.cell? ((⟨rb,0,none⟩:Addr).add j)=some u) (hB:B≤w.heap.size) :
  Calls Tryz.prog 62 #[.slice A n c,.int .i64 (n:Nat),.slice (some ⟨rb,0,none⟩) 1 1] w fun e w'=>∃ v,e=.returned v∧w'.ownsRow B 45 4 v (n+1) (lrs (ls++[x]))∧w.grownBy w' (Value.slice A n c).ownBlock∧(v.ownBlock=(Value.slice A n c).ownBlock∨v.ownBlock=some w.heap.size):=by
 obtain ⟨iz,hi,hz0,hz1,hz2⟩:=info_parts Zdx
 have HI:=Qh (Qi hi (Qi hz0 (Qi hz1 hz2)))
 have HN:=Qh (Qi (show n+1≤maxLen by unfold maxLen;omega) (show (n+1)*48≤140737488355328 by omega))
 have hcap:A=none∧n=0∧c=0∨∃ g,A=some ⟨g,0,none⟩∧n≤c:=by
  rcases h.2 with ⟨h',h0⟩|⟨g',cap',cur,h',hb',hh',h1,r⟩
  ·injection h' with e1 e2 e3;exact .inl ⟨e1,h0,e3⟩
  ·injection h' with e1 e2 e3;subst e1 e3;exact .inr ⟨g',rfl,h1⟩
 rw [Zcg]
 have H:=Qh (Qi h (Qi hrb hB))
 clear h hrb hB hi hz0 hz1 hz2 hl
 have i0:(0:Int)≤(n:Int):=by omega
 have i2:((n:Int)==(n:Int))=true:=by simp
 rcases hcap with ⟨rfl,rfl,rfl⟩|⟨g,rfl,hc⟩
 ·clear hn i0 i2
  go_enter Tryz.func62,Tryz.ntmps62
  go_wp2_with (at_builtin;refine wpList_append_own_at _ rfl (.tmp 23) (.tmp 24) 30 rfl B 45 iz _ 4 48 Tryz.underlying30 HI.out.1 HI.out.2.1 HI.out.2.2.1 HI.out.2.2.2 rfl (by decide) _ 0 _ rfl H.out.1 ⟨rb,0,none⟩ 1 1 x.cells rfl rfl H.out.2.1 (ZbG x) HN.out.1 HN.out.2 H.out.2.2 ?_;intro v10 w10 JB ZaB _ hblk;have H2:=Qh (Qi JB (Qi ZaB hblk));clear JB ZaB hblk)
  go_ret
  exact ⟨v10,rfl,H2.out⟩
 ·have i1:(n:Int)≤(c:Int):=by omega
  obtain ⟨A1,eA⟩:∃ A1,(if c=n then (some ⟨g,0,none⟩:Option Addr) else some ⟨g,n*4,none⟩)=A1:=⟨_,rfl⟩
  clear hn hc
  go_enter Tryz.func62,Tryz.ntmps62
  go_wp2_with (at_builtin;refine wpList_append_own_at _ rfl (.tmp 23) (.tmp 24) 30 rfl B 45 iz _ 4 48 Tryz.underlying30 HI.out.1 HI.out.2.1 HI.out.2.2.1 HI.out.2.2.2 rfl (by decide) _ n _ rfl H.out.1 ⟨rb,0,none⟩ 1 1 x.cells rfl rfl H.out.2.1 (ZbG x) HN.out.1 HN.out.2 H.out.2.2 ?_;intro v10 w10 JB ZaB _ hblk;have H2:=Qh (Qi JB (Qi ZaB hblk));clear JB ZaB hblk)
  go_ret
  exact ⟨v10,rfl,H2.out⟩
end
end Go.Proofs.YtlgcfimhfmgkmaaGreatDoor
namespace Go.Proofs.YtlgcfimhfmgkmaaGreatDoor
open Go.RowKit
section
theorem Tq50 {p:Prop} (h:p:=by
 clear hzy
 go_wp2_with (go_at_call 73;refine FL.mono ?_;rintro e w3 ⟨rfl,hb3⟩;have H3:=Qh hb3;clear hb3 FL)
 go_meet
 exact ⟨rfl,H.out.1.trans (H3.out.mono H.out.1.size),(H3.out.block _ (Zh H.out.2.2.2.1)).trans H.out.2.2.2.1⟩):p:=h
theorem Zjt (base last:Int) (log:List Rec) (LA:Option Addr) (ln lc:Nat) (w:World) (hT:Tabs w) (hL:Zy w LA ln lc log) :
  Calls Tryz.prog 23 #[.agg #[.int .i64 base,.int .i64 last,.slice LA ln lc]] w fun e w'=>e=.returned (.bool (XI ⟨base,last,log⟩))∧Below w.heap.size w w':=by
 obtain ⟨w1,e1⟩:∃ W,W=w.alloc (.cells #[.int .i64 base,.int .i64 last,.slice LA ln lc] 38 (0,0)):=⟨_,rfl⟩
 obtain ⟨g,eg⟩:∃ g,g=w.heap.size:=⟨_,rfl⟩
 have hb:Below w.heap.size w w1:=by rw [e1];exact Zg w _
 have hg0:w1.heap[g]?=some (.cells #[.int .i64 base,.int .i64 last,.slice LA ln lc] 38 (0,0)):=by rw [e1,eg];exact heap_alloc_new w _
 obtain ⟨f0,f1,f2⟩:=cs3 hg0
 obtain ⟨R,eR⟩:∃ R,R=XI ⟨base,last,log⟩:=⟨_,rfl⟩
 rw [←eR]
 obtain ⟨OK,eOK⟩:∃ OK,OK=Zdw ⟨base,last,log⟩:=⟨_,rfl⟩
 obtain ⟨R1,eR1⟩:∃ R1,R1=(if last=0 then decide (log.length=0) else lastB log last&&(decide (base=0) || Zat log base)):=⟨_,rfl⟩
 have hR:R=(!OK&&R1):=by rw [eR,eOK,eR1];rfl
 have H:=Qh (Qi hb (Qi hT (Qi hL (Qi hg0 eR1))))
 clear hb hT hL hg0 eR eR1
 go_enter Tryz.func23,Tryz.ntmps23
 go_upto_region 1 with fail
 rw [←e1,←eg]
 clear e1 eg
 unfold Zdw at eOK
 simp only [] at eOK
 have HR:=Qh hR
 clear hR
 by_cases t1:base<0
 ·have d1:decide (base<0)=true:=decide_eq_true t1
  have hok:OK=true:=by rw [eOK,d1];first | rfl | simp
  clear eOK
  subst hok
  clear t1
  go_wp2_with fail
  go_ret
  exact ⟨by rw [HR.out];rfl,H.out.1⟩
 have d1:decide (base<0)=false:=decide_eq_false t1
 by_cases t2:last<0
 ·have d2:decide (last<0)=true:=decide_eq_true t2
  have hok:OK=true:=by rw [eOK,d1,d2];first | rfl | simp
  clear eOK
  subst hok
  clear t1 t2
  go_wp2_with fail
  go_ret
  exact ⟨by rw [HR.out];rfl,H.out.1⟩
 have d2:decide (last<0)=false:=decide_eq_false t2
 by_cases t3:1073741824<last
 ·have d3:decide (1073741824<last)=true:=decide_eq_true t3
  have hok:OK=true:=by rw [eOK,d1,d2,d3];first | rfl | simp
  clear eOK
  subst hok
  clear t1 t2 t3
  go_wp2_with fail
  go_ret
  exact ⟨by rw [HR.out];rfl,H.out.1⟩
 have d3:decide (1073741824<last)=false:=decide_eq_false t3
 obtain ⟨Z,eZ⟩:∃ Z:Bool,Z=decide (base=0):=⟨_,rfl⟩
 have eZ1:(base==0)=Z:=by rw [eZ];rfl
 have eZ2:decide (base≠0)=!Z:=by rw [eZ];simp
 have eZ3:(base != 0)=!Z:=by rw [eZ];rfl
 obtain ⟨Y,eY⟩:∃ Y:Bool,Y=decide (last≤base):=⟨_,rfl⟩
 have eY1:=eY.symm
 rw [d1,d2,d3,eZ2,eY1] at eOK
 have HZ:=Qh (Qi eZ (Qi t1 (Qi t2 t3)))
 clear eZ2 eY t1 t2 t3
 by_cases hzy:Z=false∧Y=true
 ·obtain ⟨z1,z2⟩:=hzy
  subst z1 z2
  have hok:OK=true:=by rw [eOK];simp
  clear eOK eZ
  subst hok
  simp only [Bool.not_false] at eZ3
  go_wp2_with fail
  go_ret
  exact ⟨by rw [HR.out];rfl,H.out.1⟩
 obtain ⟨U,eU⟩:∃ U,U=QF log base last:=⟨_,rfl⟩
 have FL:=ZiC LA ln lc log base last ⟨by have:=HZ.out;omega,by
  have h1:=HZ.out
  by_cases hb0:base=0
  ·omega
  ·have hz:Z=false:=by rw [eZ];exact decide_eq_false hb0
   have hy:¬ last≤base:=fun h=>hzy ⟨hz,by rw [←eY1];exact decide_eq_true h⟩
   omega⟩ w1 (H.out.2.1.below H.out.1) (H.out.2.2.1.below H.out.1)
 rw [←eU] at FL eOK
 have hok:OK=!U:=by
  rw [eOK]
  rcases Z with _ | _<;>rcases Y with _ | _<;>simp_all
 have HU:=Qh eU
 clear eOK eU eZ
 subst hok
 have HL:=Qh FL
 clear FL
 go_upto_region 2 with fail
 go_cut [7] (fun v wx=>v=.bool (!U)∧Below w.heap.size w wx∧wx.heap[g]?=some (.cells #[.int .i64 base,.int .i64 last,.slice LA ln lc] 38 (0,0)))
 case first=>
  have FL:=HL.out
  rcases Z with _ | _
  ·have hy:Y=false:=by rcases Y with _ | _;rfl;exact absurd ⟨rfl,rfl⟩ hzy
   subst hy
   simp only [Bool.not_false] at eZ3
   exact Tq50
  ·simp only [Bool.not_true] at eZ3
   exact Tq50
 case rest=>
 obtain ⟨rfl,hbw,hgw⟩:=hcut
 obtain ⟨w3,e3⟩:∃ W,W=wc:=⟨_,rfl⟩
 rw [←e3] at hbw hgw ⊢
 clear e3 f0 f1 f2 hzy
 obtain ⟨f0,f1,f2⟩:=cs3 hgw
 have H3:=Qh hbw
 clear hbw hgw
 rcases U with _ | _
 ·simp only [Bool.not_false]
  go_wp2_with fail
  go_ret
  exact ⟨by rw [HR.out];rfl,H3.out⟩
 simp only [Bool.not_true]
 by_cases ha:last=0
 ·have hd:(last==0)=true:=by rw [ha];rfl
  obtain ⟨Q,eQ⟩:∃ Q,Q=decide (ln=0):=⟨_,rfl⟩
  have eQ1:((ln:Int)==0)=Q:=by rw [eQ,Bool.eq_iff_iff];simp
  have eQ2:(ln==0)=Q:=by rw [eQ];rfl
  have HA:=Qh (Qi ha eQ)
  clear ha eQ
  go_wp2_with fail
  go_ret
  refine ⟨?_,H3.out⟩
  rw [HR.out,H.out.2.2.2.2,if_pos HA.out.1,HA.out.2,H.out.2.2.1.len];rfl
 ·have hd:(last==0)=false:=beq_eq_false_iff_ne.2 ha
  rcases hgl:log.getLast? with _ | r
  ·have hnil:log=[]:=List.getLast?_eq_none_iff.1 hgl
   have h0:ln=0:=by rw [H.out.2.2.1.len,hnil];rfl
   have HA:=Qh (Qi ha hgl)
   clear ha hgl hnil
   subst h0
   have q1:decide ((0:Int)<((0:Nat):Int))=false:=rfl
   go_upto_region 6 with fail
   go_quiet (fail)
   go_wp2_with fail
   go_ret
   refine ⟨?_,YW H3.out _⟩
   rw [HR.out,H.out.2.2.2.2,if_neg HA.out.1];unfold lastB;rw [HA.out.2];rfl
  ·obtain ⟨m,hm⟩:∃ m,ln=m+1:=by
    rcases hl:log with _|⟨x,l⟩
    ·rw [hl] at hgl;cases hgl
    ·exact ⟨l.length,by rw [H.out.2.2.1.len,hl];rfl⟩
   have hat:log[m]?=some r:=by
    rw [List.getLast?_eq_getElem?] at hgl
    rw [show m=log.length-1 by have:=H.out.2.2.1.len;omega]
    exact hgl
   have hlim:=H.out.2.2.1.lim
   subst hm
   obtain ⟨b,o,CA,cn,cc,eA,⟨c0,_⟩,_⟩:=H.out.2.2.1.at_ m r hat
   obtain ⟨r0,hr0⟩:∃ x,log[0]?=some x:=⟨_,List.getElem?_eq_getElem (by have:=H.out.2.2.1.len;omega)⟩
   obtain ⟨b',o',CA',cn',cc',eA',⟨d0,_⟩,_⟩:=H.out.2.2.1.at_ 0 r0 hr0
   rw [eA] at eA'
   injection eA' with eA'
   injection eA' with eA1 eA2 _
   subst eA1 eA2 eA
   have c0:w3.cell? ⟨b,o+m*4,none⟩=some (.int .i64 r.num):=(H3.out.cell (Zc c0)).trans c0
   have d0:w3.cell? ⟨b,o,none⟩=some (.int .i64 r0.num):=(H3.out.cell (Zc d0)).trans d0
   have q1:decide ((0:Int)<((m+1:Nat):Int))=true:=decide_eq_true (by omega)
   have q3:decide (0<m+1)=true:=decide_eq_true (by omega)
   have q2:wrap64 (((m+1:Nat):Int)-1)=(m:Int):=by rw [Zn _ (by omega) (by omega)];omega
   have i0:(0:Int)≤(m:Int):=by omega
   have i1:(m:Int)<((m+1:Nat):Int):=by omega
   have i2:(0:Int)<((m+1:Nat):Int):=by omega
   have q1':decide ((0:Int)<(m:Int)+1)=true:=decide_eq_true (by omega)
   have q2':wrap64 ((m:Int)+1-1)=(m:Int):=by rw [Zn _ (by omega) (by omega)];omega
   have q6:wrap64 (m:Int)=(m:Int):=Zn _ (by omega) (by omega)
   have q7:IntKind.i64.wrap (m:Int)=(m:Int):=Go.IntWalk.i64_in _ ⟨by omega,by omega⟩
   have q8:IntKind.i64.wrap ((m:Int)+1-1)=(m:Int):=by rw [Go.IntWalk.i64_in _ ⟨by omega,by omega⟩];omega
   have i1':(m:Int)<(m:Int)+1:=by omega
   have i2':(0:Int)<(m:Int)+1:=by omega
   obtain ⟨P,eP⟩:∃ P,P=decide (r.num=last):=⟨_,rfl⟩
   have eP':(r.num==last)=P:=by rw [eP];rfl
   obtain ⟨Q,eQ⟩:∃ Q,Q=decide (r0.num=base):=⟨_,rfl⟩
   have eQ':(r0.num==base)=Q:=by rw [eQ];rfl
   have hh:Zat log base=Q:=by
    rcases hl:log with _|⟨x,l⟩
    ·rw [hl] at hr0;cases hr0
    ·rw [hl] at hr0;injection hr0 with hr0;subst hr0;exact eQ.symm
   have hlB:lastB log last=P:=by unfold lastB;rw [hgl];exact eP.symm
   have HA:=Qh (Qi ha (Qi hh hlB))
   have hz:=HZ.out.1
   clear ha hh hlB eP eQ hgl hat hr0 hlim eZ3
   rcases P with _ | _
   ·clear hz
    have eP2:decide (r.num=last)=false:=eP'
    have eP3:¬ r.num=last:=of_decide_eq_false eP2
    go_upto_region 6 with fail
    go_quiet (fail)
    go_wp2_with fail
    go_ret
    refine ⟨?_,YW H3.out _⟩
    rw [HR.out,H.out.2.2.2.2,if_neg HA.out.1,HA.out.2.2];rfl
   ·rcases Z with _ | _
    ·have HZ2:=Qh hz
     clear hz
     go_upto_region 6 with fail
     go_quiet (fail)
     go_wp2_with fail
     go_ret
     refine ⟨?_,YW H3.out _⟩
     rw [HR.out,H.out.2.2.2.2,if_neg HA.out.1,HA.out.2.2,HA.out.2.1,←HZ2.out];rfl
    ·have hb0:base=0:=of_decide_eq_true hz.symm
     clear eZ1 hz
     subst hb0
     go_upto_region 6 with fail
     go_quiet (fail)
     go_wp2_with fail
     go_ret
     refine ⟨?_,YW H3.out _⟩
     rw [HR.out,H.out.2.2.2.2,if_neg HA.out.1,HA.out.2.2,HA.out.2.1];rfl
end
end Go.Proofs.YtlgcfimhfmgkmaaGreatDoor
