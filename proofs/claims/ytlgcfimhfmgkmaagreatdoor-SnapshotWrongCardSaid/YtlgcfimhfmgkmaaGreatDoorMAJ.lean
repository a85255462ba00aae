/- Lemmas for the statement. -/
import Derived.Test.YtlgcfimhfmgkmaaGreatDoorMAH
set_option linter.unusedVariables false
set_option linter.unusedSimpArgs false
namespace Go.Proofs.YtlgcfimhfmgkmaaGreatDoor
open Go.RowKit
section
set_option maxRecDepth 100000 in
set_option maxHeartbeats 4000000 in
theorem Zmq (A:Option Addr) (n cap:Nat) (l:List Ent) (w:World) (h:Zj w A n cap l) :
    Calls Tryz.prog 32 #[.slice A n cap,.func (.func 33) #[] #[]] w fun e w'=>e=.returned (.bool (Xt (l.map Ent.id)))∧Below w.heap.size w w':=by
  obtain ⟨R,eR⟩:∃ R,R=Xt (l.map Ent.id):=⟨_,rfl⟩
  rw [←eR]
  have H:=Qh (Qi h eR)
  clear h eR
  go_enter Tryz.func32,Tryz.ntmps32
  go_wp2_with fail
  go_loopg [5] n (fun gh iv wr=>∃ i:Nat,gh+i=n+1∧iv=.int .i64 (i:Nat)∧1≤i∧(∀ k (a b:Ent),k+1<i→l[k]?=some a→l[k+1]?=some b→a.id<b.id)∧Below w.heap.size w wr)
  case atStart=>exact ⟨1,rfl,rfl,Nat.le_refl _,fun k a b h=>by omega,Below.refl _ _⟩
  case round=>
    obtain ⟨i,hg,rfl,hi1,hall,hW⟩:=hrel
    obtain ⟨W,eW⟩:∃ W,W=wr:=⟨_,rfl⟩
    rw [←eW] at hW ⊢
    clear eW
    obtain ⟨h,eR⟩:=H.out
    have hlen:=h.len
    have hlim:=h.lim
    by_cases hlt:i<n
    · have i2:decide (i<n)=true:=decide_eq_true hlt
      obtain ⟨j,rfl⟩:∃ j,i=j+1:=⟨i-1,by omega⟩
      obtain ⟨a,ha⟩:∃ a,l[j]?=some a:=⟨_,List.getElem?_eq_getElem (by omega)⟩
      obtain ⟨b,hb⟩:∃ b,l[j+1]?=some b:=⟨_,List.getElem?_eq_getElem (by omega)⟩
      obtain ⟨p,o,aA,an,ac,rfl,⟨ca0,ca1⟩,-⟩:=h.at_ j a ha
      obtain ⟨p2,o2,bA,bn,bc,e2,⟨cb0,cb1⟩,-⟩:=h.at_ (j+1) b hb
      simp only [Option.some.injEq,Addr.mk.injEq,and_true] at e2
      obtain ⟨rfl,rfl⟩:=e2
      have u1:wrap64 (((j+1:Nat):Int)-1)=((j:Nat):Int):=by rw [Zn _ (by omega) (by omega)];omega
      have u2:wrap64 (((j+1:Nat):Int)+1)=((j+1+1:Nat):Int):=by rw [Zn _ (by omega) (by omega)];rfl
      obtain ⟨q,eq⟩:∃ q,q=j+1:=⟨_,rfl⟩
      rw [←eq] at u1 u2 cb0 cb1 hlt hg hall hb i2 ⊢
      have j0:(0:Int)≤(j:Int):=by omega
      have j1:(j:Int)<(n:Int):=by omega
      have q0:(0:Int)≤(q:Int):=by omega
      have q1:(q:Int)<(n:Int):=by omega
      have u1':IntKind.i64.wrap ((q:Int)-1)=(j:Int):=(Go.IntWalk.i64_in _ (by omega)).trans (by omega)
      have FA:∀ W',Below W.heap.size W W'→(W'.cell? ⟨p,o+j*2,none⟩=some (.int .i64 a.id)∧W'.cell? ⟨p,o+j*2+1,none⟩=some (.slice aA an ac))∧(W'.cell? ⟨p,o+q*2,none⟩=some (.int .i64 b.id)∧W'.cell? ⟨p,o+q*2+1,none⟩=some (.slice bA bn bc)):=by
        intro W' hb'
        have hb0:=hW.trans (hb'.mono hW.size)
        have s:=hb0.block p (Zc ca0)
        exact ⟨⟨(Zm s _).trans ca0,(Zm s _).trans ca1⟩,(Zm s _).trans cb0,(Zm s _).trans cb1⟩
      have HF:=Qh FA
      obtain ⟨⟨x0,x1⟩,y0,y1⟩:=FA W (Below.refl _ _)
      obtain ⟨T,eT⟩:∃ T,T=decide (b.id≤a.id):=⟨_,rfl⟩
      have tT:decide (b.id≤a.id)=T:=eT.symm
      have HX:=Qh (Qi hlt (Qi hg (Qi hall (Qi hW (Qi ha (Qi hb (Qi eq (Qi eT hi1))))))))
      clear hlt hg hall hW ha hb ca0 ca1 cb0 cb1 FA h eR hlen hlim eq eT hi1
      go_upto_region 4 with fail
      have KA:=fun W'=>Zen a.id aA an ac W'
      have KB:=fun W'=>Zen b.id bA bn bc W'
      have B0:Below W.heap.size W W.drew:=(Below.refl _ W).drew
      have HB:=Qh B0
      clear B0
      go_region_with (go_at_call 33;first
        | (refine (KA _).mono ?_;rintro e w3 ⟨rfl,hb3⟩
           first
           | (have hB:=HBb.out.trans (hb3.mono HBb.out.size);have HBa:=Qh hB;clear hb3 hB KA)
           | (have hB:=HB.out.trans (hb3.mono HB.out.size);obtain ⟨-,z0,z1⟩:=HF.out w3 hB;have HBa:=Qh hB;clear hb3 hB KA))
        | (refine (KB _).mono ?_;rintro e w4 ⟨rfl,hb4⟩
           first
           | (have hB:=HBa.out.trans (hb4.mono HBa.out.size);have HBb:=Qh hB;clear hb4 hB KB)
           | (have hB:=HB.out.trans (hb4.mono HB.out.size);obtain ⟨⟨z0,z1⟩,-⟩:=HF.out w4 hB;have HBb:=Qh hB;clear hb4 hB KB)))
      all_goals rcases T with _ | _
      all_goals go_wp2_with fail
      all_goals first
        | (go_ret
           obtain ⟨hlt,hg,hall,hW,ha,hb,eq,eT,hi1⟩:=HX.out
           obtain ⟨h,eR⟩:=H.out
           have hR:R=false:=by
             rw [eR]
             unfold Xt
             refine decide_eq_false fun hp=>?_
             rw [eq] at hb
             have hk:=ZgN (a:=a.id) (b:=b.id) hp (by rw [List.getElem?_map,ha];rfl) (by rw [List.getElem?_map,hb];rfl)
             have hk2:=of_decide_eq_true eT.symm
             omega
           exact ⟨by rw [hR];rfl,hW.trans ((by first | exact HBa.out | exact HBb.out:Below W.heap.size W _).mono hW.size)⟩)
        | (go_roundg (n-q)
           case measure=>have:=HX.out.1;have:=HX.out.2.1;omega
           case rel=>
             obtain ⟨hlt,hg,hall,hW,ha,hb,eq,eT,hi1⟩:=HX.out
             refine ⟨q+1,by omega,by rw [u2],by omega,fun k x y hk hx hy=>?_,hW.trans ((by first | exact HBa.out | exact HBb.out:Below W.heap.size W _).mono hW.size)⟩
             by_cases e:k=j
             · exact Tq89
             · exact hall k x y (by omega) hx hy)
    · exact Tq23
end
end Go.Proofs.YtlgcfimhfmgkmaaGreatDoor
