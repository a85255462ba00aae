/- Lemmas for the statement. -/
import Derived.Test.YtlgcfimhfmgkmaaGreatDoorMAF
set_option linter.unusedVariables false
set_option linter.unusedSimpArgs false
namespace Go.Proofs.YtlgcfimhfmgkmaaGreatDoor
open Go.RowKit
section
theorem Zmk (c:Cmp) (w:World):Calls Tryz.prog 80 #[c.agg] w fun e w'=>e=.returned (.int .u8 (c.kind:Nat))∧Below w.heap.size w w':=by
 obtain ⟨kd,v0,v1,v2,v3⟩:=c
 show Calls Tryz.prog 80 #[.agg #[.int .u8 (kd:Nat),.int .i64 v0,.int .i64 v1,.int .i64 v2,.int .i64 v3]] w _
 go_enter Tryz.func80,Tryz.ntmps80
 go_wp2_with fail
 go_ret
 exact ⟨rfl,(Below.refl _ _).alloc (Nat.le_refl _) _⟩
theorem Zen (id:Int) (A:Option Addr) (n c:Nat) (w:World):Calls Tryz.prog 33 #[.agg #[.int .i64 id,.slice A n c]] w fun e w'=>e=.returned (.int .i64 id)∧Below w.heap.size w w':=by
 go_enter Tryz.func33,Tryz.ntmps33
 go_wp2_with fail
 go_ret
 exact ⟨rfl,(Below.refl _ _).alloc (Nat.le_refl _) _⟩
def Xt (l:List Int):Bool:=decide (l.Pairwise (· < ·))
theorem ZgM {l:List Int} (h:∀ i,∀ a b,l[i]?=some a→l[i+1]?=some b→a<b):l.Pairwise (· < ·):=by
 rw [List.pairwise_iff_getElem]
 intro i j hi hj hij
 obtain ⟨k,rfl⟩:=Nat.le.dest (show i+1≤j by omega)
 clear hij
 induction k with
 | zero=>exact h i _ _ (List.getElem?_eq_getElem hi) (List.getElem?_eq_getElem hj)
 | succ k ih=>
  have h1:=ih (by omega)
  have h2:=h (i+1+k) _ _ (List.getElem?_eq_getElem (by omega)) (List.getElem?_eq_getElem hj)
  omega
theorem ZgN {l:List Int} (h:l.Pairwise (· < ·)) {i:Nat} {a b:Int} (ha:l[i]?=some a) (hb:l[i+1]?=some b):a<b:=by
 rw [List.pairwise_iff_getElem] at h
 obtain ⟨h1,e1⟩:=List.getElem?_eq_some_iff.1 ha
 obtain ⟨h2,e2⟩:=List.getElem?_eq_some_iff.1 hb
 rw [←e1,←e2]
 exact h i (i+1) h1 h2 (by omega)
theorem Tq89 {p:Prop} (h:p:=by
 subst e
 rw [ha] at hx
 rw [←eq,hb] at hy
 injection hx with hx
 injection hy with hy
 subst hx hy
 have:=of_decide_eq_false eT.symm
 omega):p:=h
theorem Tq23 {p:Prop} (h:p:=by
 have i2:decide (i<n)=false:=decide_eq_false hlt
 have HX:=Qh (Qi hlt (Qi hall hW))
 clear hlt hg hall hW h eR hlen hlim hi1
 go_wp2_with fail
 go_ret
 obtain ⟨hlt,hall,hW⟩:=HX.out
 obtain ⟨h,eR⟩:=H.out
 have hR:R=true:=by
  rw [eR]
  unfold Xt
  refine decide_eq_true (ZgM fun k a b ha hb=>?_)
  rw [List.getElem?_map,Option.map_eq_some_iff] at ha hb
  obtain ⟨x,hx,rfl⟩:=ha
  obtain ⟨y,hy,rfl⟩:=hb
  have:=hall k x y (by have:=(List.getElem?_eq_some_iff.1 hy).1;have:=h.len;omega) hx hy
  omega
 exact ⟨by rw [hR];rfl,hW⟩):p:=h
set_option maxRecDepth 100000 in
set_option maxHeartbeats 4000000 in
theorem Zml (A:Option Addr) (n cap:Nat) (l:List Cmp) (w:World) (h:Zo w A n cap l) :
    Calls Tryz.prog 84 #[.slice A n cap,.func (.func 80) #[] #[]] w fun e w'=>e=.returned (.bool (Xt (l.map fun c=>((c.kind:Nat):Int))))∧Below w.heap.size w w':=by
  obtain ⟨R,eR⟩:∃ R,R=Xt (l.map fun c=>((c.kind:Nat):Int)):=⟨_,rfl⟩
  rw [←eR]
  have H:=Qh (Qi h eR)
  clear h eR
  go_enter Tryz.func84,Tryz.ntmps84
  go_wp2_with fail
  go_loopg [5] n (fun gh iv wr=>∃ i:Nat,gh+i=n+1∧iv=.int .i64 (i:Nat)∧1≤i∧(∀ k (a b:Cmp),k+1<i→l[k]?=some a→l[k+1]?=some b→a.kind<b.kind)∧Below w.heap.size w wr)
  case atStart=>exact ⟨1,rfl,rfl,Nat.le_refl _,fun k a b h=>by omega,Below.refl _ _⟩
  case round=>
    obtain ⟨i,hg,rfl,hi1,hall,hW⟩:=hrel
    obtain ⟨W,eW⟩:∃ W,W=wr:=⟨_,rfl⟩
    rw [←eW] at hW ⊢
    clear eW
    obtain ⟨h,eR⟩:=H.out
    have hlen:=h.len
    have hlim:=h.lim
    by_cases hlt:i<n
    · have i2:decide (i<n)=true:=decide_eq_true hlt
      obtain ⟨j,rfl⟩:∃ j,i=j+1:=⟨i-1,by omega⟩
      obtain ⟨a,ha⟩:∃ a,l[j]?=some a:=⟨_,List.getElem?_eq_getElem (by omega)⟩
      obtain ⟨b,hb⟩:∃ b,l[j+1]?=some b:=⟨_,List.getElem?_eq_getElem (by omega)⟩
      obtain ⟨p,o,rfl,hca⟩:=h.at_ j a ha
      obtain ⟨p2,o2,e2,hcb⟩:=h.at_ (j+1) b hb
      simp only [Option.some.injEq,Addr.mk.injEq,and_true] at e2
      obtain ⟨rfl,rfl⟩:=e2
      have u1:wrap64 (((j+1:Nat):Int)-1)=((j:Nat):Int):=by rw [Zn _ (by omega) (by omega)];omega
      have u2:wrap64 (((j+1:Nat):Int)+1)=((j+1+1:Nat):Int):=by rw [Zn _ (by omega) (by omega)];rfl
      obtain ⟨q,eq⟩:∃ q,q=j+1:=⟨_,rfl⟩
      rw [←eq] at u1 u2 hcb hlt hg hall hb i2 ⊢
      have j0:(0:Int)≤(j:Int):=by omega
      have j1:(j:Int)<(n:Int):=by omega
      have q0:(0:Int)≤(q:Int):=by omega
      have q1:(q:Int)<(n:Int):=by omega
      have u1':IntKind.i64.wrap ((q:Int)-1)=(j:Int):=(Go.IntWalk.i64_in _ (by omega)).trans (by omega)
      have FA:∀ W',Below W.heap.size W W'→(W'.cell? ⟨p,o+j*5,none⟩=some (.int .u8 (a.kind:Nat))∧W'.cell? ⟨p,o+j*5+1,none⟩=some (.int .i64 a.v0)∧W'.cell? ⟨p,o+j*5+2,none⟩=some (.int .i64 a.v1)∧W'.cell? ⟨p,o+j*5+3,none⟩=some (.int .i64 a.v2)∧W'.cell? ⟨p,o+j*5+4,none⟩=some (.int .i64 a.v3)) ∧
          (W'.cell? ⟨p,o+q*5,none⟩=some (.int .u8 (b.kind:Nat))∧W'.cell? ⟨p,o+q*5+1,none⟩=some (.int .i64 b.v0)∧W'.cell? ⟨p,o+q*5+2,none⟩=some (.int .i64 b.v1)∧W'.cell? ⟨p,o+q*5+3,none⟩=some (.int .i64 b.v2)∧W'.cell? ⟨p,o+q*5+4,none⟩=some (.int .i64 b.v3)):=by
        intro W' hb'
        have hb0:=hW.trans (hb'.mono hW.size)
        have s:=hb0.block p (Zc hca.c0)
        obtain ⟨x0,x1,x2,x3,x4⟩:=hca.step s
        obtain ⟨y0,y1,y2,y3,y4⟩:=hcb.step s
        exact ⟨⟨x0,x1,x2,x3,x4⟩,y0,y1,y2,y3,y4⟩
      have KO:=fun (c:Cmp) (W':World)=>Zmk c W'
      unfold Cmp.agg at KO
      have HF:=Qh FA
      obtain ⟨⟨x0,x1,x2,x3,x4⟩,y0,y1,y2,y3,y4⟩:=FA W (Below.refl _ _)
      obtain ⟨T,eT⟩:∃ T,T=decide (b.kind≤a.kind):=⟨_,rfl⟩
      have tT:decide (b.kind≤a.kind)=T:=eT.symm
      have HX:=Qh (Qi hlt (Qi hg (Qi hall (Qi hW (Qi ha (Qi hb (Qi eq (Qi eT hi1))))))))
      clear hlt hg hall hW ha hb hca hcb FA h eR hlen hlim eq eT hi1
      go_upto_region 4 with fail
      have KA:=fun W'=>KO a W'
      have KB:=fun W'=>KO b W'
      clear KO
      have B0:Below W.heap.size W W.drew:=(Below.refl _ W).drew
      have HB:=Qh B0
      clear B0
      go_region_with (go_at_call 80;first
        | (refine (KA _).mono ?_;rintro e w3 ⟨rfl,hb3⟩
           first
           | (have hB:=HBb.out.trans (hb3.mono HBb.out.size);have HBa:=Qh hB;clear hb3 hB KA)
           | (have hB:=HB.out.trans (hb3.mono HB.out.size);obtain ⟨-,z0,z1,z2,z3,z4⟩:=HF.out w3 hB;have HBa:=Qh hB;clear hb3 hB KA))
        | (refine (KB _).mono ?_;rintro e w4 ⟨rfl,hb4⟩
           first
           | (have hB:=HBa.out.trans (hb4.mono HBa.out.size);have HBb:=Qh hB;clear hb4 hB KB)
           | (have hB:=HB.out.trans (hb4.mono HB.out.size);obtain ⟨⟨z0,z1,z2,z3,z4⟩,-⟩:=HF.out w4 hB;have HBb:=Qh hB;clear hb4 hB KB)))
      all_goals rcases T with _ | _
      all_goals go_wp2_with fail
      all_goals first
        | (go_ret
           obtain ⟨hlt,hg,hall,hW,ha,hb,eq,eT,hi1⟩:=HX.out
           obtain ⟨h,eR⟩:=H.out
           have hR:R=false:=by
             rw [eR]
             unfold Xt
             refine decide_eq_false fun hp=>?_
             rw [eq] at hb
             have hk:=ZgN (a:=((a.kind:Nat):Int)) (b:=((b.kind:Nat):Int)) hp (by rw [List.getElem?_map,ha];rfl) (by rw [List.getElem?_map,hb];rfl)
             have hk2:=of_decide_eq_true eT.symm
             omega
           exact ⟨by rw [hR];rfl,hW.trans ((by first | exact HBa.out | exact HBb.out:Below W.heap.size W _).mono hW.size)⟩)
        | (go_roundg (n-q)
           case measure=>have:=HX.out.1;have:=HX.out.2.1;omega
           case rel=>
             obtain ⟨hlt,hg,hall,hW,ha,hb,eq,eT,hi1⟩:=HX.out
             refine ⟨q+1,by omega,by rw [u2],by omega,fun k x y hk hx hy=>?_,hW.trans ((by first | exact HBa.out | exact HBb.out:Below W.heap.size W _).mono hW.size)⟩
             by_cases e:k=j
             · exact Tq89
             · exact hall k x y (by omega) hx hy)
    · exact Tq23
end
end Go.Proofs.YtlgcfimhfmgkmaaGreatDoor
