/- Part of the proof of the claim. -/
import Derived.Test.YtmncaipgefbalaaGreatDoorQah
set_option maxRecDepth 100000
set_option maxHeartbeats 8000000
set_option linter.unusedVariables false
set_option linter.unusedSimpArgs false
namespace Go.Proofs.YtmncaipgefbalaaGreatDoor
section
open Go.RowKit
theorem zO0{p:PR}(h:¬J1 p.kind 1 3=true):K6 p=false:=by simp[K6,h]
theorem zM6{p:PR}(h:¬N4 p=true):K6 p=false:=by simp[K6,h]
theorem qY9{p:PR}(h:¬U8 p=true):K6 p=false:=by simp[K6,h]
theorem qD3{p:PR}{k:Nat}(hk:k<p.en)(h:¬S9 p.strips p.es k=true):K6 p=false:=by
 simp[K6,qF9,Y7 hk (by simpa using h)]
theorem qL3{p:PR}{k:Nat}(h1:J1 p.kind 1 3=true)(h2:N4 p=true)(h3:U8 p=true)(hk:k=p.en)(h:∀j,j<k→S9 p.strips p.es j=true):K6 p=decide ((p.en:Int)≤100):=by
 subst hk;simp[K6,qF9,Y3 h,h1,h2,h3]
theorem xS8(p:PR)(i:Int)(w:World)(h:¬(J1 p.kind 1 3=true∧N4 p=true)):
  Calls Tryz.prog 70 #[p.placed i] w fun e w'=>e= .returned (.bool (K6 p))∧Below w.heap.size w w':=by
 have HF:=Hd (show false=K6 p by by_cases h1:J1 p.kind 1 3=true;(exact(zM6 (fun h2=>h ⟨h1,h2⟩)).symm);(exact(zO0 h1).symm))
 by_cases h1:J1 p.kind 1 3=true
 ·have h2:N4 p=false:=by simpa [h1] using h
  clear h
  go_enter Tryz.func70,Tryz.ntmps70
  go_wp2_with(first|(go_at_call 71;refine(K5 _ _ _ _).mono ?_;rintro e w' ⟨rfl,rfl⟩)|(go_at_call 106;refine(T4 p i _).mono ?_;rintro e w' ⟨rfl,hb⟩;have hB:Below w.heap.size w w':=((((Q2 _ _).alloc (Q1 _) _).alloc (by simp) _).trans (hb.mono (by simp;omega)))))
  go_ret
  exact⟨J2 HF.out,hB⟩
 ·have h1':J1 p.kind 1 3=false:=by simpa using h1
  clear h h1
  go_enter Tryz.func70,Tryz.ntmps70
  go_wp2_with(go_at_call 71;refine(K5 _ _ _ _).mono ?_;rintro e w' ⟨rfl,rfl⟩)
  go_ret
  exact⟨J2 HF.out,((Q2 _ _).alloc (Q1 _) _).alloc (by simp) _⟩
theorem zM8(p:PR)(i:Int)(w:World)(B:Nat)(hBw:B≤w.heap.size)(hm:p.mem B w)(hK:p.kind=1)(hS:N4 p=true):
  Calls Tryz.prog 70 #[p.placed i] w fun e w'=>e= .returned (.bool (K6 p))∧Below w.heap.size w w':=by
 have hk13:J1 p.kind 1 3=true:=J6 (by omega) (by omega)
 have hkB:U8 p=((p.dn:Int)==0):=by simp[U8,hK]
 obtain⟨hdn,hen,hD,hI⟩:=hm
 have HS:=E8.1 hS
 have hp:=HS.pitch
 have hst:=HS.strips
 clear HS
 by_cases hkv:U8 p=true
 case neg=>
  have HF:=Hd (qY9 hkv).symm
  have hkv':((p.dn:Int)==0)=false:=by rw[←hkB];simpa using hkv
  clear hkv
  obtain⟨kind,view,z,first,pitch,strips,spill,olo,ohi,clo,chi,jitter,least,da,dn,dc,ea,en,ec,ds,es⟩:=p
  dsimp only at*
  subst hK
  clear hkB hI hen
  have HD:=Hd hD
  clear hD
  go_enter Tryz.func70,Tryz.ntmps70
  go_upto_region 1 with(fail)
  go_cut [3] from 6 to 12 (fun s3 wx=>s3= .pointer (some ⟨w.heap.size+1,0,none⟩)∧wx.cell? ⟨w.heap.size+1,1,none⟩=some (.func (.func 103) #[PR.placed ⟨1,view,z,first,pitch,strips,spill,olo,ohi,clo,chi,jitter,least,da,dn,dc,ea,en,ec,ds,es⟩ i] #[])∧w.heap.size+2≤wx.heap.size∧Below (w.heap.size+1) (w.alloc (.cells #[.int .i64 1,.int .i64 view,.int .i64 z,.int .i64 first,.int .i64 pitch,.int .i64 strips,.int .i64 spill,.int .i64 olo,.int .i64 ohi,.int .i64 clo,.int .i64 chi,.int .i64 jitter,.int .i64 least,.slice da dn dc,.slice ea en ec,.int .i64 i] 102)) wx)
  case first=>
   go_wp2
   go_meet
   exact⟨rfl,by simp,by simp,(Q2 _ _).alloc (by simp) _⟩
  obtain⟨rfl,hk1,hk2,hBx⟩:=hcut
  obtain⟨hcx,hfx⟩:=J9 hBx
  go_wp2_with(first|(go_at_call 71;refine(K5 _ _ _ _).mono ?_;rintro e w' ⟨rfl,rfl⟩)|(go_at_call 106;refine(T4 ⟨1,view,z,first,pitch,strips,spill,olo,ohi,clo,chi,jitter,least,da,dn,dc,ea,en,ec,ds,es⟩ i _).mono ?_;rintro e w1 ⟨rfl,hb⟩;obtain⟨hc,hf⟩:=J9 hb;have hz:w.heap.size+2≤w1.heap.size:=(by have:=hb.size;omega);have hz1:w.heap.size<wc.heap.size:=(by omega);have hz2:w.heap.size+1<wc.heap.size:=(by omega);have hB1:Below (w.heap.size+1) (w.alloc (.cells #[.int .i64 1,.int .i64 view,.int .i64 z,.int .i64 first,.int .i64 pitch,.int .i64 strips,.int .i64 spill,.int .i64 olo,.int .i64 ohi,.int .i64 clo,.int .i64 chi,.int .i64 jitter,.int .i64 least,.slice da dn dc,.slice ea en ec,.int .i64 i] 102)) w1:=hBx.trans (hb.mono (by omega));clear hb hBx)|(go_at_call 103;refine(zF7 ⟨1,view,z,first,pitch,strips,spill,olo,ohi,clo,chi,jitter,least,da,dn,dc,ea,en,ec,ds,es⟩ i _).mono ?_;rintro e w2 ⟨rfl,hb2⟩;have hB2:Below (w.heap.size+1) (w.alloc (.cells #[.int .i64 1,.int .i64 view,.int .i64 z,.int .i64 first,.int .i64 pitch,.int .i64 strips,.int .i64 spill,.int .i64 olo,.int .i64 ohi,.int .i64 clo,.int .i64 chi,.int .i64 jitter,.int .i64 least,.slice da dn dc,.slice ea en ec,.int .i64 i] 102)) w2:=hB1.trans (hb2.mono (by omega))))
  go_ret
  exact⟨J2 HF.out,((Q2 _ _).alloc (Q1 _) _).trans (hB2.mono (by omega))⟩
 case pos=>
  have hkv':((p.dn:Int)==0)=true:=by rw[←hkB];exact hkv
  have HE:= @qL3 p
  have HX:= @qD3 p
  have HE1:=Hd (fun(k:Nat) (hk:k=p.en) h=>HE (k:=k) hk13 hS hkv hk h)
  have HX1:=Hd (fun(k:Nat) (hk:k<p.en) h=>HX (k:=k) hk h)
  clear HE HX hkv
  obtain⟨kind,view,z,first,pitch,strips,spill,olo,ohi,clo,chi,jitter,least,da,dn,dc,ea,en,ec,ds,es⟩:=p
  dsimp only at*
  subst hK
  clear hkB
  have HD:=Hd hD
  have HI:=Hd hI
  clear hD hI
  unfold maxLen at hen hdn
  go_enter Tryz.func70,Tryz.ntmps70
  go_upto_region 1 with(fail)
  go_cut [3] from 6 to 12 (fun s3 wx=>s3= .pointer (some ⟨w.heap.size+1,0,none⟩)∧wx.cell? ⟨w.heap.size+1,1,none⟩=some (.func (.func 103) #[PR.placed ⟨1,view,z,first,pitch,strips,spill,olo,ohi,clo,chi,jitter,least,da,dn,dc,ea,en,ec,ds,es⟩ i] #[])∧w.heap.size+2≤wx.heap.size∧Below (w.heap.size+1) (w.alloc (.cells #[.int .i64 1,.int .i64 view,.int .i64 z,.int .i64 first,.int .i64 pitch,.int .i64 strips,.int .i64 spill,.int .i64 olo,.int .i64 ohi,.int .i64 clo,.int .i64 chi,.int .i64 jitter,.int .i64 least,.slice da dn dc,.slice ea en ec,.int .i64 i] 102)) wx)
  case first=>
   go_wp2
   go_meet
   exact⟨rfl,by simp,by simp,(Q2 _ _).alloc (by simp) _⟩
  obtain⟨rfl,hk1,hk2,hBx⟩:=hcut
  obtain⟨hcx,hfx⟩:=J9 hBx
  go_wp2_with(first|(go_at_call 71;refine(K5 _ _ _ _).mono ?_;rintro e w' ⟨rfl,rfl⟩)|(go_at_call 106;refine(T4 ⟨1,view,z,first,pitch,strips,spill,olo,ohi,clo,chi,jitter,least,da,dn,dc,ea,en,ec,ds,es⟩ i _).mono ?_;rintro e w1 ⟨rfl,hb⟩;obtain⟨hc,hf⟩:=J9 hb;have hz:w.heap.size+2≤w1.heap.size:=(by have:=hb.size;omega);have hz1:w.heap.size<wc.heap.size:=(by omega);have hz2:w.heap.size+1<wc.heap.size:=(by omega);have hB1:Below (w.heap.size+1) (w.alloc (.cells #[.int .i64 1,.int .i64 view,.int .i64 z,.int .i64 first,.int .i64 pitch,.int .i64 strips,.int .i64 spill,.int .i64 olo,.int .i64 ohi,.int .i64 clo,.int .i64 chi,.int .i64 jitter,.int .i64 least,.slice da dn dc,.slice ea en ec,.int .i64 i] 102)) w1:=hBx.trans (hb.mono (by omega));clear hb hBx)|(go_at_call 103;refine(zF7 ⟨1,view,z,first,pitch,strips,spill,olo,ohi,clo,chi,jitter,least,da,dn,dc,ea,en,ec,ds,es⟩ i _).mono ?_;rintro e w2 ⟨rfl,hb2⟩;have hB2:Below (w.heap.size+1) (w.alloc (.cells #[.int .i64 1,.int .i64 view,.int .i64 z,.int .i64 first,.int .i64 pitch,.int .i64 strips,.int .i64 spill,.int .i64 olo,.int .i64 ohi,.int .i64 clo,.int .i64 chi,.int .i64 jitter,.int .i64 least,.slice da dn dc,.slice ea en ec,.int .i64 i] 102)) w2:=hB1.trans (hb2.mono (by omega));obtain⟨hc2,hf2⟩:=J9 hB2;clear hc hf hb2))
  clear hc2 hf2
  go_loopw [36,4,5] (fun t _ _ wr=>∃k:Nat,k≤en∧t= .int .i64 k∧(∀j,j<k→S9 strips es j=true)∧Below (w.heap.size+1) (w.alloc (.cells #[.int .i64 1,.int .i64 view,.int .i64 z,.int .i64 first,.int .i64 pitch,.int .i64 strips,.int .i64 spill,.int .i64 olo,.int .i64 ohi,.int .i64 clo,.int .i64 chi,.int .i64 jitter,.int .i64 least,.slice da dn dc,.slice ea en ec,.int .i64 i] 102)) wr) (fun t _ _ _=>en-(intOf t).toNat)
  case atStart=>exact⟨0,Nat.zero_le _,rfl,fun j h=>by omega,hB2⟩
  case round=>
   clear hB2 hB1
   obtain⟨k,hk,rfl,hall,hb⟩:=hrel
   have HALL:=Hd hall
   clear hall
   obtain⟨hc,hf⟩:=J9 hb
   have hz2:w.heap.size<wr.heap.size:=by have:=hb.size;simp at this;omega
   have hB0:Below w.heap.size w wr:=((Q2 _ _).alloc (Q1 _) _).trans (hb.mono (by omega))
   by_cases hlt:k<en
   ·rcases HI.out with hd|⟨b,off,rfl,hbs,hcell⟩
    ·omega
    have c0:=hcell k hlt
    have hbz:b<wr.heap.size:=by omega
    have hbz0:b<w.heap.size:=by omega
    have hbz1:b<w.heap.size+1:=by omega
    by_cases hok:S9 strips es k=true
    ·have HOK:=Hd hok
     rw[E9] at hok
     obtain⟨⟨o1,o2⟩,o3⟩:=hok
     have o4:J1 (es k) 0 (strips-1)=true:=J6 o1 o2
     by_cases hk0:k=0
     ·have hk1:decide (0<k)=false:=by simp;omega
      have hk2:¬0<k:=by omega
      clear o3 hk0
      go_wp2_with(go_at_call 71;refine(K5 _ _ _ _).mono ?_;rintro e w' ⟨rfl,rfl⟩)
      go_roundw
      case rel=>exact⟨k+1,by omega,by go_num,fun j hj=>by(by_cases e:j=k;subst e;exact HOK.out;exact HALL.out j (by omega)),hb⟩
      case measure=>simp[intOf];omega
     ·have hk1:decide (0<k)=true:=by simp;omega
      have hk2:0<k:=by omega
      have o5:es (k-1)<es k:=by omega
      have c1:=hcell (k-1) (by omega)
      clear o3 hk0 hcell
      go_wp2_with(go_at_call 71;refine(K5 _ _ _ _).mono ?_;rintro e w' ⟨rfl,rfl⟩)
      go_roundw
      case rel=>exact⟨k+1,by omega,by go_num,fun j hj=>by(by_cases e:j=k;subst e;exact HOK.out;exact HALL.out j (by omega)),hb⟩
      case measure=>simp[intOf];omega
    ·have HF:=Hd (HX1.out k hlt hok).symm
     rw[E9] at hok
     by_cases o4:J1 (es k) 0 (strips-1)=true
     ·have hk1:decide (0<k)=true:=by simp;rw[J8] at o4;omega
      have hk2:0<k:=by simpa using hk1
      have o5:es k≤es (k-1):=by rw[J8] at o4;omega
      have c1:=hcell (k-1) (by omega)
      clear hok hcell
      go_wp2_with(go_at_call 71;refine(K5 _ _ _ _).mono ?_;rintro e w' ⟨rfl,rfl⟩)
      go_ret
      exact⟨J2 HF.out,hB0⟩
     ·have o5:J1 (es k) 0 (strips-1)=false:=by simpa using o4
      clear hok hcell o4
      go_wp2_with(go_at_call 71;refine(K5 _ _ _ _).mono ?_;rintro e w' ⟨rfl,rfl⟩)
      go_ret
      exact⟨J2 HF.out,hB0⟩
   ·go_wp2
    go_ret
    exact⟨J2 (HE1.out k (by omega) HALL.out).symm,hB0⟩
theorem zO2(p:PR)(i:Int)(w:World)(B:Nat)(hBw:B≤w.heap.size)(hm:p.mem B w)(hK:p.kind=2)(hS:N4 p=true):
  Calls Tryz.prog 70 #[p.placed i] w fun e w'=>e= .returned (.bool (K6 p))∧Below w.heap.size w w':=by
 have hk13:J1 p.kind 1 3=true:=J6 (by omega) (by omega)
 have hkB:U8 p=(E6 p.pitch p.dn p.ds):=by simp[U8,hK]
 obtain⟨hdn,hen,hD,hI⟩:=hm
 have HS:=E8.1 hS
 have hp:=HS.pitch
 have hst:=HS.strips
 clear HS
 by_cases hkv:U8 p=true
 case neg=>
  have HF:=Hd (qY9 hkv).symm
  have hkv':(E6 p.pitch p.dn p.ds)=false:=by rw[←hkB];simpa using hkv
  clear hkv
  obtain⟨kind,view,z,first,pitch,strips,spill,olo,ohi,clo,chi,jitter,least,da,dn,dc,ea,en,ec,ds,es⟩:=p
  dsimp only at*
  subst hK
  clear hkB hI hen
  have HD:=Hd hD
  clear hD
  go_enter Tryz.func70,Tryz.ntmps70
  go_upto_region 1 with(fail)
  go_cut [3] from 6 to 12 (fun s3 wx=>s3= .pointer (some ⟨w.heap.size+1,0,none⟩)∧wx.cell? ⟨w.heap.size+1,2,none⟩=some (.func (.func 104) #[PR.placed ⟨2,view,z,first,pitch,strips,spill,olo,ohi,clo,chi,jitter,least,da,dn,dc,ea,en,ec,ds,es⟩ i] #[])∧w.heap.size+2≤wx.heap.size∧Below (w.heap.size+1) (w.alloc (.cells #[.int .i64 2,.int .i64 view,.int .i64 z,.int .i64 first,.int .i64 pitch,.int .i64 strips,.int .i64 spill,.int .i64 olo,.int .i64 ohi,.int .i64 clo,.int .i64 chi,.int .i64 jitter,.int .i64 least,.slice da dn dc,.slice ea en ec,.int .i64 i] 102)) wx)
  case first=>
   go_wp2
   go_meet
   exact⟨rfl,by simp,by simp,(Q2 _ _).alloc (by simp) _⟩
  obtain⟨rfl,hk1,hk2,hBx⟩:=hcut
  obtain⟨hcx,hfx⟩:=J9 hBx
  go_wp2_with(first|(go_at_call 71;refine(K5 _ _ _ _).mono ?_;rintro e w' ⟨rfl,rfl⟩)|(go_at_call 106;refine(T4 ⟨2,view,z,first,pitch,strips,spill,olo,ohi,clo,chi,jitter,least,da,dn,dc,ea,en,ec,ds,es⟩ i _).mono ?_;rintro e w1 ⟨rfl,hb⟩;obtain⟨hc,hf⟩:=J9 hb;have hz:w.heap.size+2≤w1.heap.size:=(by have:=hb.size;omega);have hz1:w.heap.size<wc.heap.size:=(by omega);have hz2:w.heap.size+1<wc.heap.size:=(by omega);have hB1:Below (w.heap.size+1) (w.alloc (.cells #[.int .i64 2,.int .i64 view,.int .i64 z,.int .i64 first,.int .i64 pitch,.int .i64 strips,.int .i64 spill,.int .i64 olo,.int .i64 ohi,.int .i64 clo,.int .i64 chi,.int .i64 jitter,.int .i64 least,.slice da dn dc,.slice ea en ec,.int .i64 i] 102)) w1:=hBx.trans (hb.mono (by omega));clear hb hBx)|(go_at_call 104;refine(zT9 ⟨2,view,z,first,pitch,strips,spill,olo,ohi,clo,chi,jitter,least,da,dn,dc,ea,en,ec,ds,es⟩ i _ B (by omega) (HD.out.below (((Q2 B w).alloc hBw _).trans (hB1.mono (by omega)))) hdn hp.1 hp.2).mono ?_;rintro e w2 ⟨rfl,hb2⟩;have hB2:Below (w.heap.size+1) (w.alloc (.cells #[.int .i64 2,.int .i64 view,.int .i64 z,.int .i64 first,.int .i64 pitch,.int .i64 strips,.int .i64 spill,.int .i64 olo,.int .i64 ohi,.int .i64 clo,.int .i64 chi,.int .i64 jitter,.int .i64 least,.slice da dn dc,.slice ea en ec,.int .i64 i] 102)) w2:=hB1.trans (hb2.mono (by omega))))
  go_ret
  exact⟨J2 HF.out,((Q2 _ _).alloc (Q1 _) _).trans (hB2.mono (by omega))⟩
 case pos=>
  have hkv':(E6 p.pitch p.dn p.ds)=true:=by rw[←hkB];exact hkv
  have HE:= @qL3 p
  have HX:= @qD3 p
  have HE1:=Hd (fun(k:Nat) (hk:k=p.en) h=>HE (k:=k) hk13 hS hkv hk h)
  have HX1:=Hd (fun(k:Nat) (hk:k<p.en) h=>HX (k:=k) hk h)
  clear HE HX hkv
  obtain⟨kind,view,z,first,pitch,strips,spill,olo,ohi,clo,chi,jitter,least,da,dn,dc,ea,en,ec,ds,es⟩:=p
  dsimp only at*
  subst hK
  clear hkB
  have HD:=Hd hD
  have HI:=Hd hI
  clear hD hI
  unfold maxLen at hen hdn
  go_enter Tryz.func70,Tryz.ntmps70
  go_upto_region 1 with(fail)
  go_cut [3] from 6 to 12 (fun s3 wx=>s3= .pointer (some ⟨w.heap.size+1,0,none⟩)∧wx.cell? ⟨w.heap.size+1,2,none⟩=some (.func (.func 104) #[PR.placed ⟨2,view,z,first,pitch,strips,spill,olo,ohi,clo,chi,jitter,least,da,dn,dc,ea,en,ec,ds,es⟩ i] #[])∧w.heap.size+2≤wx.heap.size∧Below (w.heap.size+1) (w.alloc (.cells #[.int .i64 2,.int .i64 view,.int .i64 z,.int .i64 first,.int .i64 pitch,.int .i64 strips,.int .i64 spill,.int .i64 olo,.int .i64 ohi,.int .i64 clo,.int .i64 chi,.int .i64 jitter,.int .i64 least,.slice da dn dc,.slice ea en ec,.int .i64 i] 102)) wx)
  case first=>
   go_wp2
   go_meet
   exact⟨rfl,by simp,by simp,(Q2 _ _).alloc (by simp) _⟩
  obtain⟨rfl,hk1,hk2,hBx⟩:=hcut
  obtain⟨hcx,hfx⟩:=J9 hBx
  go_wp2_with(first|(go_at_call 71;refine(K5 _ _ _ _).mono ?_;rintro e w' ⟨rfl,rfl⟩)|(go_at_call 106;refine(T4 ⟨2,view,z,first,pitch,strips,spill,olo,ohi,clo,chi,jitter,least,da,dn,dc,ea,en,ec,ds,es⟩ i _).mono ?_;rintro e w1 ⟨rfl,hb⟩;obtain⟨hc,hf⟩:=J9 hb;have hz:w.heap.size+2≤w1.heap.size:=(by have:=hb.size;omega);have hz1:w.heap.size<wc.heap.size:=(by omega);have hz2:w.heap.size+1<wc.heap.size:=(by omega);have hB1:Below (w.heap.size+1) (w.alloc (.cells #[.int .i64 2,.int .i64 view,.int .i64 z,.int .i64 first,.int .i64 pitch,.int .i64 strips,.int .i64 spill,.int .i64 olo,.int .i64 ohi,.int .i64 clo,.int .i64 chi,.int .i64 jitter,.int .i64 least,.slice da dn dc,.slice ea en ec,.int .i64 i] 102)) w1:=hBx.trans (hb.mono (by omega));clear hb hBx)|(go_at_call 104;refine(zT9 ⟨2,view,z,first,pitch,strips,spill,olo,ohi,clo,chi,jitter,least,da,dn,dc,ea,en,ec,ds,es⟩ i _ B (by omega) (HD.out.below (((Q2 B w).alloc hBw _).trans (hB1.mono (by omega)))) hdn hp.1 hp.2).mono ?_;rintro e w2 ⟨rfl,hb2⟩;have hB2:Below (w.heap.size+1) (w.alloc (.cells #[.int .i64 2,.int .i64 view,.int .i64 z,.int .i64 first,.int .i64 pitch,.int .i64 strips,.int .i64 spill,.int .i64 olo,.int .i64 ohi,.int .i64 clo,.int .i64 chi,.int .i64 jitter,.int .i64 least,.slice da dn dc,.slice ea en ec,.int .i64 i] 102)) w2:=hB1.trans (hb2.mono (by omega));obtain⟨hc2,hf2⟩:=J9 hB2;clear hc hf hb2))
  clear hc2 hf2
  go_loopw [36,4,5] (fun t _ _ wr=>∃k:Nat,k≤en∧t= .int .i64 k∧(∀j,j<k→S9 strips es j=true)∧Below (w.heap.size+1) (w.alloc (.cells #[.int .i64 2,.int .i64 view,.int .i64 z,.int .i64 first,.int .i64 pitch,.int .i64 strips,.int .i64 spill,.int .i64 olo,.int .i64 ohi,.int .i64 clo,.int .i64 chi,.int .i64 jitter,.int .i64 least,.slice da dn dc,.slice ea en ec,.int .i64 i] 102)) wr) (fun t _ _ _=>en-(intOf t).toNat)
  case atStart=>exact⟨0,Nat.zero_le _,rfl,fun j h=>by omega,hB2⟩
  case round=>
   clear hB2 hB1
   obtain⟨k,hk,rfl,hall,hb⟩:=hrel
   have HALL:=Hd hall
   clear hall
   obtain⟨hc,hf⟩:=J9 hb
   have hz2:w.heap.size<wr.heap.size:=by have:=hb.size;simp at this;omega
   have hB0:Below w.heap.size w wr:=((Q2 _ _).alloc (Q1 _) _).trans (hb.mono (by omega))
   by_cases hlt:k<en
   ·rcases HI.out with hd|⟨b,off,rfl,hbs,hcell⟩
    ·omega
    have c0:=hcell k hlt
    have hbz:b<wr.heap.size:=by omega
    have hbz0:b<w.heap.size:=by omega
    have hbz1:b<w.heap.size+1:=by omega
    by_cases hok:S9 strips es k=true
    ·have HOK:=Hd hok
     rw[E9] at hok
     obtain⟨⟨o1,o2⟩,o3⟩:=hok
     have o4:J1 (es k) 0 (strips-1)=true:=J6 o1 o2
     by_cases hk0:k=0
     ·have hk1:decide (0<k)=false:=by simp;omega
      have hk2:¬0<k:=by omega
      clear o3 hk0
      go_wp2_with(go_at_call 71;refine(K5 _ _ _ _).mono ?_;rintro e w' ⟨rfl,rfl⟩)
      go_roundw
      case rel=>exact⟨k+1,by omega,by go_num,fun j hj=>by(by_cases e:j=k;subst e;exact HOK.out;exact HALL.out j (by omega)),hb⟩
      case measure=>simp[intOf];omega
     ·have hk1:decide (0<k)=true:=by simp;omega
      have hk2:0<k:=by omega
      have o5:es (k-1)<es k:=by omega
      have c1:=hcell (k-1) (by omega)
      clear o3 hk0 hcell
      go_wp2_with(go_at_call 71;refine(K5 _ _ _ _).mono ?_;rintro e w' ⟨rfl,rfl⟩)
      go_roundw
      case rel=>exact⟨k+1,by omega,by go_num,fun j hj=>by(by_cases e:j=k;subst e;exact HOK.out;exact HALL.out j (by omega)),hb⟩
      case measure=>simp[intOf];omega
    ·have HF:=Hd (HX1.out k hlt hok).symm
     rw[E9] at hok
     by_cases o4:J1 (es k) 0 (strips-1)=true
     ·have hk1:decide (0<k)=true:=by simp;rw[J8] at o4;omega
      have hk2:0<k:=by simpa using hk1
      have o5:es k≤es (k-1):=by rw[J8] at o4;omega
      have c1:=hcell (k-1) (by omega)
      clear hok hcell
      go_wp2_with(go_at_call 71;refine(K5 _ _ _ _).mono ?_;rintro e w' ⟨rfl,rfl⟩)
      go_ret
      exact⟨J2 HF.out,hB0⟩
     ·have o5:J1 (es k) 0 (strips-1)=false:=by simpa using o4
      clear hok hcell o4
      go_wp2_with(go_at_call 71;refine(K5 _ _ _ _).mono ?_;rintro e w' ⟨rfl,rfl⟩)
      go_ret
      exact⟨J2 HF.out,hB0⟩
   ·go_wp2
    go_ret
    exact⟨J2 (HE1.out k (by omega) HALL.out).symm,hB0⟩
theorem xD3(p:PR)(i:Int)(w:World)(B:Nat)(hBw:B≤w.heap.size)(hm:p.mem B w)(hK:p.kind=3)(hS:N4 p=true):
  Calls Tryz.prog 70 #[p.placed i] w fun e w'=>e= .returned (.bool (K6 p))∧Below w.heap.size w w':=by
 have hk13:J1 p.kind 1 3=true:=J6 (by omega) (by omega)
 have hkB:U8 p=((p.dn:Int)==0):=by simp[U8,hK]
 obtain⟨hdn,hen,hD,hI⟩:=hm
 have HS:=E8.1 hS
 have hp:=HS.pitch
 have hst:=HS.strips
 clear HS
 by_cases hkv:U8 p=true
 case neg=>
  have HF:=Hd (qY9 hkv).symm
  have hkv':((p.dn:Int)==0)=false:=by rw[←hkB];simpa using hkv
  clear hkv
  obtain⟨kind,view,z,first,pitch,strips,spill,olo,ohi,clo,chi,jitter,least,da,dn,dc,ea,en,ec,ds,es⟩:=p
  dsimp only at*
  subst hK
  clear hkB hI hen
  have HD:=Hd hD
  clear hD
  go_enter Tryz.func70,Tryz.ntmps70
  go_upto_region 1 with(fail)
  go_cut [3] from 6 to 12 (fun s3 wx=>s3= .pointer (some ⟨w.heap.size+1,0,none⟩)∧wx.cell? ⟨w.heap.size+1,3,none⟩=some (.func (.func 105) #[PR.placed ⟨3,view,z,first,pitch,strips,spill,olo,ohi,clo,chi,jitter,least,da,dn,dc,ea,en,ec,ds,es⟩ i] #[])∧w.heap.size+2≤wx.heap.size∧Below (w.heap.size+1) (w.alloc (.cells #[.int .i64 3,.int .i64 view,.int .i64 z,.int .i64 first,.int .i64 pitch,.int .i64 strips,.int .i64 spill,.int .i64 olo,.int .i64 ohi,.int .i64 clo,.int .i64 chi,.int .i64 jitter,.int .i64 least,.slice da dn dc,.slice ea en ec,.int .i64 i] 102)) wx)
  case first=>
   go_wp2
   go_meet
   exact⟨rfl,by simp,by simp,(Q2 _ _).alloc (by simp) _⟩
  obtain⟨rfl,hk1,hk2,hBx⟩:=hcut
  obtain⟨hcx,hfx⟩:=J9 hBx
  go_wp2_with(first|(go_at_call 71;refine(K5 _ _ _ _).mono ?_;rintro e w' ⟨rfl,rfl⟩)|(go_at_call 106;refine(T4 ⟨3,view,z,first,pitch,strips,spill,olo,ohi,clo,chi,jitter,least,da,dn,dc,ea,en,ec,ds,es⟩ i _).mono ?_;rintro e w1 ⟨rfl,hb⟩;obtain⟨hc,hf⟩:=J9 hb;have hz:w.heap.size+2≤w1.heap.size:=(by have:=hb.size;omega);have hz1:w.heap.size<wc.heap.size:=(by omega);have hz2:w.heap.size+1<wc.heap.size:=(by omega);have hB1:Below (w.heap.size+1) (w.alloc (.cells #[.int .i64 3,.int .i64 view,.int .i64 z,.int .i64 first,.int .i64 pitch,.int .i64 strips,.int .i64 spill,.int .i64 olo,.int .i64 ohi,.int .i64 clo,.int .i64 chi,.int .i64 jitter,.int .i64 least,.slice da dn dc,.slice ea en ec,.int .i64 i] 102)) w1:=hBx.trans (hb.mono (by omega));clear hb hBx)|(go_at_call 105;refine(xV0 ⟨3,view,z,first,pitch,strips,spill,olo,ohi,clo,chi,jitter,least,da,dn,dc,ea,en,ec,ds,es⟩ i _).mono ?_;rintro e w2 ⟨rfl,hb2⟩;have hB2:Below (w.heap.size+1) (w.alloc (.cells #[.int .i64 3,.int .i64 view,.int .i64 z,.int .i64 first,.int .i64 pitch,.int .i64 strips,.int .i64 spill,.int .i64 olo,.int .i64 ohi,.int .i64 clo,.int .i64 chi,.int .i64 jitter,.int .i64 least,.slice da dn dc,.slice ea en ec,.int .i64 i] 102)) w2:=hB1.trans (hb2.mono (by omega))))
  go_ret
  exact⟨J2 HF.out,((Q2 _ _).alloc (Q1 _) _).trans (hB2.mono (by omega))⟩
 case pos=>
  have hkv':((p.dn:Int)==0)=true:=by rw[←hkB];exact hkv
  have HE:= @qL3 p
  have HX:= @qD3 p
  have HE1:=Hd (fun(k:Nat) (hk:k=p.en) h=>HE (k:=k) hk13 hS hkv hk h)
  have HX1:=Hd (fun(k:Nat) (hk:k<p.en) h=>HX (k:=k) hk h)
  clear HE HX hkv
  obtain⟨kind,view,z,first,pitch,strips,spill,olo,ohi,clo,chi,jitter,least,da,dn,dc,ea,en,ec,ds,es⟩:=p
  dsimp only at*
  subst hK
  clear hkB
  have HD:=Hd hD
  have HI:=Hd hI
  clear hD hI
  unfold maxLen at hen hdn
  go_enter Tryz.func70,Tryz.ntmps70
  go_upto_region 1 with(fail)
  go_cut [3] from 6 to 12 (fun s3 wx=>s3= .pointer (some ⟨w.heap.size+1,0,none⟩)∧wx.cell? ⟨w.heap.size+1,3,none⟩=some (.func (.func 105) #[PR.placed ⟨3,view,z,first,pitch,strips,spill,olo,ohi,clo,chi,jitter,least,da,dn,dc,ea,en,ec,ds,es⟩ i] #[])∧w.heap.size+2≤wx.heap.size∧Below (w.heap.size+1) (w.alloc (.cells #[.int .i64 3,.int .i64 view,.int .i64 z,.int .i64 first,.int .i64 pitch,.int .i64 strips,.int .i64 spill,.int .i64 olo,.int .i64 ohi,.int .i64 clo,.int .i64 chi,.int .i64 jitter,.int .i64 least,.slice da dn dc,.slice ea en ec,.int .i64 i] 102)) wx)
  case first=>
   go_wp2
   go_meet
   exact⟨rfl,by simp,by simp,(Q2 _ _).alloc (by simp) _⟩
  obtain⟨rfl,hk1,hk2,hBx⟩:=hcut
  obtain⟨hcx,hfx⟩:=J9 hBx
  go_wp2_with(first|(go_at_call 71;refine(K5 _ _ _ _).mono ?_;rintro e w' ⟨rfl,rfl⟩)|(go_at_call 106;refine(T4 ⟨3,view,z,first,pitch,strips,spill,olo,ohi,clo,chi,jitter,least,da,dn,dc,ea,en,ec,ds,es⟩ i _).mono ?_;rintro e w1 ⟨rfl,hb⟩;obtain⟨hc,hf⟩:=J9 hb;have hz:w.heap.size+2≤w1.heap.size:=(by have:=hb.size;omega);have hz1:w.heap.size<wc.heap.size:=(by omega);have hz2:w.heap.size+1<wc.heap.size:=(by omega);have hB1:Below (w.heap.size+1) (w.alloc (.cells #[.int .i64 3,.int .i64 view,.int .i64 z,.int .i64 first,.int .i64 pitch,.int .i64 strips,.int .i64 spill,.int .i64 olo,.int .i64 ohi,.int .i64 clo,.int .i64 chi,.int .i64 jitter,.int .i64 least,.slice da dn dc,.slice ea en ec,.int .i64 i] 102)) w1:=hBx.trans (hb.mono (by omega));clear hb hBx)|(go_at_call 105;refine(xV0 ⟨3,view,z,first,pitch,strips,spill,olo,ohi,clo,chi,jitter,least,da,dn,dc,ea,en,ec,ds,es⟩ i _).mono ?_;rintro e w2 ⟨rfl,hb2⟩;have hB2:Below (w.heap.size+1) (w.alloc (.cells #[.int .i64 3,.int .i64 view,.int .i64 z,.int .i64 first,.int .i64 pitch,.int .i64 strips,.int .i64 spill,.int .i64 olo,.int .i64 ohi,.int .i64 clo,.int .i64 chi,.int .i64 jitter,.int .i64 least,.slice da dn dc,.slice ea en ec,.int .i64 i] 102)) w2:=hB1.trans (hb2.mono (by omega));obtain⟨hc2,hf2⟩:=J9 hB2;clear hc hf hb2))
  clear hc2 hf2
  go_loopw [36,4,5] (fun t _ _ wr=>∃k:Nat,k≤en∧t= .int .i64 k∧(∀j,j<k→S9 strips es j=true)∧Below (w.heap.size+1) (w.alloc (.cells #[.int .i64 3,.int .i64 view,.int .i64 z,.int .i64 first,.int .i64 pitch,.int .i64 strips,.int .i64 spill,.int .i64 olo,.int .i64 ohi,.int .i64 clo,.int .i64 chi,.int .i64 jitter,.int .i64 least,.slice da dn dc,.slice ea en ec,.int .i64 i] 102)) wr) (fun t _ _ _=>en-(intOf t).toNat)
  case atStart=>exact⟨0,Nat.zero_le _,rfl,fun j h=>by omega,hB2⟩
  case round=>
   clear hB2 hB1
   obtain⟨k,hk,rfl,hall,hb⟩:=hrel
   have HALL:=Hd hall
   clear hall
   obtain⟨hc,hf⟩:=J9 hb
   have hz2:w.heap.size<wr.heap.size:=by have:=hb.size;simp at this;omega
   have hB0:Below w.heap.size w wr:=((Q2 _ _).alloc (Q1 _) _).trans (hb.mono (by omega))
   by_cases hlt:k<en
   ·rcases HI.out with hd|⟨b,off,rfl,hbs,hcell⟩
    ·omega
    have c0:=hcell k hlt
    have hbz:b<wr.heap.size:=by omega
    have hbz0:b<w.heap.size:=by omega
    have hbz1:b<w.heap.size+1:=by omega
    by_cases hok:S9 strips es k=true
    ·have HOK:=Hd hok
     rw[E9] at hok
     obtain⟨⟨o1,o2⟩,o3⟩:=hok
     have o4:J1 (es k) 0 (strips-1)=true:=J6 o1 o2
     by_cases hk0:k=0
     ·have hk1:decide (0<k)=false:=by simp;omega
      have hk2:¬0<k:=by omega
      clear o3 hk0
      go_wp2_with(go_at_call 71;refine(K5 _ _ _ _).mono ?_;rintro e w' ⟨rfl,rfl⟩)
      go_roundw
      case rel=>exact⟨k+1,by omega,by go_num,fun j hj=>by(by_cases e:j=k;subst e;exact HOK.out;exact HALL.out j (by omega)),hb⟩
      case measure=>simp[intOf];omega
     ·have hk1:decide (0<k)=true:=by simp;omega
      have hk2:0<k:=by omega
      have o5:es (k-1)<es k:=by omega
      have c1:=hcell (k-1) (by omega)
      clear o3 hk0 hcell
      go_wp2_with(go_at_call 71;refine(K5 _ _ _ _).mono ?_;rintro e w' ⟨rfl,rfl⟩)
      go_roundw
      case rel=>exact⟨k+1,by omega,by go_num,fun j hj=>by(by_cases e:j=k;subst e;exact HOK.out;exact HALL.out j (by omega)),hb⟩
      case measure=>simp[intOf];omega
    ·have HF:=Hd (HX1.out k hlt hok).symm
     rw[E9] at hok
     by_cases o4:J1 (es k) 0 (strips-1)=true
     ·have hk1:decide (0<k)=true:=by simp;rw[J8] at o4;omega
      have hk2:0<k:=by simpa using hk1
      have o5:es k≤es (k-1):=by rw[J8] at o4;omega
      have c1:=hcell (k-1) (by omega)
      clear hok hcell
      go_wp2_with(go_at_call 71;refine(K5 _ _ _ _).mono ?_;rintro e w' ⟨rfl,rfl⟩)
      go_ret
      exact⟨J2 HF.out,hB0⟩
     ·have o5:J1 (es k) 0 (strips-1)=false:=by simpa using o4
      clear hok hcell o4
      go_wp2_with(go_at_call 71;refine(K5 _ _ _ _).mono ?_;rintro e w' ⟨rfl,rfl⟩)
      go_ret
      exact⟨J2 HF.out,hB0⟩
   ·go_wp2
    go_ret
    exact⟨J2 (HE1.out k (by omega) HALL.out).symm,hB0⟩
theorem P9(p:PR)(i:Int)(w:World)(B:Nat)(hBw:B≤w.heap.size)(hm:p.mem B w):
  Calls Tryz.prog 70 #[p.placed i] w fun e w'=>e= .returned (.bool (K6 p))∧Below w.heap.size w w':=by
 by_cases h:J1 p.kind 1 3=true∧N4 p=true
 ·obtain⟨h1,h2⟩:=h
  rw[J8] at h1
  by_cases e1:p.kind=1
  ·exact zM8 p i w B hBw hm e1 h2
  by_cases e2:p.kind=2
  ·exact zO2 p i w B hBw hm e2 h2
  exact xD3 p i w B hBw hm (by omega) h2
 ·exact xS8 p i w h
end
end Go.Proofs.YtmncaipgefbalaaGreatDoor
