/- Contracts: where a list is parted, how long a proof is, leaves and nodes, on both sides. -/
import Derived.Test.YtfgbofkdhfjegaaGreatId3
import Derived.Test.YtfgbofkdhfjegaaGreatCodec1
import Derived.Test.YtfgbofkdhfjegaaGreatSpUtf
set_option linter.all false
set_option maxRecDepth 100000
namespace Go.Proofs.YtfgbofkdhfjegaaGreat
open Go.AW
theorem c_mkSplit {σ:List zh} {n:Nat} (hn:n<=4611686018427387904) {K:KT} (hK:K (.d (.int .i64 (zn n:Nat))) σ):zp Tryz.prog zhF [.d (.int .i64 n)] σ K:=by
 refine zfc zwz fun hl => ?_
 have fin:∀ z,zn n=z->K (.d (.int .i64 (z:Nat))) σ:=fun z h=>h▸hK
 clear hK
 simp only [zpp,iN,bT,bF,eN]
 by_cases h:n<2
 ·have hd:decide ((n:Int)<2)=true:=by simp;omega
  refine gq2 hd ?_
  refine zI hl ?_
  exact fin 0 (if_pos h)
 ·have hd:decide ((n:Int)<2)=false:=by simp;omega
  refine gq2 hd ?_
  refine zo n (fun j vs s=>s = σ/\∃ k:Nat,vs = [.d (.int .i64 k)]/\1<=k/\k<n/\j<=k/\zn n=zjj n k n) ⟨rfl, 1,rfl,by omega,by omega,by omega,if_neg h⟩ ?_
  rintro j vs s hj ⟨rfl,k,rfl,hk1,hk2,hjk,hsp⟩
  have hw1:IntKind.i64.wrap ((n:Int)-(k:Int))=((n-k:Nat):Int):=by rw [zU (by omega) (by omega)];omega
  by_cases hlt:k<n-k
  ·have hd2:decide ((k:Int)<((n-k:Nat):Int))=true:=by simp;omega
   have hw2:IntKind.i64.wrap ((k:Int)*2)=((k*2:Nat):Int):=by rw [zU (by omega) (by omega)];omega
   refine gq2 (zg hw1 (zg hd2 hw2)) ?_
   refine zas.to (j+1) (by omega) (by omega) ⟨rfl,k*2,rfl,by omega,by omega,by omega,?_⟩
   rw [hsp,zpt n k n hk1 (by omega) hlt]
  ·have hd2:decide ((k:Int)<((n-k:Nat):Int))=false:=by simp;omega
   refine gq2 (zg hw1 hd2) ?_
   refine zI hl ?_
   exact fin k (by rw [hsp,zlK _ _ _ hlt])
theorem zrb {σ:List zh} {n:Nat} (hn:n<=4611686018427387904) {K:KT} (hK:K (.d (.int .i64 (zn n:Nat))) σ):zp Tryz.prog zhv [.d (.int .i64 n)] σ K:=by
 refine zfc e_r05_Split fun hl => ?_
 have fin:∀ z,zn n=z->K (.d (.int .i64 (z:Nat))) σ:=fun z h=>h▸hK
 clear hK
 simp only [zvY,iN,bT,bF,eN]
 by_cases h:n<2
 ·have hd:decide ((n:Int)<2)=true:=by simp;omega
  refine gq2 hd ?_
  refine zI hl ?_
  exact fin 0 (if_pos h)
 ·have hd:decide ((n:Int)<2)=false:=by simp;omega
  refine gq2 hd ?_
  refine zo n (fun j vs s=>s = σ/\∃ k:Nat,vs = [.d (.int .i64 k)]/\1<=k/\k<n/\j<=k/\zn n=zjj n k n) ⟨rfl, 1,rfl,by omega,by omega,by omega,if_neg h⟩ ?_
  rintro j vs s hj ⟨rfl,k,rfl,hk1,hk2,hjk,hsp⟩
  have hw1:IntKind.i64.wrap ((n:Int)-(k:Int))=((n-k:Nat):Int):=by rw [zU (by omega) (by omega)];omega
  by_cases hlt:k<n-k
  ·have hd2:decide ((k:Int)<((n-k:Nat):Int))=true:=by simp;omega
   have hw2:IntKind.i64.wrap ((k:Int)*2)=((k*2:Nat):Int):=by rw [zU (by omega) (by omega)];omega
   refine gq2 (zg hw1 (zg hd2 hw2)) ?_
   refine zas.to (j+1) (by omega) (by omega) ⟨rfl,k*2,rfl,by omega,by omega,by omega,?_⟩
   rw [hsp,zpt n k n hk1 (by omega) hlt]
  ·have hd2:decide ((k:Int)<((n-k:Nat):Int))=false:=by simp;omega
   refine gq2 (zg hw1 hd2) ?_
   refine zI hl ?_
   exact fin k (by rw [hsp,zlK _ _ _ hlt])
def zhy (i n:Int):Int:=if i<0∨i≥n then 0 else zen i.toNat n.toNat
theorem c_mkLength {σ:List zh} {i n:Int} (hn:n<=4611686018427387904) {K:KT} (hK:K (.d (.int .i64 (zhy i n))) σ):zp Tryz.prog zjw [.d (.int .i64 i),.d (.int .i64 n)] σ K:=by
 refine zeW zve fun hl => ?_
 have fin:∀ z,zhy i n=z->K (.d (.int .i64 z)) σ:=fun z h=>h▸hK
 clear hK
 simp only [zof,iN,bT,bF,eN]
 cases h1:decide (i<0)
 rotate_left
 ·refine gq2 h1 ?_
  refine zI hl ?_
  exact fin 0 (if_pos (.inl (by simpa using h1)))
 cases h2:decide (i≥n)
 rotate_left
 ·refine gq2 (zg h1 h2) ?_
  refine zI hl ?_
  exact fin 0 (if_pos (.inr (by simpa using h2)))
 simp only [decide_eq_false_iff_not] at h1 h2
 refine gq2 (zg (decide_eq_false h1) (decide_eq_false h2)) ?_
 have hli:zhy i n=zen i.toNat n.toNat:=if_neg (by omega)
 refine zo n.toNat (fun j vs s=>s = σ/\∃ (a b m:Nat),vs = [.d (.int .i64 a),.d (.int .i64 b),.d (.int .i64 m)]/\a<b/\b+j<=n.toNat/\zen i.toNat n.toNat=zen a b+m/\m=j)
  ⟨rfl,i.toNat,n.toNat, 0,by rw [show ((i.toNat:Nat):Int)=i by omega,show ((n.toNat:Nat):Int)=n by omega];rfl,by omega,by omega,by omega,rfl⟩ ?_
 rintro j vs s hj ⟨rfl,a,b,m,rfl,hab,hbj,hle,rfl⟩
 by_cases hlt:1<b
 ·have hd:decide ((b:Int) > 1)=true:=by simp;omega
  have hs:=zcB (n:=b) (by omega)
  rw [zkZ (i:=a) (n:=b) (by omega)] at hle
  refine gq2 hd ?_
  refine c_mkSplit (by omega) ?_
  by_cases hc:a<zn b
  ·have hd2:decide ((a:Int)<((zn b:Nat):Int))=true:=by simp;omega
   have hw3:IntKind.i64.wrap ((m:Int)+1)=((m+1:Nat):Int):=by rw [zU (by omega) (by omega)];rfl
   rw [if_pos hc] at hle
   refine gq2 (zg hd2 hw3) ?_
   exact zas.to (m+1) (by omega) (by omega) ⟨rfl,a,zn b,m+1,rfl,hc,by omega,by omega,rfl⟩
  ·have hd2:decide ((a:Int)<((zn b:Nat):Int))=false:=by simp;omega
   have hw3:IntKind.i64.wrap ((m:Int)+1)=((m+1:Nat):Int):=by rw [zU (by omega) (by omega)];rfl
   have hw1:IntKind.i64.wrap ((a:Int)-((zn b:Nat):Int))=((a-zn b:Nat):Int):=by rw [zU (by omega) (by omega)];omega
   have hw2:IntKind.i64.wrap ((b:Int)-((zn b:Nat):Int))=((b-zn b:Nat):Int):=by rw [zU (by omega) (by omega)];omega
   rw [if_neg hc] at hle
   refine gq2 (zg hd2 (zg hw1 (zg hw2 hw3))) ?_
   exact zas.to (m+1) (by omega) (by omega) ⟨rfl,a-zn b,b-zn b,m+1,rfl,by omega,by omega,by omega,rfl⟩
 ·have hd:decide ((b:Int) > 1)=false:=by simp;omega
  rw [zqE (i:=a) (n:=b) (by omega)] at hle
  refine gq2 hd ?_
  refine zI hl ?_
  exact fin m (by rw [hli];omega)
theorem c_r5Length {σ:List zh} {i n:Int} (hn:n<=4611686018427387904) {K:KT} (hK:K (.d (.int .i64 (zhy i n))) σ):zp Tryz.prog znw [.d (.int .i64 i),.d (.int .i64 n)] σ K:=by
 refine zeW e_r05_Length fun hl => ?_
 have fin:∀ z,zhy i n=z->K (.d (.int .i64 z)) σ:=fun z h=>h▸hK
 clear hK
 simp only [zth,iN,bT,bF,eN]
 cases h1:decide (i<0)
 rotate_left
 ·refine gq2 h1 ?_
  refine zI hl ?_
  exact fin 0 (if_pos (.inl (by simpa using h1)))
 cases h2:decide (i≥n)
 rotate_left
 ·refine gq2 (zg h1 h2) ?_
  refine zI hl ?_
  exact fin 0 (if_pos (.inr (by simpa using h2)))
 simp only [decide_eq_false_iff_not] at h1 h2
 refine gq2 (zg (decide_eq_false h1) (decide_eq_false h2)) ?_
 have hli:zhy i n=zen i.toNat n.toNat:=if_neg (by omega)
 refine zo n.toNat (fun j vs s=>s = σ/\∃ (a b m:Nat),vs = [.d (.int .i64 a),.d (.int .i64 b),.d (.int .i64 m)]/\a<b/\b+j<=n.toNat/\zen i.toNat n.toNat=zen a b+m/\m=j)
  ⟨rfl,i.toNat,n.toNat, 0,by rw [show ((i.toNat:Nat):Int)=i by omega,show ((n.toNat:Nat):Int)=n by omega];rfl,by omega,by omega,by omega,rfl⟩ ?_
 rintro j vs s hj ⟨rfl,a,b,m,rfl,hab,hbj,hle,rfl⟩
 by_cases hlt:1<b
 ·have hd:decide ((b:Int) > 1)=true:=by simp;omega
  have hs:=zcB (n:=b) (by omega)
  rw [zkZ (i:=a) (n:=b) (by omega)] at hle
  refine gq2 hd ?_
  refine zrb (by omega) ?_
  by_cases hc:a<zn b
  ·have hd2:decide ((a:Int)<((zn b:Nat):Int))=true:=by simp;omega
   have hw3:IntKind.i64.wrap ((m:Int)+1)=((m+1:Nat):Int):=by rw [zU (by omega) (by omega)];rfl
   rw [if_pos hc] at hle
   refine gq2 (zg hd2 hw3) ?_
   exact zas.to (m+1) (by omega) (by omega) ⟨rfl,a,zn b,m+1,rfl,hc,by omega,by omega,rfl⟩
  ·have hd2:decide ((a:Int)<((zn b:Nat):Int))=false:=by simp;omega
   have hw3:IntKind.i64.wrap ((m:Int)+1)=((m+1:Nat):Int):=by rw [zU (by omega) (by omega)];rfl
   have hw1:IntKind.i64.wrap ((a:Int)-((zn b:Nat):Int))=((a-zn b:Nat):Int):=by rw [zU (by omega) (by omega)];omega
   have hw2:IntKind.i64.wrap ((b:Int)-((zn b:Nat):Int))=((b-zn b:Nat):Int):=by rw [zU (by omega) (by omega)];omega
   rw [if_neg hc] at hle
   refine gq2 (zg hd2 (zg hw1 (zg hw2 hw3))) ?_
   exact zas.to (m+1) (by omega) (by omega) ⟨rfl,a-zn b,b-zn b,m+1,rfl,by omega,by omega,by omega,rfl⟩
 ·have hd:decide ((b:Int) > 1)=false:=by simp;omega
  rw [zqE (i:=a) (n:=b) (by omega)] at hle
  refine gq2 hd ?_
  refine zI hl ?_
  exact fin m (by rw [hli];omega)
theorem c_mkleaf {σ:List zh} {b:List UInt8} (hb:b.length<=1073741000) {K:KT} (hK:K (.d (.slice (bcs (zpH b)))) σ):zp Tryz.prog zlZ [.d (.slice (bcs b))] σ K:=by
 refine zfc zyK fun hl => ?_
 have hlen:=zav b
 have h1:=zgs (bs:=b)
 simp only [zrt,iN,bT,bF,eN]
 refine gq2 hlen ?_
 refine zI hl ?_
 exact hK
theorem c_r5leaf {σ:List zh} {b:List UInt8} (hb:b.length<=1073741000) {K:KT} (hK:K (.d (.slice (bcs (zpH b)))) σ):zp Tryz.prog zot [.d (.slice (bcs b))] σ K:=by
 refine zfc e_r05_leaf fun hl => ?_
 have hlen:=zav b
 have h1:=zgs (bs:=b)
 simp only [zxX,iN,bT,bF,eN]
 refine gq2 hlen ?_
 refine zI hl ?_
 exact hK
theorem maxn (x:Int):(if 0 > x then 0 else x)=((x.toNat:Nat):Int)/\(if x > 0 then x else 0)=((x.toNat:Nat):Int):=by
 constructor<;>split<;>omega
theorem gq15 {A P Q:Prop} (a:A) (h:Q) (e:A->Hd Q->P:=by intro a h;(repeat' first|simp -dsimp only [↓zeU, ↓zaA, ↓zbp, ↓zeV, ↓zeO, ↓zeM, ↓zeP, ↓zeN, ↓zbu, ↓zbq, ↓zbv, ↓zbr, ↓zeQ, ↓zbo, ↓zbw, ↓zbs, ↓zbx, ↓zbt, ↓zeL, ↓zeT, ↓zbn, ↓zby, ↓zeG, ↓zeF, ↓zeK,iN,bT,bF,eN, ↓zco, ↓unC, ↓zX, ↓zM, ↓zN, ↓zQ, ↓zZ, ↓zai, ↓zcv, ↓zaf, ↓zaS, ↓zV, ↓zl, ↓zm, ↓zbg, ↓ze, ↓zae, ↓zC, ↓zaM, ↓zaT, ↓zd, ↓zA, ↓zr, ↓zD, ↓zao, ↓zcY, ↓zdn, ↓zap, ↓zaw, ↓zaN, ↓zaZ, ↓zbk, ↓zw, ↓zaj, ↓zO, ↓zE, ↓zY,zdr,zbm,zbl,unA,zdo,bnd,zdL,zab,zS,zdI,dm,dm1,zG,zak,zdZ,zdY,zH,Q0,Q1,Q2,Q3,Q4,Q5,zW,zx,zy,zT,zL,Q6,Q7,Q8,Q9,Q10,Q11,Q12,Q13,Q14,Nat.reduceAdd,Q15,Int.reduceToNat,Q16,Q17,Q18,Q19,Q20,reduceIte,Q21,Q22,zF,rep,zaa,zeC,toD,zag,Q23,Q24,Q25,Q26,Q27,Q28,Nat.reduceLeDiff,Q29,Nat.reduceSub,Q30,Q31,Q32,sc,Q33,Q34,Q35,Q36,Q37,Q26,Q38,Q39,zis,zio,zil,zit,zcN,ziq,zim,zir,zin,zcM,zcO,ziu,ziv,Bool.not_true,Bool.not_false,List.length_map,m1,a]|with_reducible refine zix ?_|fail);exact h.go):P:=e a ⟨h⟩
theorem c_mknode {σ:List zh} {l r:Int} (hl1:l<=9223372036854775807) (hr1:r<=9223372036854775807) {K:KT} (hK:K (.d (.slice (bcs (zlQ l r)))) σ):zp Tryz.prog ziW [.d (.int .i64 l),.d (.int .i64 r)] σ K:=by
 refine zeW zyJ fun hl => ?_
 obtain ⟨m1,m2⟩:=maxn l
 obtain ⟨m3,m4⟩:=maxn r
 have hw1:IntKind.u64.wrap ((l.toNat:Nat):Int)=((l.toNat:Nat):Int):=zdm (by omega)
 have hw2:IntKind.u64.wrap ((r.toNat:Nat):Int)=((r.toNat:Nat):Int):=zdm (by omega)
 have n1:=zJ (n:=l.toNat) (by omega)
 simp only [zrs,iN,bT,bF,eN]
 refine gq15 (zg m2 hw1) ?_
 refine zmu (b := [1]) (by omega) (by simp) ?_
 refine gq2 (zg m3 (zg m4 hw2)) ?_
 refine zmu (b := 1::zdi l.toNat) (by omega) (by simp;omega) ?_
 refine gq1 ?_
 refine zI hl ?_
 exact hK
theorem zzg {σ:List zh} {l r:Int} (hl1:l<=9223372036854775807) (hr1:r<=9223372036854775807) {K:KT} (hK:K (.d (.slice (bcs (zlQ l r)))) σ):zp Tryz.prog zkX [.d (.int .i64 l),.d (.int .i64 r)] σ K:=by
 refine zeW e_r05_node fun hl => ?_
 obtain ⟨m1,m2⟩:=maxn l
 obtain ⟨m3,m4⟩:=maxn r
 have hw1:IntKind.u64.wrap ((l.toNat:Nat):Int)=((l.toNat:Nat):Int):=zdm (by omega)
 have hw2:IntKind.u64.wrap ((r.toNat:Nat):Int)=((r.toNat:Nat):Int):=zdm (by omega)
 have n1:=zJ (n:=l.toNat) (by omega)
 simp only [zxW,iN,bT,bF,eN]
 refine gq15 (zg m2 hw1) ?_
 refine zdy (b := [1]) (by omega) (by simp) ?_
 refine gq2 (zg m3 (zg m4 hw2)) ?_
 refine zdy (b := 1::zdi l.toNat) (by omega) (by simp;omega) ?_
 refine gq1 ?_
 refine zI hl ?_
 exact hK
end Go.Proofs.YtfgbofkdhfjegaaGreat
