/- How a number is put: seven bits a byte. No program in sight. -/
import Derived.IntWalk
import Derived.Test.YtdgcepphjnoalaaGreatAwLoop
import GoSem.Core.Utf8
import Derived.Test.YtdgcepphjnoalaaGreatAwDraw2
set_option linter.all false
namespace Go.AW
def zbx (n:Nat):List UInt8:=if n<128 then [UInt8.ofNat n]else UInt8.ofNat (n % 128+128)::zbx (n / 128)
termination_by n
decreasing_by omega
theorem zpv {n:Nat}(h:n<128):zbx n=[UInt8.ofNat n]:=by rw[zbx,if_pos h]
theorem zzP {n:Nat}(h:¬n<128):zbx n=UInt8.ofNat (n % 128+128)::zbx (n / 128):=by rw[zbx,if_neg h]
theorem numB_len:∀(k n:Nat),n<128 ^ (k+1)→1<=(zbx n).length/\(zbx n).length<=k+1
 | 0,n,h=>by rw[zpv (by simpa using h)];simp
 | k+1,n,h=>by
  by_cases hs:n<128
  ·rw[zpv hs];simp
  ·rw[zzP hs];have:=numB_len k (n / 128) (by rw[Nat.div_lt_iff_lt_mul (by omega)];rw[Nat.pow_succ]at h;exact h);simp;omega
theorem zj {n:Nat}(h:n<18446744073709551616):1<=(zbx n).length/\(zbx n).length<=10:=numB_len 9 n (by omega)
theorem or128:∀x:Fin 256,(BitVec.ofInt 8 (x.val:Int) ||| BitVec.ofInt 8 128).toNat=x.val % 128+128:=by decide +kernel
theorem wrap8 (n:Nat):IntKind.u8.wrap (n:Int)=((n % 256:Nat):Int):=by
 simp[IntKind.wrap,IntKind.signed,IntKind.bits]
theorem zuP {n:Nat}(h:n<256):IntKind.u8.wrap (n:Int)=(n:Int):=by rw[wrap8,Nat.mod_eq_of_lt h]
theorem zdR {n:Nat}(h:n<18446744073709551616):IntKind.u64.wrap (n:Int)=(n:Int):=by
 simp[IntKind.wrap,IntKind.signed,IntKind.bits];omega
theorem zaQ {n:Int}(h1:-9223372036854775808<=n)(h2:n<=9223372036854775807):IntKind.i64.wrap n=n:=IntWalk.i64_in n ⟨h1,h2⟩
theorem zpK {n:Nat}(h:n<256):((UInt8.ofNat n).toNat:Int)=(n:Int):=by
 simp;omega
structure TOp where
 kind:Int
 topic:List UInt8
 group:List UInt8
 offset:Int
 recs:List (List UInt8)
deriving DecidableEq
def zdQ (rs:List (List UInt8)):List (List D):=rs.map fun r=>[D.slice (bcs r)]
def opA (o:TOp):AV:=.agg [.d (.int .i64 o.kind),.d (.str o.topic),.d (.str o.group),.d (.int .i64 o.offset),.d (.slice (zdQ o.recs))]
def noOp:TOp:=⟨0,[],[],0,[]⟩
theorem zy (rs:List (List UInt8)):(zdQ rs).length=rs.length:=by simp[zdQ]
theorem zgx {rs:List (List UInt8)}{k:Nat}{r:List UInt8}(h:rs[k]? = some r):(zdQ rs)[k]? = some [D.slice (bcs r)]:=by simp[zdQ,h]
def zoo (o:TOp):TOp:=
 if o.kind=1 then{ noOp with kind:=o.kind,topic:=o.topic }
 else if o.kind=2 then{ noOp with kind:=o.kind,topic:=o.topic,recs:=o.recs }
 else if o.kind=3 then{ noOp with kind:=o.kind,topic:=o.topic,group:=o.group,offset:=o.offset }
 else if o.kind=4 then{ noOp with kind:=o.kind,topic:=o.topic,offset:=o.offset }
 else{ noOp with kind:=o.kind }
def ziF (o:TOp):Bool:=decide (0<=o.kind/\o.kind<=4)
def zaN (name:List UInt8->Bool) (o:TOp):Int:=
 if ziF o=false∨o≠zoo o then 60
 else if o.kind≠0/\name o.topic=false then 61
 else if o.kind=3/\name o.group=false then 61
 else if o.kind=2/\(o.recs.length<1∨o.recs.length>4∨o.recs.any (fun r=>decide (r.length>64))=true)then 62
 else if o.offset<0∨o.offset>9007199254740992 then 60
 else 0
def zkf (x:List UInt8):List UInt8:=zbx x.length++x
def zrN (rs:List (List UInt8)):List UInt8:=(rs.map zkf).flatten
def opB (o:TOp):List UInt8:=
 zbx o.kind.toNat++((if o.kind≠0 then zkf o.topic else []) ++
  (if o.kind=2 then zbx o.recs.length++zrN o.recs else if o.kind=3 then zkf o.group++zbx o.offset.toNat else if o.kind=4 then zbx o.offset.toNat else []))
theorem opB_0 {o:TOp}(h:o.kind=0):opB o=zbx o.kind.toNat:=by simp[opB,h]
theorem opB_1 {o:TOp}(h:o.kind=1):opB o=zbx o.kind.toNat++(zbx o.topic.length++o.topic):=by simp[opB,h,zkf]
theorem opB_2 {o:TOp}(h:o.kind=2):opB o=zbx o.kind.toNat++(zbx o.topic.length++(o.topic++(zbx o.recs.length++zrN o.recs))):=by simp[opB,h,zkf]
theorem opB_3 {o:TOp}(h:o.kind=3):opB o=zbx o.kind.toNat++(zbx o.topic.length++(o.topic++(zbx o.group.length++(o.group++zbx o.offset.toNat)))):=by simp[opB,h,zkf]
theorem opB_4 {o:TOp}(h:o.kind=4):opB o=zbx o.kind.toNat++(zbx o.topic.length++(o.topic++zbx o.offset.toNat)):=by simp[opB,h,zkf]
def zmT (o:TOp):Nat:=o.topic.length+o.group.length+(o.recs.map fun r=>r.length+10).sum
theorem zdl {x:List UInt8}(h:x.length<18446744073709551616):(zkf x).length<=x.length+10:=by
 have:=zj h;simp only[zkf,List.length_append];omega
theorem zlH (rs:List (List UInt8))(h:(rs.map fun r=>r.length+10).sum<=1073741824):∀k,(zrN (rs.take k)).length<=(rs.map fun r=>r.length+10).sum:=by
 have key:∀l:List (List UInt8),(l.map fun r=>r.length+10).sum<=1073741824->(zrN l).length<=(l.map fun r=>r.length+10).sum:=by
  intro l;induction l with
  | nil=>simp[zrN]
  | cons r l ih=>
   intro h
   simp only[List.map_cons,List.sum_cons]at h ⊢
   have h1:=ih (by omega)
   have h2:=zdl (x:=r) (by omega)
   simp only[zrN,List.map_cons,List.flatten_cons,List.length_append]at h1 ⊢
   omega
 have sum_take:∀(l:List (List UInt8)) k,((l.take k).map fun r=>r.length+10).sum<=(l.map fun r=>r.length+10).sum:=by
  intro l;induction l with
  | nil=>simp
  | cons r l ih=>
   intro k
   cases k with
   | zero=>simp
   | succ k=>simp only[List.take_succ_cons,List.map_cons,List.sum_cons];have:=ih k;omega
 intro k;have h1:=sum_take rs k;have:=key (rs.take k) (by omega);omega
theorem zyi {rs:List (List UInt8)}{k:Nat}{r:List UInt8}(h:rs[k]? = some r):zrN (rs.take (k+1))=zrN (rs.take k)++zkf r:=by
 rw[List.take_add_one,h];simp[zrN]
theorem zmW (rs:List (List UInt8)):rs.length<=(rs.map fun r=>r.length+10).sum:=by
 induction rs with
 | nil=>simp
 | cons r l ih=>simp only[List.map_cons,List.sum_cons,List.length_cons];omega
theorem rec_le {rs:List (List UInt8)}{r:List UInt8}(h:r∈rs):r.length<=(rs.map fun r=>r.length+10).sum:=by
 induction rs with
 | nil=>cases h
 | cons x l ih=>
  simp only[List.map_cons,List.sum_cons]
  rcases List.mem_cons.1 h with rfl|h
  ·omega
  ·have:=ih h;omega
theorem zva {name:List UInt8->Bool}{o:TOp}(h:zaN name o=0):0<=o.kind/\o.kind<=4/\0<=o.offset/\o.offset<=9007199254740992/\o=zoo o:=by
 unfold zaN ziF at h;grind
theorem zcv {α:Type}{a b:List α}(hl:a.length=b.length){k:Nat}(hk:k=a.length)(h:a.take k=b.take k):a=b:=by
 rw[hk,List.take_length,hl,List.take_length]at h;exact h
theorem zbs {α:Type}{a b:List α}{k:Nat}{x y:α}(ha:a[k]? = some x)(hb:b[k]? = some y)(h:a.take k=b.take k)(e:x=y):a.take (k+1)=b.take (k+1):=by
 rw[List.take_add_one,List.take_add_one,ha,hb,h,e]
def at8 (s:List UInt8) (i:Nat):Nat:=(s[i]?.getD 0).toNat
def znV (c:Nat):Nat:=if c<128 then 1 else if 194<=c/\c<224 then 2 else if 224<=c/\c<240 then 3 else if 240<=c/\c<245 then 4 else 0
def zin (s:List UInt8) (z:Nat):Nat->Nat
 | 0=>at8 s 0 % 2 ^ (7-z)
 | i+1=>zin s z i*64+at8 s (i+1) % 64
def ztC (s:List UInt8) (i:Nat):Bool:=decide (128<=at8 s i/\at8 s i<192)
def zhe (z:Nat):Nat:=if z=2 then 128 else if z=3 then 2048 else if z=4 then 65536 else 0
def zme (s:List UInt8):Nat × Nat:=
 let z:=znV (at8 s 0)
 if z=0∨z>s.length then(0,0)
 else if z=1 then(at8 s 0,1)
 else if (∀i,i<z→1<=i->ztC s i=true)then
  if zin s z (z-1)<zhe z∨zin s z (z-1)>1114111∨(55296<=zin s z (z-1)/\zin s z (z-1)<57344)then(0,0)else(zin s z (z-1),z)
 else(0,0)
theorem zwW (s:List UInt8)(i:Nat):at8 s i<256:=(s[i]?.getD 0).toNat_lt
theorem znw (s:List UInt8)(p i:Nat):at8 (s.drop p) i=at8 s (p+i):=by simp[at8,List.getElem?_drop]
theorem get_at8 (s:List UInt8)(i:Nat):((ByteArray.mk s.toArray).get! i).toNat=at8 s i:=by
 simp only[ByteArray.get!,at8];rw[getElem!_def];simp only[List.getElem?_toArray];cases s[i]? <;> rfl
theorem all2 (p:Nat->Bool):(∀i,i<2→1<=i->p i=true)↔p 1=true:=⟨fun h=>h 1 (by omega) (by omega),fun h i h1 h2=>by
 obtain rfl:i=1:=by omega
 exact h⟩
theorem all3 (p:Nat->Bool):(∀i,i<3→1<=i->p i=true)↔p 1=true/\p 2=true:=⟨fun h=>⟨h 1 (by omega) (by omega),h 2 (by omega) (by omega)⟩,fun h i h1 h2=>by
 have:i=1∨i=2:=by omega
 rcases this with rfl|rfl
 ·exact h.1
 ·exact h.2⟩
theorem all4 (p:Nat->Bool):(∀i,i<4→1<=i->p i=true)↔p 1=true/\p 2=true/\p 3=true:=⟨fun h=>⟨h 1 (by omega) (by omega),h 2 (by omega) (by omega),h 3 (by omega) (by omega)⟩,fun h i h1 h2=>by
 have:i=1∨i=2∨i=3:=by omega
 rcases this with rfl|rfl|rfl
 ·exact h.1
 ·exact h.2.1
 ·exact h.2.2⟩
def zrZ (s:List UInt8):Nat × Nat:=if (zme s).2=0 then(65533,1)else zme s
theorem decode_eq (s:List UInt8)(p:Nat)(hp:p<s.length):Utf8.decode ⟨s.toArray⟩ p=zrZ (s.drop p):=by
 have hsz:(ByteArray.mk s.toArray).size=s.length:=by simp[ByteArray.size]
 have hl:(s.drop p).length=s.length-p:=by simp
 unfold Utf8.decode;simp only[get_at8,hsz,Nat.add_zero];have h0:=zwW s p;have h1:=zwW s (p+1);have h2:=zwW s (p+2);have h3:=zwW s (p+3);simp only[zrZ,zme,znV,hl,znw,Nat.add_zero];generalize e0:at8 s p=b0 at *;generalize e1:at8 s (p+1)=b1 at *;generalize e2:at8 s (p+2)=b2 at *;generalize e3:at8 s (p+3)=b3 at *;have hc1:ztC (s.drop p) 1=decide (128<=b1/\b1<192):=by simp only[ztC,znw,e1]
 have hc2:ztC (s.drop p) 2=decide (128<=b2/\b2<192):=by simp only[ztC,znw,e2]
 have hc3:ztC (s.drop p) 3=decide (128<=b3/\b3<192):=by simp only[ztC,znw,e3]
 have p2:zin (s.drop p) 2 1=b0 % 32*64+b1 % 64:=by simp only[zin,znw,Nat.add_zero,e0,e1]
 have p3:zin (s.drop p) 3 2=b0 % 16*4096+b1 % 64*64+b2 % 64:=by simp only[zin,znw,Nat.add_zero,e0,e1,e2];omega
 have p4:zin (s.drop p) 4 3=b0 % 8*262144+b1 % 64*4096+b2 % 64*64+b3 % 64:=by simp only[zin,znw,Nat.add_zero,e0,e1,e2,e3];omega
 have c1:(b1 / 64==2)=decide (128<=b1/\b1<192):=by rw[Bool.eq_iff_iff];simp;omega
 have c2:(b2 / 64==2)=decide (128<=b2/\b2<192):=by rw[Bool.eq_iff_iff];simp;omega
 have c3:(b3 / 64==2)=decide (128<=b3/\b3<192):=by rw[Bool.eq_iff_iff];simp;omega
 simp only[c1,c2,c3];by_cases a1:b0<128
 ·have:¬(1>s.length-p):=by omega
  simp[a1,this]
 by_cases a2:194<=b0/\b0<224
 ·have q1:(b0 / 32==6)=true:=by simp;omega
  have q2:(b0 / 16==14)=false:=by simp;omega
  have q3:(b0 / 8==30)=false:=by simp;omega
  simp only[a1,a2,q1,q2,q3,if_false,if_true,all2,hc1,p2,zhe];by_cases l1:p+1<s.length
  ·have:¬(2>s.length-p):=by omega
   by_cases k1:128<=b1/\b1<192
   ·have g1:128<=b0 % 32*64+b1 % 64:=by omega
    have g2:¬(b0 % 32*64+b1 % 64<128∨b0 % 32*64+b1 % 64>1114111∨55296<=b0 % 32*64+b1 % 64/\b0 % 32*64+b1 % 64<57344):=by omega
    simp[l1,this,k1,g1,g2,all2,hc1,p2,zhe,Utf8.runeError]
   ·simp[l1,this,k1,all2,hc1,p2,zhe,Utf8.runeError]
  ·have:2>s.length-p:=by omega
   simp[l1,this,all2,hc1,p2,zhe,Utf8.runeError]
 by_cases a3:224<=b0/\b0<240
 ·have q1:(b0 / 32==6)=false:=by simp;omega
  have q2:(b0 / 16==14)=true:=by simp;omega
  have q3:(b0 / 8==30)=false:=by simp;omega
  simp only[a1,a2,a3,q1,q2,q3,if_false,if_true,all3,hc1,hc2,p3,zhe];by_cases l1:p+2<s.length
  ·have:¬(3>s.length-p):=by omega
   have l2:p+1<s.length:=by omega
   by_cases k1:128<=b1/\b1<192
   ·by_cases k2:128<=b2/\b2<192
    ·obtain⟨v,hv⟩:∃v,v=b0 % 16*4096+b1 % 64*64+b2 % 64:=⟨_,rfl⟩;simp only[← hv];rw[← hv]at p3;have hv':v<65536:=by omega
     by_cases g:v<2048∨55296<=v/\v<57344
     ·have g1:(decide (v≥2048)&&Utf8.valid (v:Int))=false:=by simp[Utf8.valid];omega
      have g2:v<2048∨v>1114111∨55296<=v/\v<57344:=by omega
      simp[l1,l2,this,k1,k2,g2,g1,all3,hc1,hc2,p3,zhe,Utf8.runeError]
     ·have g1:(decide (v≥2048)&&Utf8.valid (v:Int))=true:=by simp[Utf8.valid];omega
      have g2:¬(v<2048∨v>1114111∨55296<=v/\v<57344):=by omega
      rw[g1];simp[l1,l2,this,k1,k2,g2,all3,hc1,hc2,p3,zhe,Utf8.runeError]
    ·simp[l1,l2,this,k1,k2,all3,hc1,hc2,p3,zhe,Utf8.runeError]
   ·simp[l1,l2,this,k1,all3,hc1,hc2,p3,zhe,Utf8.runeError]
  ·have:3>s.length-p:=by omega
   simp[l1,this,all3,hc1,hc2,p3,zhe,Utf8.runeError]
 by_cases a4:240<=b0/\b0<245
 ·have q1:(b0 / 32==6)=false:=by simp;omega
  have q2:(b0 / 16==14)=false:=by simp;omega
  have q3:(b0 / 8==30)=true:=by simp;omega
  simp only[a1,a2,a3,a4,q1,q2,q3,if_false,if_true,all4,hc1,hc2,hc3,p4,zhe];by_cases l1:p+3<s.length
  ·have:¬(4>s.length-p):=by omega
   have l2:p+1<s.length:=by omega
   have l3:p+2<s.length:=by omega
   by_cases k1:128<=b1/\b1<192
   ·by_cases k2:128<=b2/\b2<192
    ·by_cases k3:128<=b3/\b3<192
     ·obtain⟨v,hv⟩:∃v,v=b0 % 8*262144+b1 % 64*4096+b2 % 64*64+b3 % 64:=⟨_,rfl⟩;simp only[← hv];rw[← hv]at p4;by_cases g:v<65536∨v>1114111
      ·have g1:(decide (v≥65536)&&Utf8.valid (v:Int))=false:=by simp[Utf8.valid];omega
       have g2:v<65536∨v>1114111∨55296<=v/\v<57344:=by omega
       rw[g1];simp[l1,l2,l3,this,k1,k2,k3,g2,all4,hc1,hc2,hc3,p4,zhe,Utf8.runeError]
      ·have g1:(decide (v≥65536)&&Utf8.valid (v:Int))=true:=by simp[Utf8.valid];omega
       have g2:¬(v<65536∨v>1114111∨55296<=v/\v<57344):=by omega
       rw[g1];simp[l1,l2,l3,this,k1,k2,k3,g2,all4,hc1,hc2,hc3,p4,zhe,Utf8.runeError]
     ·simp[l1,l2,l3,this,k1,k2,k3,all4,hc1,hc2,hc3,p4,zhe,Utf8.runeError]
    ·simp[l1,l2,l3,this,k1,k2,all4,hc1,hc2,hc3,p4,zhe,Utf8.runeError]
   ·simp[l1,l2,l3,this,k1,all4,hc1,hc2,hc3,p4,zhe,Utf8.runeError]
  ·have:4>s.length-p:=by omega
   simp[l1,this,all4,hc1,hc2,hc3,p4,zhe,Utf8.runeError]
 ·have q2:(b0 / 16==14)=false:=by simp;omega
  simp only[a1,a2,a3,a4,q2,if_false,if_true];by_cases q:b0 / 32=6
  ·have h192:b0=192∨b0=193:=by omega
   have q3:(b0 / 8==30)=false:=by simp;omega
   have g:¬(b0 % 32*64+b1 % 64≥128):=by omega
   simp[q,q3,g,Utf8.runeError]
  ·by_cases q':b0 / 8=30
   ·have g:¬((b0 % 8*262144+b1 % 64*4096+b2 % 64*64+b3 % 64)<=1114111):=by omega
    obtain⟨v,hv⟩:∃v,v=b0 % 8*262144+b1 % 64*4096+b2 % 64*64+b3 % 64:=⟨_,rfl⟩;rw[← hv]at g;simp only[← hv];have g1:Utf8.valid (v:Int)=false:=by simp[Utf8.valid];omega
    simp[q,q',g1,Utf8.runeError]
   ·simp[q,q',Utf8.runeError]
theorem zmD (s:List UInt8):(zme s).2<=s.length/\(zme s).2<=4/\(zme s).1<=1114111:=by
 have h0:=zwW s 0;have hz:znV (at8 s 0)<=4:=by unfold znV;split<;>(try split)<;>(try split)<;>(try split)<;>omega
 simp only[zme];split
 ·simp
 ·rename_i h;split
  ·rename_i h1;simp only[];omega
  ·split
   ·split
    ·simp
    ·simp only[];omega
   ·simp
theorem goDec_width (s:List UInt8)(h:s≠[]):1<=(zrZ s).2/\(zrZ s).2<=s.length/\(zrZ s).1<=1114111:=by
 have h1:=zmD s;have h2:0<s.length:=List.length_pos_iff.2 h;unfold zrZ;split
 ·simp;omega
 ·omega
def badF (v:Nat):Bool:=decide (v<33∨(127<=v/\v<=159)∨v=47∨v=65533)
def zfh:Nat->List UInt8->Option Nat
 | 0,_=>none
 | f+1,s=>if s=[]then some 0 else if (zme s).2=0∨badF (zme s).1=true then none else(zfh f (s.drop (zme s).2)).map (· + 1)
def ziN (s:List UInt8):Nat:=match zfh (s.length+1) s with
 | some n=>if n>16 then 0 else n
 | none=>0
def zef (s:List UInt8):Bool:=decide (0<ziN s)
theorem goDec_bad (s:List UInt8):badF (zrZ s).1=(decide ((zme s).2=0) || badF (zme s).1):=by
 unfold zrZ;split
 ·rename_i h;simp[h,badF]
 ·rename_i h;simp[h]
theorem goDec_good {s:List UInt8}(h:badF (zrZ s).1=false):zrZ s=zme s/\(zme s).2≠0/\badF (zme s).1=false:=by
 rw[goDec_bad]at h;simp at h;exact⟨by simp[zrZ,h.1],h.1,h.2⟩
theorem zrq:∀(f g:Nat) (s:List UInt8),s.length<f->s.length<g->zfh f s=zfh g s
 | 0,_,_,h,_=>by omega
 | _,0,_,_,h=>by omega
 | f+1,g+1,s,h1,h2=>by
  simp only[zfh];split
  ·rfl
  ·rename_i hs;split
   ·rfl
   ·rename_i hd;have hw:=zmD s;have:0<s.length:=List.length_pos_iff.2 hs;rw[zrq f g _ (by simp;omega) (by simp;omega)]
theorem list_as {α β:Type}{f:α→β}:∀ {l:List β},(∀e∈l,∃a,e=f a)->∃as_:List α,l=as_.map f
 | [],_=>⟨[],rfl⟩
 | e::l,h=>by
  obtain⟨a,rfl⟩:=h e List.mem_cons_self;obtain⟨as_,rfl⟩:=list_as (l:=l) (fun x hx=>h x (List.mem_cons_of_mem _ hx));exact⟨a::as_,rfl⟩
theorem fits1 {t:Ty}{d:D}(h:zdc [t] [d]):zlU t d:=h.2 0 t d rfl rfl
theorem one_of {t:Ty}{ds:List D}(h:zdc [t] ds):∃d,ds=[d]/\zlU t d:=by
 match ds,h with
 | [d],h=>exact⟨d,rfl,fits1 h⟩
theorem zt {t:Ty}{ts:List Ty}{ds:List D}(h:zdc (t::ts) ds):∃d ds',ds=d::ds'∧zlU t d/\zdc ts ds':=by
 match ds,h with
 | d::ds',h=>exact⟨d,ds',rfl,h.2 0 t d rfl rfl,by have:=h.1;simpa using this,fun i t d h1 h2=>h.2 (i+1) t d h1 h2⟩
theorem zeG {ds:List D}(h:zdc [] ds):ds=[]:=by
 have:=h.1;simpa using this
theorem dec_int {k:IntKind}{d:D}(h:zlU (.int k) d):∃n,d=.int k n/\(Lit.int k n).wf=true:=by cases h with|int _ n h=>exact⟨n,rfl,h⟩
theorem zaB {d:D}(h:zlU (.int .i64) d):∃n,d=.int .i64 n∧-9223372036854775808<=n/\n<=9223372036854775807:=by
 obtain⟨n,hd,h2⟩:=dec_int h;exact⟨n,hd,by simpa [Lit.wf,IntKind.min,IntKind.max,IntKind.signed,IntKind.bits] using h2⟩
theorem dec_u8 {d:D}(h:zlU (.int .u8) d):∃b:UInt8,d=.int .u8 b.toNat:=by
 obtain⟨n,hd,h2⟩:=dec_int h;have h':0<=n/\n<=255:=by simpa [Lit.wf,IntKind.min,IntKind.max,IntKind.signed,IntKind.bits] using h2
 exact⟨UInt8.ofNat n.toNat,by rw[hd,zpK (by omega)];congr 1;omega⟩
theorem ztA {d:D}(h:zlU .str d):∃s,d=.str s:=by cases h with|str s _=>exact⟨s,rfl⟩
theorem zfP {α:Type}{ts:List Ty}{d:D}{f:α->List D}(h:zlU (.slice ts) d)(hf:∀e,zdc ts e->∃a,e=f a):∃as_:List α,d=.slice (as_.map f):=by
 cases h with
 | slice _ es h1 h2 h3=>
  obtain⟨as_,rfl⟩:=list_as (f:=f) (fun e he=>hf e ⟨h2 e he,h3 e he⟩)
  exact⟨as_,rfl⟩
theorem zwD {d:D}(h:zlU (.slice [.int .u8]) d):∃bs,d=.slice (bcs bs):=zfP h fun e he=>by
 obtain⟨d,rfl,h⟩:=one_of he;obtain⟨b,rfl⟩:=dec_u8 h;exact⟨b,rfl⟩
theorem dec_recs {d:D}(h:zlU (.slice [.slice [.int .u8]]) d):∃rs,d=.slice (zdQ rs):=zfP h fun e he=>by
 obtain⟨d,rfl,h⟩:=one_of he;obtain⟨b,rfl⟩:=zwD h;exact⟨b,rfl⟩
theorem zvd (bs:List UInt8):zds (bcs bs)=bs.length:=by
 induction bs with
 | nil=>rfl
 | cons b bs ih=>simp only[bcs,List.map_cons,zch,zds,zcR,zfT,List.length_cons]at ih ⊢;omega
theorem bulk_recs (rs:List (List UInt8)):zds (zdQ rs)=(rs.map fun r=>r.length+1).sum:=by
 induction rs with
 | nil=>rfl
 | cons r rs ih=>simp only[zdQ,List.map_cons,zds,zcR,zfT,List.sum_cons,zvd]at ih ⊢;omega
def tyOp:List Ty:=[.int .i64,.str,.str,.int .i64,.slice [.slice [.int .u8]]]
def zqm (n:Int):Prop:=-9223372036854775808<=n/\n<=9223372036854775807
def opR (o:TOp):Prop:=zqm o.kind/\zqm o.offset
def opD (o:TOp):List D:=[.int .i64 o.kind,.str o.topic,.str o.group,.int .i64 o.offset,.slice (zdQ o.recs)]
theorem dec_op {ds:List D}(h:zdc tyOp ds):∃o:TOp,ds=opD o/\opR o:=by
 obtain⟨d1,ds1,rfl,h1,g1⟩:=zt h;obtain⟨k,rfl,k1,k2⟩:=zaB h1;obtain⟨d2,ds2,rfl,h2,g2⟩:=zt g1;obtain⟨t,rfl⟩:=ztA h2;obtain⟨d3,ds3,rfl,h3,g3⟩:=zt g2;obtain⟨g,rfl⟩:=ztA h3;obtain⟨d4,ds4,rfl,h4,g4⟩:=zt g3;obtain⟨f,rfl,f1,f2⟩:=zaB h4;obtain⟨d5,ds5,rfl,h5,g5⟩:=zt g4;obtain⟨r,rfl⟩:=dec_recs h5;rw[zeG g5];exact⟨⟨k,t,g,f,r⟩,rfl,⟨k1,k2⟩,f1,f2⟩
theorem opSz_bulk (o:TOp):zmT o<=10*zcR (opD o):=by
 have:(o.recs.map fun r=>r.length+10).sum<=10*(o.recs.map fun r=>r.length+1).sum:=by
  induction o.recs with
  | nil=>simp
  | cons r rs ih=>simp only[List.map_cons,List.sum_cons];omega
 simp only[zmT,opD,zcR,zfT,bulk_recs];omega
structure zI where
 key:Int
 dig:Int
deriving DecidableEq
structure zp where
 client:Int
 time:Int
 op:TOp
 key:Int
 dig:Int
deriving DecidableEq
structure zjU where
 view:Int
 seq:Int
 dig:Int
 fkey:Int
 fdig:Int
 signs:List zI
 batch:List zp
deriving DecidableEq
structure zjs where
 seq:Int
 dig:Int
 signs:List zI
deriving DecidableEq
structure zbl where
 view:Int
 src:Int
 cert:zjs
 above:List zjU
 key:Int
 dig:Int
deriving DecidableEq
structure zhO where
 view:Int
 seq:Int
 batch:List zp
 key:Int
 dig:Int
deriving DecidableEq
def zgo (s:zI):List D:=[.int .i64 s.key,.int .i64 s.dig]
abbrev zat (l:List zI):List (List D):=l.map zgo
def zaw (x:zp):List D:=[.int .i64 x.client,.int .i64 x.time,.int .i64 x.op.kind,.str x.op.topic,.str x.op.group,.int .i64 x.op.offset,.slice (zdQ x.op.recs),.int .i64 x.key,.int .i64 x.dig]
abbrev zbA (b:List zp):List (List D):=b.map zaw
def zfx (p:zjU):List D:=[.int .i64 p.view,.int .i64 p.seq,.int .i64 p.dig,.int .i64 p.fkey,.int .i64 p.fdig,.slice (zat p.signs),.slice (zbA p.batch)]
abbrev zft (l:List zjU):List (List D):=l.map zfx
def certD (c:zjs):List D:=[.int .i64 c.seq,.int .i64 c.dig,.slice (zat c.signs)]
def zag (c:zbl):List D:=[.int .i64 c.view,.int .i64 c.src,.int .i64 c.cert.seq,.int .i64 c.cert.dig,.slice (zat c.cert.signs),.slice (zft c.above),.int .i64 c.key,.int .i64 c.dig]
abbrev zam (l:List zbl):List (List D):=l.map zag
def zdg (x:zhO):List D:=[.int .i64 x.view,.int .i64 x.seq,.slice (zbA x.batch),.int .i64 x.key,.int .i64 x.dig]
abbrev zbq (l:List zhO):List (List D):=l.map zdg
theorem zjk {α:Type}{f:α->List D}{n:Nat}(hf:∀a,(f a).length=n)(l:List α):∀e∈l.map f,e.length=n:=by
 intro e he;obtain⟨a,_,rfl⟩:=List.mem_map.1 he;exact hf a
theorem batch_nine (l:List zp):∀e∈zbA l,e.length=9:=zjk (f:=zaw) (fun _=>rfl) l
theorem preps_seven (l:List zjU):∀e∈zft l,e.length=7:=zjk (f:=zfx) (fun _=>rfl) l
theorem changes_eight (l:List zbl):∀e∈zam l,e.length=8:=zjk (f:=zag) (fun _=>rfl) l
theorem entries_five (l:List zhO):∀e∈zbq l,e.length=5:=zjk (f:=zdg) (fun _=>rfl) l
theorem zQ {α:Type}{f:α->List D}{l:List α}{k:Nat}{x:α}(h:l[k]? = some x):(l.map f)[k]? = some (f x):=by simp[h]
theorem map_snoc {α:Type}{f:α->List D}{l:List α}{k:Nat}{x:α}(h:l[k]? = some x):(l.take k).map f++[f x]=(l.take (k+1)).map f:=by
 rw[List.take_add_one,h];simp
def zvm:List Ty:=[.int .i64,.int .i64]
def zuR:List Ty:=[.int .i64,.int .i64,.int .i64,.str,.str,.int .i64,.slice [.slice [.int .u8]],.int .i64,.int .i64]
def tyPrep:List Ty:=[.int .i64,.int .i64,.int .i64,.int .i64,.int .i64,.slice zvm,.slice zuR]
def tyChange:List Ty:=[.int .i64,.int .i64,.int .i64,.int .i64,.slice zvm,.slice tyPrep,.int .i64,.int .i64]
def signR (s:zI):Prop:=zqm s.key/\zqm s.dig
def signedR (x:zp):Prop:=zqm x.client/\zqm x.time/\opR x.op/\zqm x.key/\zqm x.dig
def prepR (p:zjU):Prop:=zqm p.view/\zqm p.seq/\zqm p.dig/\zqm p.fkey/\zqm p.fdig
def changeR (c:zbl):Prop:=zqm c.view/\zqm c.src/\zqm c.cert.seq/\zqm c.cert.dig/\(∀p∈c.above,prepR p)/\zqm c.key/\zqm c.dig
theorem zyL {α:Type}{ts:List Ty}{d:D}{f:α->List D}{R:α->Prop}(h:zlU (.slice ts) d)(hf:∀e,zdc ts e->∃a,e=f a/\R a):∃as_:List α,d=.slice (as_.map f)/\∀a∈as_,R a:=by
 cases h with
 | slice _ es h1 h2 h3=>
  have:∀l:List (List D),(∀e∈l,zdc ts e)->∃as_:List α,l=as_.map f/\∀a∈as_,R a:=by
   intro l;induction l with
   | nil=>intro _;exact⟨[],rfl,by simp⟩
   | cons e l ih=>
    intro hl
    obtain⟨a,rfl,ha⟩:=hf e (hl e (.head _))
    obtain⟨as_,rfl,has⟩:=ih fun e he=>hl e (.tail _ he)
    exact⟨a::as_,rfl,by simpa using ⟨ha,has⟩⟩
  obtain⟨as_,rfl,h4⟩:=this es (fun e he=>⟨h2 e he,h3 e he⟩)
  exact⟨as_,rfl,h4⟩
theorem zuZ {ds:List D}(h:zdc zvm ds):∃s:zI,ds=zgo s/\signR s:=by
 obtain⟨d1,ds,rfl,h1,h⟩:=zt h;obtain⟨d2,ds,rfl,h2,h⟩:=zt h;obtain rfl:=zeG h;obtain⟨a,rfl,ha⟩:=zaB h1;obtain⟨b,rfl,hb⟩:=zaB h2;exact⟨⟨a,b⟩,rfl,ha,hb⟩
theorem ztB {ds:List D}(h:zdc zuR ds):∃s:zp,ds=zaw s/\signedR s:=by
 obtain⟨d1,ds,rfl,h1,h⟩:=zt h;obtain⟨d2,ds,rfl,h2,h⟩:=zt h;obtain⟨d3,ds,rfl,h3,h⟩:=zt h;obtain⟨d4,ds,rfl,h4,h⟩:=zt h;obtain⟨d5,ds,rfl,h5,h⟩:=zt h;obtain⟨d6,ds,rfl,h6,h⟩:=zt h;obtain⟨d7,ds,rfl,h7,h⟩:=zt h;obtain⟨d8,ds,rfl,h8,h⟩:=zt h;obtain⟨d9,ds,rfl,h9,h⟩:=zt h;obtain rfl:=zeG h;obtain⟨a1,rfl,k1⟩:=zaB h1;obtain⟨a2,rfl,k2⟩:=zaB h2;obtain⟨a3,rfl,k3⟩:=zaB h3;obtain⟨a4,rfl⟩:=ztA h4;obtain⟨a5,rfl⟩:=ztA h5;obtain⟨a6,rfl,k6⟩:=zaB h6;obtain⟨a7,rfl⟩:=dec_recs h7;obtain⟨a8,rfl,k8⟩:=zaB h8;obtain⟨a9,rfl,k9⟩:=zaB h9;exact⟨⟨a1,a2,⟨a3,a4,a5,a6,a7⟩,a8,a9⟩,rfl,k1,k2,⟨k3,k6⟩,k8,k9⟩
theorem dec_prep {ds:List D}(h:zdc tyPrep ds):∃s:zjU,ds=zfx s/\prepR s:=by
 obtain⟨d1,ds,rfl,h1,h⟩:=zt h;obtain⟨d2,ds,rfl,h2,h⟩:=zt h;obtain⟨d3,ds,rfl,h3,h⟩:=zt h;obtain⟨d4,ds,rfl,h4,h⟩:=zt h;obtain⟨d5,ds,rfl,h5,h⟩:=zt h;obtain⟨d6,ds,rfl,h6,h⟩:=zt h;obtain⟨d7,ds,rfl,h7,h⟩:=zt h;obtain rfl:=zeG h;obtain⟨a1,rfl,k1⟩:=zaB h1;obtain⟨a2,rfl,k2⟩:=zaB h2;obtain⟨a3,rfl,k3⟩:=zaB h3;obtain⟨a4,rfl,k4⟩:=zaB h4;obtain⟨a5,rfl,k5⟩:=zaB h5;obtain⟨a6,rfl⟩:=zfP h6 (fun e he=>(zuZ he).imp fun _ h=>h.1);obtain⟨a7,rfl⟩:=zfP h7 (fun e he=>(ztB he).imp fun _ h=>h.1);exact⟨⟨a1,a2,a3,a4,a5,a6,a7⟩,rfl,k1,k2,k3,k4,k5⟩
theorem dec_change {ds:List D}(h:zdc tyChange ds):∃s:zbl,ds=zag s/\changeR s:=by
 obtain⟨d1,ds,rfl,h1,h⟩:=zt h;obtain⟨d2,ds,rfl,h2,h⟩:=zt h;obtain⟨d3,ds,rfl,h3,h⟩:=zt h;obtain⟨d4,ds,rfl,h4,h⟩:=zt h;obtain⟨d5,ds,rfl,h5,h⟩:=zt h;obtain⟨d6,ds,rfl,h6,h⟩:=zt h;obtain⟨d7,ds,rfl,h7,h⟩:=zt h;obtain⟨d8,ds,rfl,h8,h⟩:=zt h;obtain rfl:=zeG h;obtain⟨a1,rfl,k1⟩:=zaB h1;obtain⟨a2,rfl,k2⟩:=zaB h2;obtain⟨a3,rfl,k3⟩:=zaB h3;obtain⟨a4,rfl,k4⟩:=zaB h4;obtain⟨a5,rfl⟩:=zfP h5 (fun e he=>(zuZ he).imp fun _ h=>h.1);obtain⟨a6,rfl,k6⟩:=zyL h6 (fun e he=>dec_prep he);obtain⟨a7,rfl,k7⟩:=zaB h7;obtain⟨a8,rfl,k8⟩:=zaB h8;exact⟨⟨a1,a2,⟨a3,a4,a5⟩,a6,a7,a8⟩,rfl,k1,k2,k3,k4,k6,k7,k8⟩
def zT (x:zp):Int:=if x.client<0∨x.client≥8∨x.time<1∨x.time>9007199254740992 then 80 else zaN zef x.op
def zx (k d:Int):Int:=if k<0∨k≥21∨d<1∨d>9007199254740992 then 81 else 0
def zyI (s:zp):Int:=if zT s≠0 then zT s else zx s.key s.dig
def znW:List zp->Int
 | []=>0
 | s::r=>if zyI s≠0 then zyI s else znW r
def ndup (a b:zp):Prop:=¬(a.client=b.client/\a.time=b.time)
instance:DecidableRel ndup:=fun a b=>inferInstanceAs (Decidable (¬_))
def zD (l:List zp):Int:=
 if l.length>4 then 3 else if znW l≠0 then znW l else if l.Pairwise ndup then 0 else 5
theorem zpF {l:List zp}:∀ {k:Nat} {x:zp},l[k]? = some x->znW (l.take k)=0->zyI x≠0->znW l=zyI x:=by
 induction l with
 | nil=>intro k x h;simp at h
 | cons s r ih=>
  intro k x h h0 hx
  cases k with
  | zero=>simp at h;subst h;simp[znW,hx]
  | succ k=>
   simp only[List.take_succ_cons,znW]at h0 ⊢
   simp at h
   split at h0
   ·rename_i hs;exact absurd h0 hs
   ·rename_i hs;rw[if_neg hs];exact ih h h0 hx
theorem zyH {l:List zp}{k:Nat}{x:zp}(h:l[k]? = some x)(h0:znW (l.take k)=0)(hx:zyI x=0):znW (l.take (k+1))=0:=by
 have key:∀(a:List zp),znW a=0->znW (a++[x])=0:=by
  intro a;induction a with
  | nil=>intro _;simp[znW,hx]
  | cons s r ih=>
   intro h
   simp only[List.cons_append,znW]at h ⊢
   split at h
   ·rename_i hs;exact absurd h hs
   ·rename_i hs;rw[if_neg hs];exact ih h
 rw[List.take_add_one,h];exact key _ h0
theorem zym {l:List zp}{k:Nat}{x:zp}(h:l[k]? = some x)(h0:(l.take k).Pairwise ndup)(hx:∀y∈l.take k,¬(x.client=y.client/\x.time=y.time)):(l.take (k+1)).Pairwise ndup:=by
 rw[List.take_add_one,h];refine List.pairwise_append.2 ⟨h0,by simp,fun a ha b hb=>?_⟩;simp at hb;subst hb;exact fun e=>hx a ha ⟨e.1.symm,e.2.symm⟩
theorem pairs_not {l:List zp}{k j:Nat}{x y:zp}(h:l[k]? = some x)(hy:l[j]? = some y)(hj:j<k)(hxy:x.client=y.client/\x.time=y.time):¬l.Pairwise ndup:=by
 intro hp;rw[List.pairwise_iff_getElem]at hp;obtain⟨hk,rfl⟩:=List.getElem?_eq_some_iff.1 h;obtain⟨hj',rfl⟩:=List.getElem?_eq_some_iff.1 hy;exact hp j k hj' hk hj ⟨hxy.1.symm,hxy.2.symm⟩
def okO (o:TOp):Prop:=o.topic.length<=1073741824/\o.group.length<=1073741824/\o.recs.length<=1073741824/\∀r∈o.recs,r.length<=1073741824
def okB (b:List zp):Prop:=b.length<=1073741824/\∀x∈b,okO x.op
def allO {α:Type}:List (Option α)->Option (List α)
 | []=>some []
 | some a::l=>match allO l with|some r=>some (a::r)|none=>none
 | none::_=>none
theorem zvf {α:Type}:∀ {l:List (Option α)} {r:List α},allO l=some r->r.length=l.length/\∀(i:Nat) a b,l[i]? = some a->r[i]? = some b->a=some b
 | [],r,h=>by simp[allO]at h;subst h;simp
 | none::l,r,h=>by simp[allO]at h
 | some a::l,r,h=>by
  simp only[allO]at h;split at h
  ·rename_i r' hr;cases h;obtain⟨h1,h2⟩:=zvf hr;refine⟨by simp[h1],fun i x y hx hy=>?_⟩;cases i with
   | zero=>simp at hx hy;subst hx hy;rfl
   | succ i=>simp at hx hy;exact h2 i x y hx hy
  ·cases h
def frz (σ:List AObj) (n₀:Nat):Nat->AV->Option D
 | _,.d x=>some x
 | _,.own _ es=>some (.slice es)
 | _,.exact es=>some (.slice es)
 | n+1,.rsl t g sz lo hi=>match σ[t]? with
  | some (.row g' sz' cs)=>if n₀<=t/\g'=g/\sz'=sz then
    match allO (((cs.drop (lo*sz)).take ((hi-lo)*sz)).map (frz σ n₀ n))with
    | some ds=>some (.slice (zaD sz (hi-lo) ds))
    | none=>none
   else none
  | _=>none
 | _,_=>none
def frz1 (σ:List AObj) (n₀ n:Nat):AV->Option AV
 | .agg cs=>match allO (cs.map (frz σ n₀ n))with|some ds=>some (.agg (ds.map .d))|none=>none
 | a=>match frz σ n₀ n a with|some x=>some (.d x)|none=>none
def frzT (σ:List AObj) (n₀ n:Nat):AV->Option AV
 | .tup vs=>match allO (vs.map (frz1 σ n₀ n))with|some l=>some (.tup l)|none=>none
 | a=>frz1 σ n₀ n a
section
variable {P:Program} {w:World} {L:Nat->Loc} {σ:List AObj}
theorem frz_sound (S:Sim L σ w){O:Nat->Nat->Prop}{n₀:Nat}(hO:∀b o,O b o->Own L σ b o)(hno:∀t x,n₀<=t→σ[t]? = some x->x.kind=5->∀b o,zfw (L t) x b o->¬O b o) :
  ∀(n:Nat) (a:AV) (x:D) (v:Value),RV w L σ a v->frz σ n₀ n a=some x->RD w O x v:=by
 intro n;induction n with
 | zero=>
  intro a x v h hx
  cases h with
  | d _ _ h=>simp[frz]at hx;subst hx;exact ziO hO h
  | own _ _ _ _ _ _ _ _ h=>simp[frz]at hx;subst hx;exact ziO hO h
  | exact _ _ h=>simp[frz]at hx;subst hx;exact ziO hO h
  | _=>simp[frz]at hx
 | succ n ih=>
  intro a x v h hx
  cases h with
  | d _ _ h=>simp[frz]at hx;subst hx;exact ziO hO h
  | own _ _ _ _ _ _ _ _ h=>simp[frz]at hx;subst hx;exact ziO hO h
  | exact _ _ h=>simp[frz]at hx;subst hx;exact ziO hO h
  | rsl t g sz lo hi b c h1 h2 h3 h4 h5 h6 h7=>
   simp only[frz]at hx
   split at hx
   ·rename_i g' sz' cs hcs
    split at hx
    ·rename_i hc
     obtain⟨hn,rfl,rfl⟩:=hc
     split at hx
     ·rename_i ds hds
      cases hx
      obtain⟨a1,a2⟩:=zvf hds
      obtain⟨_,q2,q3,q4,q5⟩:=h7 sz' cs hcs
      obtain⟨p0,⟨m,p1,p1'⟩,p2,p3,p4,p5⟩:=S.obj t _ hcs
      have hmul:hi*sz'≤(L t).cap*sz':=Nat.mul_le_mul_right _ q3
      have hsub:lo*sz'+(hi-lo)*sz'=hi*sz':=by rw[← Nat.add_mul];congr 1;omega
      have hdl:ds.length=(hi-lo)*sz':=by rw[a1];simp;omega
      have hcl:(zaD sz' (hi-lo) ds).length=hi-lo:=zkc _ _ _
      rcases Nat.eq_zero_or_pos (hi-lo)with h0|h0
      ·rw[h0]at hcl ⊢
       rw[List.eq_nil_of_length_eq_zero hcl]
       exact .empty _ _ h5
      ·rw[q5 (by omega)]
       have hch:=zrr sz' (hi-lo) ds hdl
       generalize hes:zaD sz' (hi-lo) ds=es at hcl hch
       rw[← hcl]
       refine RD.of_block (sz:=sz') (by rw[hcl];exact h4) hch fun i e j d hi' hj=>?_
       rw[← hes]at hi'
       obtain⟨c1,c2,c3⟩:=zpH sz' (hi-lo) ds i e j d hi' hj
       have hlt:=zo c3
       rw[hdl]at hlt
       have hc:cs[lo*sz'+(i*sz'+j)]? = some (cs[lo*sz'+(i*sz'+j)]'(by omega)):=List.getElem?_eq_getElem _
       obtain⟨u,u1,u2⟩:=p5 _ _ hc
       refine⟨u,by rw[Nat.add_assoc];exact u1,hno t _ hn hcs rfl _ _ ⟨rfl,by omega,by omega⟩,ih _ d u u2 ?_⟩
       refine a2 (i*sz'+j) _ d ?_ c3
       rw[List.getElem?_map,List.getElem?_take,if_pos hlt,List.getElem?_drop,hc]
       rfl
     ·cases hx
    ·cases hx
   ·cases hx
  | _=>simp[frz]at hx
theorem zyD (S:Sim L σ w){L2:Nat->Loc}{σ2:List AObj}{n₀ n:Nat}(hO:∀b o,Own L2 σ2 b o->Own L σ b o)(hno:∀t x,n₀<=t→σ[t]? = some x->x.kind=5->∀b o,zfw (L t) x b o->¬Own L2 σ2 b o)
  {a r:AV} {v:Value} (h:RV w L σ a v) (hr:frz1 σ n₀ n a=some r):RV w L2 σ2 r v:=by
 have one:(match frz σ n₀ n a with|some x=>some (AV.d x)|none=>none)=some r->RV w L2 σ2 r v:=fun hr=>by
  split at hr
  ·rename_i x hx;cases hr;exact .d _ _ (frz_sound S hO hno n a x v h hx)
  ·cases hr
 cases a with
 | agg cs=>
  simp only[frz1]at hr
  split at hr
  ·rename_i ds hds
   cases hr
   obtain⟨vs,rfl,h1,h2⟩:=h.agg_inv
   obtain⟨a1,a2⟩:=zvf hds
   refine .agg _ _ (by simp at a1 ⊢;omega) fun i c u hc hu=>?_
   simp only[List.getElem?_map,Option.map_eq_some_iff]at hc
   obtain⟨d,hd,rfl⟩:=hc
   have hlt:=zo hd
   have hcs:cs[i]? = some (cs[i]'(by simp at a1;omega)):=List.getElem?_eq_getElem _
   exact .d _ _ (frz_sound S hO hno n _ d u (h2 i _ u hcs hu) (a2 i _ d (by rw[List.getElem?_map,hcs];rfl) hd))
  ·cases hr
 | _=>exact one hr
theorem zyC (S:Sim L σ w){L2:Nat->Loc}{σ2:List AObj}{n₀ n:Nat}(hO:∀b o,Own L2 σ2 b o->Own L σ b o)(hno:∀t x,n₀<=t→σ[t]? = some x->x.kind=5->∀b o,zfw (L t) x b o->¬Own L2 σ2 b o)
  {a r:AV} {v:Value} (h:RV w L σ a v) (hr:frzT σ n₀ n a=some r):RV w L2 σ2 r v:=by
 cases a with
 | tup cs=>
  simp only[frzT]at hr
  split at hr
  ·rename_i l hl
   cases hr
   obtain⟨vs,rfl,h1,h2⟩:=h.tup_inv
   obtain⟨a1,a2⟩:=zvf hl
   refine .tup _ _ (by simp at a1 ⊢;omega) fun i c u hc hu=>?_
   have hlt:=zo hc
   have hcs:cs[i]? = some (cs[i]'(by simp at a1;omega)):=List.getElem?_eq_getElem _
   exact zyD S hO hno (h2 i _ u hcs hu) (a2 i _ c (by rw[List.getElem?_map,hcs];rfl) hc)
  ·cases hr
 | _=>exact zyD S hO hno h hr
def EndsF (m n:Nat) (K:KT) (out:Option (List AV)) (σ':List AObj):Prop:=
 match out with
 | some l=>match frzT σ' n m (zcm l)with
  | some r=>zhl n (σ'.take n)/\K r (σ'.take n)
  | none=>False
 | none=>False
theorem zsx {f:FuncId}{F:AF}{na:Nat}(hF:isFn P f F na){as0:List AV}(has:as0.length=na){K:KT}(m:Nat)
  (h:zhl σ.length σ->(∀a∈as0,Low σ.length a)->awp P F.body (AtEnd fun fr' σ'=>EndsF m σ.length K (zux fr' σ' F.res) σ') (zlh 0 as0) σ):ACall P f as0 σ K:=
 zoQ hF has _ (fun{L w L' σ' w' fr' ts} S st S' F' hz=>by
  unfold EndsF at hz;split at hz
  ·rename_i l hl;split at hz
   ·rename_i r hr;obtain⟨z2,z3⟩:=hz;refine⟨L',_,l,r,hl,st.take,S'.take z2,fun v hv=>zyC S' (fun b o=>zrP) (fun t x ht hx hk b o hf hown=>?_) hv hr,z3⟩;obtain⟨id,y,hy,hfy⟩:=hown;rw[List.getElem?_take]at hy;split at hy
    ·rename_i hid;exact S'.apart id t y x b o (by omega) hy hx hfy hf
    ·cases hy
   ·exact hz.elim
  ·exact hz.elim) h
theorem zse {τ:List AObj}{K:KT}{l:List AV}{m:Nat}{r:AV}(hr:frzT (σ++τ) σ.length m (zcm l)=some r)(hl:zhl σ.length σ)(h:K r σ):EndsF m σ.length K (some l) (σ++τ):=by
 simp only[EndsF,hr,zmV];exact⟨hl,h⟩
end
section
variable {P:Program} {σ:List AObj}
theorem renId_range {n m id:Nat}(h:id<n+m):zqN n (List.range' n m) id=some id:=by
 unfold zqN;split
 ·rfl
 ·rename_i hn;have:∀(m a:Nat),a<=id->id<a+m->idxK (List.range' a m) id a=some id:=by
   intro m;induction m with
   | zero=>intro a h1 h2;omega
   | succ m ih=>
    intro a h1 h2
    simp only[List.range'_succ,idxK]
    by_cases e:a=id
    ·subst e;simp
    ·have e':¬id=a:=fun h=>e h.symm
     first
      | (rw[if_neg e];exact ih (a+1) (by omega) (by omega))
      | (rw[if_neg e'];exact ih (a+1) (by omega) (by omega))
  exact this m n (by omega) h
theorem zyA:∀(os:List AObj) (σ τ:List AObj),getL (σ++(os++τ)) (List.range' σ.length os.length)=some os
 | [],σ,τ=>rfl
 | x::os,σ,τ=>by
  simp only[List.length_cons,List.range'_succ,getL];have h1:(σ++(x::os++τ))[σ.length]? = some x:=by rw[List.getElem?_append_right (Nat.le_refl _),Nat.sub_self];rfl
  rw[h1];have h2:=zyA os (σ++[x]) τ;simp only[List.length_append,List.length_cons,List.length_nil,Nat.zero_add,List.append_assoc,List.cons_append,List.nil_append]at h2;simp only[List.cons_append];rw[h2]
theorem renOs_low {n:Nat}{f:Nat->Option Nat}(hf:∀id,id<n->f id=some id):∀ {l:List AObj},(∀x∈l,ztL n x)->zvA f l=some l
 | [],_=>rfl
 | x::l,h=>by simp only[zvA,renO_low hf (h x List.mem_cons_self),renOs_low hf fun y hy=>h y (List.mem_cons_of_mem _ hy)]
theorem zud {n:Nat}{σ' os τ:List AObj}{ks:List AObj->List Nat}{K:KT}{l:List AV}(hn:σ'.length=n)(hks:ks (σ'++(os++τ))=List.range' n os.length)(hl:zhl n σ')(hos:∀x∈os,ztL (n+os.length) x)
  (hr:Low (n+os.length) (zcm l)) (h:K (zcm l) (σ'++os)):zsH n ks K (some l) (σ'++(os++τ)):=by
 subst hn;unfold zsH zAK;rw[hks];have ht:(σ'++(os++τ)).take σ'.length=σ':=zmV _ _;simp only[zyA,ht];have hf:∀id,id<σ'.length+os.length->zqN σ'.length (List.range' σ'.length os.length) id=some id:=fun id h=>renId_range h;refine⟨by simp,hl,fun k hk=>by simp[List.mem_range'_1]at hk;exact hk.1,List.nodup_range',?_⟩;rw[renOs_low hf hos,zrM hf hr];exact h
theorem zdn {n:Nat}{σ' os:List AObj}{ks:List AObj->List Nat}{K:KT}{l:List AV}(hn:σ'.length=n)(hks:ks (σ'++os)=List.range' n os.length)(hl:zhl n σ')(hos:∀x∈os,ztL (n+os.length) x)
  (hr:Low (n+os.length) (zcm l)) (h:K (zcm l) (σ'++os)):zsH n ks K (some l) (σ'++os):=by
 have:=zud (os:=os) (τ:=[]) (ks:=ks) (K:=K) hn (by simpa using hks) hl hos hr h;simpa using this
theorem ACall.weaken {f:FuncId}{xs:List AV}{K:KT}(h:ACall P f xs σ fun r s=>∃r' s',zqb [r] s [r'] s'∧K r' s'):ACall P f xs σ K:=
 ⟨h.1,fun L w vs S hv=>(h.2 L w vs S hv).mono fun e w' he=>by
  cases e with
  | panicked _=>exact he
  | outgrown=>exact he
  | returned v=>
   obtain⟨L',σ',r,st,S',hr,r',s',hw,hK⟩:=he
   obtain⟨L2,st2,S2,hv2⟩:=zmi hw S' (us:=[v]) ⟨rfl,fun i c u hc hu=>by cases i<;>simp at hc hu;subst hc hu;exact hr⟩
   exact⟨L2,s',r',st.trans st2,S2,hv2.2 0 r' v rfl rfl,hK⟩⟩
theorem ACall.dm {f:FuncId}{xs:List AV}{K:KT}(h:ACall P f (xs.map AW.dm) σ K):ACall P f xs σ K:=
 ⟨h.1,fun L w vs S hv=>h.2 L w vs S ⟨by rw[List.length_map];exact hv.1,fun i a v ha hu=>by
  simp only[List.getElem?_map,Option.map_eq_some_iff]at ha;obtain⟨a',ha',rfl⟩:=ha;exact zuX (hv.2 i a' v ha' hu)⟩⟩
theorem ACall.pre {f:FuncId}{xs xs':List AV}{σ':List AObj}{K:KT}(hw:zqb xs σ xs' σ')(h:ACall P f xs' σ' K):ACall P f xs σ K:=
 ⟨h.1,fun L w vs S hv=>by
  obtain⟨L1,st,S1,hv1⟩:=zmi hw S hv;refine(h.2 L1 w vs S1 hv1).mono fun e w' he=>?_;cases e with
  | panicked _=>exact he
  | outgrown=>exact he
  | returned v=>
   obtain⟨L',s',r,st',S',hr,hK⟩:=he
   exact⟨L',s',r,st.trans st',S',hr,hK⟩⟩
def EndsW (n:Nat) (K:KT) (out:Option (List AV)) (σ':List AObj):Prop:=∃s,zqb [] σ' [] s/\Ends n K out s
theorem zja {f:FuncId}{F:AF}{na:Nat}(hF:isFn P f F na){as0:List AV}(has:as0.length=na){K:KT}
  (h:zhl σ.length σ->(∀a∈as0,Low σ.length a)->awp P F.body (AtEnd fun fr' σ'=>EndsW σ.length K (zux fr' σ' F.res) σ') (zlh 0 as0) σ):ACall P f as0 σ K:=
 zoQ hF has _ (fun{L w L' σ' w' fr' ts} S st S' F' hz=>by
  obtain⟨s,hw,hz⟩:=hz;obtain⟨L2,st2,S2,_⟩:=zmi hw S' (us:=[]) ⟨rfl,by simp⟩;unfold Ends at hz;split at hz
  ·rename_i l hl;obtain⟨z1,z2,z3⟩:=hz;exact⟨L2,_,l,dmT (zcm l),hl,(st.trans st2).take,S2.take z2,fun v hr=>(zwC (st2.rv hr)).take z1,z3⟩
  ·exact hz.elim) h
theorem ziL {n:Nat}{K:KT}{out:Option (List AV)}(h:Ends n K out σ):EndsW n K out σ:=⟨σ,.refl _ _,h⟩
theorem zhl.setO {n:Nat}(h:zhl n σ){id:Nat}{x:AObj}(hx:ztL n x):zhl n (σ.set id x):=zhl.set h hx
theorem zeL {τ:List AObj}{id:Nat}{x:AObj}{K:KT}{l:List AV}(h1:Low σ.length (dmT (zcm l)))(hl:zhl σ.length σ)(hx:ztL σ.length x)(h:K (dmT (zcm l)) (σ.set id x)):Ends σ.length K (some l) (σ.set id x++τ):=by
 unfold Ends;have:(σ.set id x++τ).take σ.length=σ.set id x:=by
  have e:(σ.set id x).length=σ.length:=List.length_set;rw[← e];exact zmV _ _
 rw[this];exact⟨h1,hl.setO hx,h⟩
theorem zeZ {id:Nat}{x:AObj}{K:KT}{l:List AV}(h1:Low σ.length (dmT (zcm l)))(hl:zhl σ.length σ)(hx:ztL σ.length x)(h:K (dmT (zcm l)) (σ.set id x)):Ends σ.length K (some l) (σ.set id x):=by
 have:=zeL (τ:=[]) h1 hl hx h;simpa using this
theorem zbS {α:Type}{σ:List α}{id:Nat}{x:α}(h:σ[id]? = some x):σ.set id x=σ:=by
 obtain⟨hl,hh⟩:=List.getElem?_eq_some_iff.1 h;rw[← hh];exact List.set_getElem_self hl
theorem zdr {α:Type}{σ:List α}{id:Nat}{x y:α}(h:σ[id]? = some x):(σ.set id y)[id]? = some y:=by
 simp[(List.getElem?_eq_some_iff.1 h).1]
theorem zY {α:Type}{σ:List α}{id:Nat}{x:α}(h:σ[id]? = some x):id<σ.length:=(List.getElem?_eq_some_iff.1 h).1
end
end Go.AW
