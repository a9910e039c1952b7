/- Contracts: certificates and entries that are the same. -/
import Derived.Test.YtfgbofkdhfjegaaGreatOpC
import Derived.Test.YtfgbofkdhfjegaaGreatHd1
import Derived.Test.YtfgbofkdhfjegaaGreatCk4
import Derived.Test.YtfgbofkdhfjegaaGreatBt3
import Derived.Test.YtfgbofkdhfjegaaGreatSpUtf
import Derived.Test.YtfgbofkdhfjegaaGreatMk2
import Derived.Test.YtfgbofkdhfjegaaGreatCk3
import Derived.Test.YtfgbofkdhfjegaaGreatRe1
import Derived.Test.YtfgbofkdhfjegaaGreatMk4
import Derived.Test.YtfgbofkdhfjegaaGreatBt2
import Derived.Test.YtfgbofkdhfjegaaGreatSpBulk
import Derived.Test.YtfgbofkdhfjegaaGreatPt2
import Derived.Test.YtfgbofkdhfjegaaGreatKp2
import Derived.Test.YtfgbofkdhfjegaaGreatCl1
set_option linter.all false
set_option maxRecDepth 100000
namespace Go.Proofs.YtfgbofkdhfjegaaGreat
open Go.AW
end Go.Proofs.YtfgbofkdhfjegaaGreat

/- The bytes of view-changes and new views, and how many they are at most. No program in sight. -/
namespace Go.AW
structure prepOkE (p:zoB):Prop where
 view:0<=p.view/\p.view<=9007199254740992
 seq:1<=p.seq/\p.seq<=9007199254740992
 dig:1<=p.dig/\p.dig<=9007199254740992
 first:zai p.fkey p.fdig=0
 signs:∀ e∈zmG p.signs,e=0
 batch:zX p.batch=0
structure bodyOkE (c:zgg):Prop where
 view:1<=c.view/\c.view<=9007199254740992
 src:0<=c.src/\c.src<=12
 cert:∀ e∈zhk c.cert,e=0
 many:c.above.length<=8
 above:∀ p∈c.above, ∀ e∈prepErr p,e=0
structure entryOkE (x:zmp):Prop where
 view:0<=x.view/\x.view<=9007199254740992
 seq:1<=x.seq/\x.seq<=9007199254740992
 batch:zX x.batch=0
 sign:zai x.key x.dig=0
structure newvOkE (m:zlI):Prop where
 src:0<=m.src/\m.src<=12
 view:1<=m.view/\m.view<=9007199254740992
 manyC:m.changes.length<=13
 change:∀ c∈m.changes, ∀ e∈ztf c,e=0
 manyE:m.entries.length<=8
 entry:∀ x∈m.entries, ∀ e∈entryErr x,e=0
end Go.AW

/- Contracts: which view-changes and new views may be, the document's. -/
set_option maxRecDepth 100000
namespace Go.Proofs.YtfgbofkdhfjegaaGreat
open Go.AW
theorem c_rdNew {σ:List zg} {tid m t lid m2 t2:Nat} {L:List (List UInt8)} {G:List zI} {f me o:Int} {tp:List UInt8} {K:KT} (hT:zdo σ tid m t L) (hG:zee σ lid m2 t2 G) (hL:zlJ L) (hg:G.length<=1073741824) (htp:tp.length<=1048576)
  (hbad:zeK f me tp o≠0->∀ τ,K (.tup [.d .nilp,.d (.int .i64 (zeK f me tp o))]) (σ ++ τ))
  (hok:zeK f me tp o=0->∀ τ,K (.tup [.box (σ ++ τ).length 0,.d (.int .i64 0)]) (σ ++ τ++[rdB (zmM f me tp o) (.box tid 0) (.box lid 0) (.exact [])])) :
  zr Tryz.prog zlS [.d (.int .i64 f),.d (.int .i64 me),.d (.str tp),.d (.int .i64 o),.box tid 0,.box lid 0] σ K:=by
 refine zdZ zqW.is rfl fun hl _=>zqW.goes ?_
 have bad:∀ z,zeK f me tp o=z->z≠0->∀ τ,ztO K (some [.d .nilp,.d (.int .i64 z)]) (σ ++ τ):=fun z h h0 τ=>zfO (by subst h;exact hbad h0 τ)
 simp only [zrc,iN,bT,bF,eN]
 refine gq1 ?_
 refine zpo hT hL.nd hL.len hL.each ?_
 refine gq1 ?_
 refine zpr (hG.app _) hg fun G' => ?_
 refine gq1 ?_
 refine zpq ?_
 cases h1:(zcM f != 0)
 rotate_left
 ·refine gq2 h1 ?_
  exact bad _ (by rw [zeK,if_pos (by simpa using h1)]) (by simpa using h1) _
 cases h2:decide (me<0)
 rotate_left
 ·refine gq2 (zf h1 h2) ?_
  exact bad _ (by rw [zeK,if_neg (by simpa using h1),if_pos (.inl (by simpa using h2))]) (by omega) _
 cases h3:decide (me≥8)
 rotate_left
 ·refine gq2 (zf h1 (zf h2 h3)) ?_
  exact bad _ (by rw [zeK,if_neg (by simpa using h1),if_pos (.inr (by simpa using h3))]) (by omega) _
 have h23:¬ (me<0∨me≥8):=by simp at h2 h3;omega
 refine gq2 (zf h1 (zf h2 h3)) ?_
 refine c_Name (by omega) ?_
 cases h4:zdV tp
 ·refine gq2 h4 ?_
  exact bad _ (by rw [zeK,if_neg (by simpa using h1),if_neg h23,if_pos h4]) (by omega) _
 cases h5:decide (o<0)
 rotate_left
 ·refine gq2 h5 ?_
  exact bad _ (by rw [zeK,if_neg (by simpa using h1),if_neg h23,if_neg (by simp [h4]),if_pos (.inl (by simpa using h5))]) (by omega) _
 cases h6:decide (o≥9007199254740992)
 rotate_left
 ·refine gq2 (zf h5 h6) ?_
  exact bad _ (by rw [zeK,if_neg (by simpa using h1),if_neg h23,if_neg (by simp [h4]),if_pos (.inr (by simpa using h6))]) (by omega) _
 have h56:¬ (o<0∨o≥9007199254740992):=by simp at h5 h6;omega
 have hz:zeK f me tp o=0:=by rw [zeK,if_neg (by simpa using h1),if_neg h23,if_neg (by simp [h4]),if_neg h56]
 refine gq2 (zf h5 h6) ?_
 have key:=hok hz [.map (tabM L),.box [.own (σ.length+2) (zgK L),.map σ.length],.tok 1 L.length,.map (ztQ G'),.box [.own (σ.length+5) (zpL G'),.map (σ.length+3)],.tok 2 G'.length]
 rw [List.append_assoc,List.length_append] at key
 exact zfO key
abbrev rdX (r:zrD) (lv tp lp:AV):zg := .box [.d (.int .i64 r.f),.d (.int .i64 r.me),.d (.str r.topic),.d (.int .i64 r.next),lv,.d (.int .i64 r.broker),.d (.int .i64 r.wait),tp,lp]
theorem c_rxNew {σ:List zg} {a b a2 b2:Nat} {f me o:Int} {tp:List UInt8} {K:KT} (htp:tp.length<=1048576)
  (hbad:zeK f me tp o≠0->∀ τ,K (.tup [.d .nilp,.d (.int .i64 (zeK f me tp o))]) (σ ++ τ))
  (hok:zeK f me tp o=0->K (.tup [.box σ.length 0,.d (.int .i64 0)]) (σ++[rdX (zmM f me tp o) (.exact []) (.box a b) (.box a2 b2)])) :
  zr Tryz.prog zsl [.d (.int .i64 f),.d (.int .i64 me),.d (.str tp),.d (.int .i64 o),.box a b,.box a2 b2] σ K:=by
 refine zdZ e_r25_New.is rfl fun hl _=>e_r25_New.goes ?_
 have bad:∀ z,zeK f me tp o=z->z≠0->ztO K (some [.d .nilp,.d (.int .i64 z)]) σ:=fun z h h0=>by
  refine zfO ?_
  subst h
  have:=hbad h0 []
  rwa [List.append_nil] at this
 simp only [S_r25_New,iN,bT,bF,eN]
 refine gq1 ?_
 refine ztk ?_
 cases h1':(zcM f != 0)
 rotate_left
 ·refine gq2 h1' ?_
  exact bad _ (by rw [zeK,if_pos (by simpa using h1')]) (by simpa using h1')
 cases h2':decide (me<0)
 rotate_left
 ·refine gq2 (zf h1' h2') ?_
  exact bad _ (by rw [zeK,if_neg (by simpa using h1'),if_pos (.inl (by simpa using h2'))]) (by omega)
 cases h3:decide (me≥8)
 rotate_left
 ·refine gq2 (zf h1' (zf h2' h3)) ?_
  exact bad _ (by rw [zeK,if_neg (by simpa using h1'),if_pos (.inr (by simpa using h3))]) (by omega)
 have h23:¬ (me<0∨me≥8):=by simp at h2' h3;omega
 refine gq2 (zf h1' (zf h2' h3)) ?_
 refine c_rName (by omega) ?_
 cases h4:zdV tp
 ·refine gq2 h4 ?_
  exact bad _ (by rw [zeK,if_neg (by simpa using h1'),if_neg h23,if_pos h4]) (by omega)
 cases h5:decide (o<0)
 rotate_left
 ·refine gq2 h5 ?_
  exact bad _ (by rw [zeK,if_neg (by simpa using h1'),if_neg h23,if_neg (by simp [h4]),if_pos (.inl (by simpa using h5))]) (by omega)
 cases h6:decide (o≥9007199254740992)
 rotate_left
 ·refine gq2 (zf h5 h6) ?_
  exact bad _ (by rw [zeK,if_neg (by simpa using h1'),if_neg h23,if_neg (by simp [h4]),if_pos (.inr (by simpa using h6))]) (by omega)
 have h56:¬ (o<0∨o≥9007199254740992):=by simp at h5 h6;omega
 have hz:zeK f me tp o=0:=by rw [zeK,if_neg (by simpa using h1'),if_neg h23,if_neg (by simp [h4]),if_neg h56]
 refine gq2 (zf h5 h6) ?_
 exact zfO (hok hz)
abbrev trC (n:Nat) (q:zbX) (gh lo hi gp gs lo2 hi2:Nat):List AV:=
 [.d (.str q.topic),.d (.int .i64 q.offset),.d (.slice (bcs q.rec_)),.rsl (n+2) gh 5 lo hi,.d (.int .i64 q.index),.d (.int .i64 q.count),.rsl (n+3) gp 1 0 q.path.length,.d (.int .i64 q.cert.seq),.d (.int .i64 q.cert.dig),.rsl (n+4) gs 2 lo2 hi2]
abbrev zero10:List AV := [.d (.str []),.d (.int .i64 0),.exact [],.exact [],.d (.int .i64 0),.d (.int .i64 0),.exact [],.d (.int .i64 0),.d (.int .i64 0),.exact []]
structure TrJ (σ:List zg) (k gh lo hi gp gs lo2:Nat) (H:List zcF) (G:List zI) (q:zbX) (S:List zg):Prop where
 a:S[σ.length]? = some (.box (trC σ.length q gh lo hi gp gs lo2 G.length))
 b:S[σ.length+1]? = some (.box zero10)
 h:S[σ.length+2]? = some (.row gh 5 (zaG (ziW H)))
 p:S[σ.length+3]? = some (.row gp 1 (zaG (zdA q.path)))
 s:S[σ.length+4]? = some (.row gs 2 (zaG (zaW G)))
 hh:q.headers=(H.take hi).drop lo
 h1:lo<=hi/\hi<=H.length/\H.length<=1073741824
 ss:q.cert.signs=G.drop lo2
 s1:lo2<=G.length/\G.length<=1073741824+k
 p1:q.path.length<=1073741824+k
 pre:S.take σ.length = σ
section
variable {σ S:List zg} {k gh lo hi gp gs lo2:Nat} {H:List zcF} {G:List zI} {q:zbX}
theorem TrJ.app (j:TrJ σ k gh lo hi gp gs lo2 H G q S) (τ:List zg):TrJ σ k gh lo hi gp gs lo2 H G q (S ++ τ):=
 ⟨zd j.a,zd j.b,zd j.h,zd j.p,zd j.s,j.hh,j.h1,j.ss,j.s1,j.p1,by rw [List.take_append_of_le_length (by have:=zy j.a;omega)];exact j.pre⟩
theorem znL {S:List zg} {n i:Nat} {y:zg} (h:n<=i):(S.set i y).take n=S.take n:=by
 rw [List.take_set,List.set_eq_of_length_le (by rw [List.length_take];omega)]
theorem TrJ.set (j:TrJ σ k gh lo hi gp gs lo2 H G q S) (q':zbX) (h:q'.headers=q.headers) (p:q'.path=q.path) (s:q'.cert.signs=q.cert.signs):TrJ σ (k+1) gh lo hi gp gs lo2 H G q' (S.set σ.length (.box (trC σ.length q' gh lo hi gp gs lo2 G.length))):=
 ⟨List.getElem?_set_self (zy j.a),zc _ j.b (by omega),zc _ j.h (by omega),by rw [p];exact zc _ j.p (by omega),zc _ j.s (by omega),h▸j.hh,j.h1,s▸j.ss,⟨j.s1.1,by have:=j.s1.2;omega⟩,by rw [p];have:=j.p1;omega,by rw [znL (Nat.le_refl _)];exact j.pre⟩
theorem TrJ.path {i:Nat} (j:TrJ σ k gh lo hi gp gs lo2 H G q S) (d:Int) (h:i<q.path.length):TrJ σ (k+1) gh lo hi gp gs lo2 H G { q with path:=q.path.set i d } (S.set (σ.length+3) (.row gp 1 (zaG (zdA (q.path.set i d))))):=
 ⟨by rw [trC,List.length_set];exact zc _ j.a (by omega),zc _ j.b (by omega),zc _ j.h (by omega),List.getElem?_set_self (zy j.p),zc _ j.s (by omega),j.hh,j.h1,j.ss,⟨j.s1.1,by have:=j.s1.2;omega⟩,by simp only [List.length_set];have:=j.p1;omega,by rw [znL (by omega)];exact j.pre⟩
theorem TrJ.row (j:TrJ σ k gh lo hi gp gs lo2 H G q S) (H':List zcF) (hl:H'.length=H.length):TrJ σ (k+1) gh lo hi gp gs lo2 H' G { q with headers:=(H'.take hi).drop lo } (S.set (σ.length+2) (.row gh 5 (zaG (ziW H')))):=
 ⟨zc _ j.a (by omega),zc _ j.b (by omega),List.getElem?_set_self (zy j.h),zc _ j.p (by omega),zc _ j.s (by omega),rfl,by rw [hl];exact j.h1,j.ss,⟨j.s1.1,by have:=j.s1.2;omega⟩,by have:=j.p1;simp only;omega,by rw [znL (by omega)];exact j.pre⟩
theorem TrJ.next (j:TrJ σ k gh lo hi gp gs lo2 H G q S):TrJ σ (k+1) gh lo hi gp gs lo2 H G q S:=
 ⟨j.a,j.b,j.h,j.p,j.s,j.hh,j.h1,j.ss,⟨j.s1.1,by have:=j.s1.2;omega⟩,by have:=j.p1;omega,j.pre⟩
end
theorem zpX:∀ (f:Nat) {L:List (List UInt8)} {i:Nat} {l:List (List UInt8)},l.length<=f->zlJ L->(∀ x∈l,x.length<=1073741800)->zlJ (zbd f L i l).2/\∀ x∈(zbd f L i l).1, 0<=x/\x<=1048577
 | 0,L,i,l,hf,h,hx=>⟨by rw [zoN (by omega)];exact h,by rw [zoN (by omega)];simp⟩
 | f+1,L,i,l,hf,h,hx=>by
  by_cases h1:l.length<=1
  ·rw [zoN h1];exact ⟨h,by simp⟩
  ·have hs:=zcR (n:=l.length) (by omega)
   rw [proveA_2 (by omega)]
   split
   ·obtain ⟨g1,g2⟩:=zpX f (i:=i) (l:=l.take (zj l.length)) (by rw [List.length_take];omega) h fun x hm=>hx x (List.mem_of_mem_take hm)
    have g3:=zoL _ (L:=(zbd f L i (l.take (zj l.length))).2) (l:=l.drop (zj l.length)) (Nat.le_refl _) g1 fun x hm=>hx x (List.mem_of_mem_drop hm)
    have g4:=(zdS _ (L:=(zbd f L i (l.take (zj l.length))).2) (l:=l.drop (zj l.length)) (Nat.le_refl _) g1.len).2
    refine ⟨g3,fun x hm => ?_⟩
    rcases List.mem_append.1 hm with hm|hm
    ·exact g2 x hm
    ·simp only [List.mem_singleton] at hm;subst hm;exact g4
   ·obtain ⟨g1,g2⟩:=zpX f (i:=i-zj l.length) (l:=l.drop (zj l.length)) (by rw [List.length_drop];omega) h fun x hm=>hx x (List.mem_of_mem_drop hm)
    have g3:=zoL _ (L:=(zbd f L (i-zj l.length) (l.drop (zj l.length))).2) (l:=l.take (zj l.length)) (Nat.le_refl _) g1 fun x hm=>hx x (List.mem_of_mem_take hm)
    have g4:=(zdS _ (L:=(zbd f L (i-zj l.length) (l.drop (zj l.length))).2) (l:=l.take (zj l.length)) (Nat.le_refl _) g1.len).2
    refine ⟨g3,fun x hm => ?_⟩
    rcases List.mem_append.1 hm with hm|hm
    ·exact g2 x hm
    ·simp only [List.mem_singleton] at hm;subst hm;exact g4
theorem makeF_small {L:List (List UInt8)} {l:List zbc} {c:zfa} {t:List UInt8} {o:Int} (hL:zlJ L) (hb:∀ b∈l,zpT b) (hl:l.length<=536870912) (hc:c.signs.length<=536870912) (ht:t.length<=16777216) (ho:ziK o) :
  zfy (zhO L l c t o).2.1/\(zhO L l c t o).2.1.path.length<=1048576/\(zhO L l c t o).2.1.headers.length<=536870912/\(zhO L l c t o).2.1.cert.signs.length<=536870912/\zlJ (zhO L l c t o).2.2:=by
 have h0:zfy ztP:=⟨by simp [ztP],by simp [ztP],by simp [ztP],by simp [ztP],by simp [ztP],by simp [ztP,ziK],by simp [ztP,ziK],by simp [ztP,ziK],by simp [ztP]⟩
 unfold zhO
 split
 ·exact ⟨h0,by simp [ztP],by simp [ztP],by simp [ztP],hL⟩
 ·rename_i i k hf
  split
  ·exact ⟨h0,by simp [ztP],by simp [ztP],by simp [ztP],hL⟩
  ·rename_i hs hr
   obtain ⟨n0,b,hi0,hx,hk⟩:=zwb hf
   have hi:i=n0:=by omega
   subst hi
   have hbx:=hb b (List.mem_of_getElem? hx)
   have hg:l.getD i ⟨⟨0, 0, 0, 0, 0⟩,[],[]⟩=b:=by simp [List.getD,hx]
   have hlen:=runF_len hr
   rw [List.length_drop] at hlen
   simp only [hg]
   have hpl:∀ x∈b.placed.map zaz,x.length<=1073741800:=fun x hm=>by
    obtain ⟨p,hp,rfl⟩:=List.mem_map.1 hm
    have:=znR (hbx.each p hp);omega
   obtain ⟨g1,g2⟩:=zpX b.placed.length (i:=k) (l:=b.placed.map zaz) (by simp) hL hpl
   have g3:=(zjN b.placed.length (L:=L) (i:=k) (l:=b.placed.map zaz) (by simp) hL.len).2
   rw [List.length_map] at g3
   have g4:=hbx.len
   have hgk:b.placed.getD k ⟨[], 0,[]⟩∈b.placed:=by
    rw [show b.placed.getD k ⟨[], 0,[]⟩=b.placed[k] by simp [List.getD,List.getElem?_eq_getElem hk]]
    exact List.getElem_mem hk
   have g5:=hbx.each _ hgk
   refine ⟨⟨ht,g5.rec_,by simp only;omega,by simp only;omega,by simp only;omega,ho,?_,?_,fun x hm => ?_⟩,by omega,by omega,hc,g1⟩
   ·constructor<;>simp only<;>omega
   ·constructor<;>simp only<;>omega
   ·have:=g2 x hm;constructor<;>omega
structure TwI (w:TTwist):Prop where
 rec_:w.rec_.length<=16777216
 dig:ziK w.dig
structure PfI (k:Nat) (p:zbX):Prop where
 topic:p.topic.length<=16777216
 rec_:p.rec_.length<=16777216
 headers:p.headers.length<=536870912
 path:p.path.length<=536870912+k
 signs:p.cert.signs.length<=536870912+k
 off:ziK p.offset
 index:ziK p.index
 count:ziK p.count
 paths:∀ x∈p.path,ziK x
def tyHdr:List Ty := [.int .i64,.int .i64,.int .i64,.int .i64,.int .i64]
def tyCert:List Ty := [.int .i64,.int .i64,.slice zqK]
def tyProof:List Ty := [.str,.int .i64,.slice [.int .u8],.slice tyHdr,.int .i64,.int .i64,.slice [.int .i64],.int .i64,.int .i64,.slice zqK]
theorem dec_u16' {d:D} (h:ziY (.int .u16) d):∃ n:Nat,d = .int .u16 n/\n<65536:=by
 obtain ⟨n,rfl,h2⟩:=dec_int h
 have h':0<=n/\n<=65535:=by simpa [Lit.wf,IntKind.min,IntKind.max,IntKind.signed,IntKind.bits] using h2
 exact ⟨n.toNat,by rw [show ((n.toNat:Nat):Int)=n by omega],by omega⟩
theorem dec_hdr {ds:List D} (h:zcs tyHdr ds):∃ x:zcF,ds=hdrD x/\ziK x.seq:=by
 obtain ⟨d1,ds,rfl,h1,h⟩:=zq h
 obtain ⟨d2,ds,rfl,h2,h⟩:=zq h
 obtain ⟨d3,ds,rfl,h3,h⟩:=zq h
 obtain ⟨d4,ds,rfl,h4,h⟩:=zq h
 obtain ⟨d5,ds,rfl,h5,h⟩:=zq h
 obtain rfl:=zdR h
 obtain ⟨a1,rfl,k1⟩:=zaA h1
 obtain ⟨a2,rfl,_⟩:=zaA h2
 obtain ⟨a3,rfl,_⟩:=zaA h3
 obtain ⟨a4,rfl,_⟩:=zaA h4
 obtain ⟨a5,rfl,_⟩:=zaA h5
 exact ⟨⟨a1,a2,a3,a4,a5⟩,rfl,k1⟩
theorem dec_int1 {ds:List D} (h:zcs [.int .i64] ds):∃ x:Int,ds = [.int .i64 x]/\ziK x:=by
 obtain ⟨d1,ds,rfl,h1,h⟩:=zq h
 obtain rfl:=zdR h
 obtain ⟨a1,rfl,k1⟩:=zaA h1
 exact ⟨a1,rfl,k1⟩
theorem zta {d:D} (h:ziY (.slice zqK) d):∃ l:List zI,d = .slice (zaW l):=by
 obtain ⟨l,rfl⟩:=zer (f:=zhI) h (fun e he=>(zrO he).imp fun _ h=>h.1)
 exact ⟨l,rfl⟩
theorem signs_bulk (l:List zI):l.length<=zdl (zaW l):=zdv (f:=zhI) (fun a=>by simp only [zhI,zcJ,zeO];omega) l
theorem dec_cert {ds:List D} (h:zcs tyCert ds) (hb:zcJ ds<=1048576):∃ c:zfa,ds=certD c/\c.signs.length<=1048576:=by
 obtain ⟨d1,ds,rfl,h1,h⟩:=zq h
 obtain ⟨d2,ds,rfl,h2,h⟩:=zq h
 obtain ⟨d3,ds,rfl,h3,h⟩:=zq h
 obtain rfl:=zdR h
 obtain ⟨a1,rfl,k1⟩:=zaA h1
 obtain ⟨a2,rfl,_⟩:=zaA h2
 obtain ⟨a3,rfl⟩:=zta h3
 simp only [zcJ,zeO] at hb
 have:=signs_bulk a3
 exact ⟨⟨a1,a2,a3⟩,rfl,by simp only;omega⟩
structure PfS (p:zbX):Prop where
 small:zfy p
 path:p.path.length<=1048576
 headers:p.headers.length<=1048576
 signs:p.cert.signs.length<=1048576
theorem dec_proof {ds:List D} (h:zcs tyProof ds) (hb:zcJ ds<=1048576):∃ p:zbX,ds=proofD p/\PfS p:=by
 obtain ⟨d1,ds,rfl,h1,h⟩:=zq h
 obtain ⟨d2,ds,rfl,h2,h⟩:=zq h
 obtain ⟨d3,ds,rfl,h3,h⟩:=zq h
 obtain ⟨d4,ds,rfl,h4,h⟩:=zq h
 obtain ⟨d5,ds,rfl,h5,h⟩:=zq h
 obtain ⟨d6,ds,rfl,h6,h⟩:=zq h
 obtain ⟨d7,ds,rfl,h7,h⟩:=zq h
 obtain ⟨d8,ds,rfl,h8,h⟩:=zq h
 obtain ⟨d9,ds,rfl,h9,h⟩:=zq h
 obtain ⟨d10,ds,rfl,h10,h⟩:=zq h
 obtain rfl:=zdR h
 obtain ⟨a1,rfl⟩:=zsZ h1
 obtain ⟨a2,rfl,k2⟩:=zaA h2
 obtain ⟨a3,rfl⟩:=ztb h3
 obtain ⟨a4,rfl⟩:=zer (f:=hdrD) h4 fun e he=>(dec_hdr he).imp fun _ h=>h.1
 obtain ⟨a5,rfl,k5⟩:=zaA h5
 obtain ⟨a6,rfl,k6⟩:=zaA h6
 obtain ⟨a7,rfl,k7⟩:=zuV (f:=fun x:Int => [D.int .i64 x]) h7 fun e he=>dec_int1 he
 obtain ⟨a8,rfl,k8⟩:=zaA h8
 obtain ⟨a9,rfl,k9⟩:=zaA h9
 obtain ⟨a10,rfl⟩:=zta h10
 simp only [zcJ,zeO,zwG] at hb
 have b4:=zdv (f:=hdrD) (fun a=>by simp only [hdrD,zcJ,zeO];omega) a4
 have b7:=zdv (f:=fun x:Int => [D.int .i64 x]) (fun a=>by simp only [zcJ,zeO];omega) a7
 have b10:=signs_bulk a10
 refine ⟨⟨a1,a2,a3,a4,a5,a6,a7,⟨a8,a9,a10⟩⟩,rfl,⟨?_,?_,?_,?_,?_,k2,k5,k6,k7⟩,?_,?_,?_⟩<;>simp only<;>omega
structure okC (c:TCase):Prop where
 ops:∀ l∈c.bats, ∀ x∈l,zjG x.op<=20971520
 sum:(c.bats.map List.length).sum<=1048576
 voters:c.voters<65536
 topic:c.topic.length<=1048576
 offset:ziK c.offset
 tl:c.twists.length<=1048576
 twists:∀ w∈c.twists,TwI w
 bad:c.bad.length<=1048576
 f:ziK c.f
end Go.Proofs.YtfgbofkdhfjegaaGreat
