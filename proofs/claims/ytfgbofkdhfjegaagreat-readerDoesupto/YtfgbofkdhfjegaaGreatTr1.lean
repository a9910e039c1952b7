/- Contract: a proof is turned. -/
import Derived.Test.YtfgbofkdhfjegaaGreatBv1
import Derived.Test.YtfgbofkdhfjegaaGreatSpBulk
import Derived.Test.YtfgbofkdhfjegaaGreatPt2
import Derived.Test.YtfgbofkdhfjegaaGreatBt1
import Derived.Test.YtfgbofkdhfjegaaGreatMk3
import Derived.Test.YtfgbofkdhfjegaaGreatPf1
import Derived.Test.YtfgbofkdhfjegaaGreatCl1
import Derived.Test.YtfgbofkdhfjegaaGreatCk4
import Derived.Test.YtfgbofkdhfjegaaGreatBt3
set_option linter.all false
set_option maxRecDepth 100000
namespace Go.Proofs.YtfgbofkdhfjegaaGreat
open Go.AW
abbrev trC (n:Nat) (q:zbW) (gh lo hi gp gs lo2 hi2:Nat):List AV:=
 [.d (.str q.topic),.d (.int .i64 q.offset),.d (.slice (bcs q.rec_)),.rsl (n+2) gh 5 lo hi,.d (.int .i64 q.index),.d (.int .i64 q.count),.rsl (n+3) gp 1 0 q.path.length,.d (.int .i64 q.cert.seq),.d (.int .i64 q.cert.dig),.rsl (n+4) gs 2 lo2 hi2]
abbrev zero10:List AV := [.d (.str []),.d (.int .i64 0),.exact [],.exact [],.d (.int .i64 0),.d (.int .i64 0),.exact [],.d (.int .i64 0),.d (.int .i64 0),.exact []]
structure TrJ (σ:List zh) (k gh lo hi gp gs lo2:Nat) (H:List zdl) (G:List zR) (q:zbW) (S:List zh):Prop where
 a:S[σ.length]? = some (.box (trC σ.length q gh lo hi gp gs lo2 G.length))
 b:S[σ.length+1]? = some (.box zero10)
 h:S[σ.length+2]? = some (.row gh 5 (zaK (zgR H)))
 p:S[σ.length+3]? = some (.row gp 1 (zaK (zcH q.path)))
 s:S[σ.length+4]? = some (.row gs 2 (zaK (zaI G)))
 hh:q.headers=(H.take hi).drop lo
 h1:lo<=hi/\hi<=H.length/\H.length<=1073741824
 ss:q.cert.signs=G.drop lo2
 s1:lo2<=G.length/\G.length<=1073741824+k
 p1:q.path.length<=1073741824+k
 pre:S.take σ.length = σ
section
variable {σ S:List zh} {k gh lo hi gp gs lo2:Nat} {H:List zdl} {G:List zR} {q:zbW}
theorem TrJ.app (j:TrJ σ k gh lo hi gp gs lo2 H G q S) (τ:List zh):TrJ σ k gh lo hi gp gs lo2 H G q (S ++ τ):=
 ⟨zf j.a,zf j.b,zf j.h,zf j.p,zf j.s,j.hh,j.h1,j.ss,j.s1,j.p1,by rw [List.take_append_of_le_length (by have:=zB j.a;omega)];exact j.pre⟩
theorem zps {S:List zh} {n i:Nat} {y:zh} (h:n<=i):(S.set i y).take n=S.take n:=by
 rw [List.take_set,List.set_eq_of_length_le (by rw [List.length_take];omega)]
theorem TrJ.set (j:TrJ σ k gh lo hi gp gs lo2 H G q S) (q':zbW) (h:q'.headers=q.headers) (p:q'.path=q.path) (s:q'.cert.signs=q.cert.signs):TrJ σ (k+1) gh lo hi gp gs lo2 H G q' (S.set σ.length (.box (trC σ.length q' gh lo hi gp gs lo2 G.length))):=
 ⟨List.getElem?_set_self (zB j.a),zc _ j.b (by omega),zc _ j.h (by omega),by rw [p];exact zc _ j.p (by omega),zc _ j.s (by omega),h▸j.hh,j.h1,s▸j.ss,⟨j.s1.1,by have:=j.s1.2;omega⟩,by rw [p];have:=j.p1;omega,by rw [zps (Nat.le_refl _)];exact j.pre⟩
theorem TrJ.path {i:Nat} (j:TrJ σ k gh lo hi gp gs lo2 H G q S) (d:Int) (h:i<q.path.length):TrJ σ (k+1) gh lo hi gp gs lo2 H G { q with path:=q.path.set i d } (S.set (σ.length+3) (.row gp 1 (zaK (zcH (q.path.set i d))))):=
 ⟨by rw [trC,List.length_set];exact zc _ j.a (by omega),zc _ j.b (by omega),zc _ j.h (by omega),List.getElem?_set_self (zB j.p),zc _ j.s (by omega),j.hh,j.h1,j.ss,⟨j.s1.1,by have:=j.s1.2;omega⟩,by simp only [List.length_set];have:=j.p1;omega,by rw [zps (by omega)];exact j.pre⟩
theorem TrJ.row (j:TrJ σ k gh lo hi gp gs lo2 H G q S) (H':List zdl) (hl:H'.length=H.length):TrJ σ (k+1) gh lo hi gp gs lo2 H' G { q with headers:=(H'.take hi).drop lo } (S.set (σ.length+2) (.row gh 5 (zaK (zgR H')))):=
 ⟨zc _ j.a (by omega),zc _ j.b (by omega),List.getElem?_set_self (zB j.h),zc _ j.p (by omega),zc _ j.s (by omega),rfl,by rw [hl];exact j.h1,j.ss,⟨j.s1.1,by have:=j.s1.2;omega⟩,by have:=j.p1;simp only;omega,by rw [zps (by omega)];exact j.pre⟩
theorem TrJ.next (j:TrJ σ k gh lo hi gp gs lo2 H G q S):TrJ σ (k+1) gh lo hi gp gs lo2 H G q S:=
 ⟨j.a,j.b,j.h,j.p,j.s,j.hh,j.h1,j.ss,⟨j.s1.1,by have:=j.s1.2;omega⟩,by have:=j.p1;omega,j.pre⟩
end
theorem zrM:∀ (f:Nat) {L:List (List UInt8)} {i:Nat} {l:List (List UInt8)},l.length<=f->zne L->(∀ x∈l,x.length<=1073741800)->zne (zbA f L i l).2/\∀ x∈(zbA f L i l).1, 0<=x/\x<=1048577
 | 0,L,i,l,hf,h,hx=>⟨by rw [zqs (by omega)];exact h,by rw [zqs (by omega)];simp⟩
 | f+1,L,i,l,hf,h,hx=>by
  by_cases h1:l.length<=1
  ·rw [zqs h1];exact ⟨h,by simp⟩
  ·have hs:=zcB (n:=l.length) (by omega)
   rw [proveA_2 (by omega)]
   split
   ·obtain ⟨g1,g2⟩:=zrM f (i:=i) (l:=l.take (zn l.length)) (by rw [List.length_take];omega) h fun x hm=>hx x (List.mem_of_mem_take hm)
    have g3:=zqp _ (L:=(zbA f L i (l.take (zn l.length))).2) (l:=l.drop (zn l.length)) (Nat.le_refl _) g1 fun x hm=>hx x (List.mem_of_mem_drop hm)
    have g4:=(zeu _ (L:=(zbA f L i (l.take (zn l.length))).2) (l:=l.drop (zn l.length)) (Nat.le_refl _) g1.len).2
    refine ⟨g3,fun x hm => ?_⟩
    rcases List.mem_append.1 hm with hm|hm
    ·exact g2 x hm
    ·simp only [List.mem_singleton] at hm;subst hm;exact g4
   ·obtain ⟨g1,g2⟩:=zrM f (i:=i-zn l.length) (l:=l.drop (zn l.length)) (by rw [List.length_drop];omega) h fun x hm=>hx x (List.mem_of_mem_drop hm)
    have g3:=zqp _ (L:=(zbA f L (i-zn l.length) (l.drop (zn l.length))).2) (l:=l.take (zn l.length)) (Nat.le_refl _) g1 fun x hm=>hx x (List.mem_of_mem_take hm)
    have g4:=(zeu _ (L:=(zbA f L (i-zn l.length) (l.drop (zn l.length))).2) (l:=l.take (zn l.length)) (Nat.le_refl _) g1.len).2
    refine ⟨g3,fun x hm => ?_⟩
    rcases List.mem_append.1 hm with hm|hm
    ·exact g2 x hm
    ·simp only [List.mem_singleton] at hm;subst hm;exact g4
theorem makeF_small {L:List (List UInt8)} {l:List zbL} {c:zeX} {t:List UInt8} {o:Int} (hL:zne L) (hb:∀ b∈l,zuk b) (hl:l.length<=536870912) (hc:c.signs.length<=536870912) (ht:t.length<=16777216) (ho:zjT o) :
  zfe (ziZ L l c t o).2.1/\(ziZ L l c t o).2.1.path.length<=1048576/\(ziZ L l c t o).2.1.headers.length<=536870912/\(ziZ L l c t o).2.1.cert.signs.length<=536870912/\zne (ziZ L l c t o).2.2:=by
 have h0:zfe zwe:=⟨by simp [zwe],by simp [zwe],by simp [zwe],by simp [zwe],by simp [zwe],by simp [zwe,zjT],by simp [zwe,zjT],by simp [zwe,zjT],by simp [zwe]⟩
 unfold ziZ
 split
 ·exact ⟨h0,by simp [zwe],by simp [zwe],by simp [zwe],hL⟩
 ·rename_i i k hf
  split
  ·exact ⟨h0,by simp [zwe],by simp [zwe],by simp [zwe],hL⟩
  ·rename_i hs hr
   obtain ⟨n0,b,hi0,hx,hk⟩:=zyC hf
   have hi:i=n0:=by omega
   subst hi
   have hbx:=hb b (List.mem_of_getElem? hx)
   have hg:l.getD i ⟨⟨0, 0, 0, 0, 0⟩,[],[]⟩=b:=by simp [List.getD,hx]
   have hlen:=runF_len hr
   rw [List.length_drop] at hlen
   simp only [hg]
   have hpl:∀ x∈b.placed.map zaL,x.length<=1073741800:=fun x hm=>by
    obtain ⟨p,hp,rfl⟩:=List.mem_map.1 hm
    have:=zlP (hbx.each p hp);omega
   obtain ⟨g1,g2⟩:=zrM b.placed.length (i:=k) (l:=b.placed.map zaL) (by simp) hL hpl
   have g3:=(zkQ b.placed.length (L:=L) (i:=k) (l:=b.placed.map zaL) (by simp) hL.len).2
   rw [List.length_map] at g3
   have g4:=hbx.len
   have hgk:b.placed.getD k ⟨[], 0,[]⟩∈b.placed:=by
    rw [show b.placed.getD k ⟨[], 0,[]⟩=b.placed[k] by simp [List.getD,List.getElem?_eq_getElem hk]]
    exact List.getElem_mem hk
   have g5:=hbx.each _ hgk
   refine ⟨⟨ht,g5.rec_,by simp only;omega,by simp only;omega,by simp only;omega,ho,?_,?_,fun x hm => ?_⟩,by omega,by omega,hc,g1⟩
   ·constructor<;>simp only<;>omega
   ·constructor<;>simp only<;>omega
   ·have:=g2 x hm;constructor<;>omega
structure TwI (w:TTwist):Prop where
 rec_:w.rec_.length<=16777216
 dig:zjT w.dig
structure PfI (k:Nat) (p:zbW):Prop where
 topic:p.topic.length<=16777216
 rec_:p.rec_.length<=16777216
 headers:p.headers.length<=536870912
 path:p.path.length<=536870912+k
 signs:p.cert.signs.length<=536870912+k
 off:zjT p.offset
 index:zjT p.index
 count:zjT p.count
 paths:∀ x∈p.path,zjT x
def tyHdr:List Ty := [.int .i64,.int .i64,.int .i64,.int .i64,.int .i64]
def tyCert:List Ty := [.int .i64,.int .i64,.slice zsE]
def tyProof:List Ty := [.str,.int .i64,.slice [.int .u8],.slice tyHdr,.int .i64,.int .i64,.slice [.int .i64],.int .i64,.int .i64,.slice zsE]
theorem dec_u16' {d:D} (h:zjW (.int .u16) d):∃ n:Nat,d = .int .u16 n/\n<65536:=by
 obtain ⟨n,rfl,h2⟩:=dec_int h
 have h':0<=n/\n<=65535:=by simpa [Lit.wf,IntKind.min,IntKind.max,IntKind.signed,IntKind.bits] using h2
 exact ⟨n.toNat,by rw [show ((n.toNat:Nat):Int)=n by omega],by omega⟩
theorem dec_hdr {ds:List D} (h:zcF tyHdr ds):∃ x:zdl,ds=ztT x/\zjT x.seq:=by
 obtain ⟨d1,ds,rfl,h1,h⟩:=zu h
 obtain ⟨d2,ds,rfl,h2,h⟩:=zu h
 obtain ⟨d3,ds,rfl,h3,h⟩:=zu h
 obtain ⟨d4,ds,rfl,h4,h⟩:=zu h
 obtain ⟨d5,ds,rfl,h5,h⟩:=zu h
 obtain rfl:=zet h
 obtain ⟨a1,rfl,k1⟩:=zaG h1
 obtain ⟨a2,rfl,_⟩:=zaG h2
 obtain ⟨a3,rfl,_⟩:=zaG h3
 obtain ⟨a4,rfl,_⟩:=zaG h4
 obtain ⟨a5,rfl,_⟩:=zaG h5
 exact ⟨⟨a1,a2,a3,a4,a5⟩,rfl,k1⟩
theorem dec_int1 {ds:List D} (h:zcF [.int .i64] ds):∃ x:Int,ds = [.int .i64 x]/\zjT x:=by
 obtain ⟨d1,ds,rfl,h1,h⟩:=zu h
 obtain rfl:=zet h
 obtain ⟨a1,rfl,k1⟩:=zaG h1
 exact ⟨a1,rfl,k1⟩
theorem zvh {d:D} (h:zjW (.slice zsE) d):∃ l:List zR,d = .slice (zaI l):=by
 obtain ⟨l,rfl⟩:=zfm (f:=zgz) h (fun e he=>(ztW he).imp fun _ h=>h.1)
 exact ⟨l,rfl⟩
theorem signs_bulk (l:List zR):l.length<=zdE (zaI l):=zdU (f:=zgz) (fun a=>by simp only [zgz,zcW,zfJ];omega) l
theorem dec_cert {ds:List D} (h:zcF tyCert ds) (hb:zcW ds<=1048576):∃ c:zeX,ds=certD c/\c.signs.length<=1048576:=by
 obtain ⟨d1,ds,rfl,h1,h⟩:=zu h
 obtain ⟨d2,ds,rfl,h2,h⟩:=zu h
 obtain ⟨d3,ds,rfl,h3,h⟩:=zu h
 obtain rfl:=zet h
 obtain ⟨a1,rfl,k1⟩:=zaG h1
 obtain ⟨a2,rfl,_⟩:=zaG h2
 obtain ⟨a3,rfl⟩:=zvh h3
 simp only [zcW,zfJ] at hb
 have:=signs_bulk a3
 exact ⟨⟨a1,a2,a3⟩,rfl,by simp only;omega⟩
structure PfS (p:zbW):Prop where
 small:zfe p
 path:p.path.length<=1048576
 headers:p.headers.length<=1048576
 signs:p.cert.signs.length<=1048576
theorem dec_proof {ds:List D} (h:zcF tyProof ds) (hb:zcW ds<=1048576):∃ p:zbW,ds=proofD p/\PfS p:=by
 obtain ⟨d1,ds,rfl,h1,h⟩:=zu h
 obtain ⟨d2,ds,rfl,h2,h⟩:=zu h
 obtain ⟨d3,ds,rfl,h3,h⟩:=zu h
 obtain ⟨d4,ds,rfl,h4,h⟩:=zu h
 obtain ⟨d5,ds,rfl,h5,h⟩:=zu h
 obtain ⟨d6,ds,rfl,h6,h⟩:=zu h
 obtain ⟨d7,ds,rfl,h7,h⟩:=zu h
 obtain ⟨d8,ds,rfl,h8,h⟩:=zu h
 obtain ⟨d9,ds,rfl,h9,h⟩:=zu h
 obtain ⟨d10,ds,rfl,h10,h⟩:=zu h
 obtain rfl:=zet h
 obtain ⟨a1,rfl⟩:=zvg h1
 obtain ⟨a2,rfl,k2⟩:=zaG h2
 obtain ⟨a3,rfl⟩:=zvi h3
 obtain ⟨a4,rfl⟩:=zfm (f:=ztT) h4 fun e he=>(dec_hdr he).imp fun _ h=>h.1
 obtain ⟨a5,rfl,k5⟩:=zaG h5
 obtain ⟨a6,rfl,k6⟩:=zaG h6
 obtain ⟨a7,rfl,k7⟩:=zxp (f:=fun x:Int => [D.int .i64 x]) h7 fun e he=>dec_int1 he
 obtain ⟨a8,rfl,k8⟩:=zaG h8
 obtain ⟨a9,rfl,k9⟩:=zaG h9
 obtain ⟨a10,rfl⟩:=zvh h10
 simp only [zcW,zfJ,zzp] at hb
 have b4:=zdU (f:=ztT) (fun a=>by simp only [ztT,zcW,zfJ];omega) a4
 have b7:=zdU (f:=fun x:Int => [D.int .i64 x]) (fun a=>by simp only [zcW,zfJ];omega) a7
 have b10:=signs_bulk a10
 refine ⟨⟨a1,a2,a3,a4,a5,a6,a7,⟨a8,a9,a10⟩⟩,rfl,⟨?_,?_,?_,?_,?_,k2,k5,k6,k7⟩,?_,?_,?_⟩<;>simp only<;>omega
structure okC (c:TCase):Prop where
 ops:∀ l∈c.bats, ∀ x∈l,zlI x.op<=20971520
 sum:(c.bats.map List.length).sum<=1048576
 voters:c.voters<65536
 topic:c.topic.length<=1048576
 offset:zjT c.offset
 tl:c.twists.length<=1048576
 twists:∀ w∈c.twists,TwI w
 bad:c.bad.length<=1048576
 f:zjT c.f
theorem dec_bool {d:D} (h:zjW .bool d):∃ b,d = .bool b:=by cases h with|bool b=>exact ⟨b,rfl⟩
def tyEntry:List Ty := [.int .i64,.int .i64,.slice ztO,.int .i64,.int .i64]
def tyM1:List Ty := [.int .i64,.int .i64,.int .i64,.int .i64,.int .i64,.int .i64,.int .i64,.int .i64,.int .i64,.slice ztO]
def tyM2:List Ty := [.slice tyChange,.slice tyEntry,.slice [.int .u8],.str,.int .i64]
def tyMsg:List Ty:=tyM1++(tyCert++(tyM2++(tyProof++zsE)))
theorem znf {b:List Ty}:∀ {a:List Ty} {ds:List D},zcF (a++b) ds->∃ x y,ds=x++y/\zcF a x/\zcF b y
 | [],ds,h=>⟨[],ds,rfl,⟨rfl,by simp⟩,h⟩
 | t::a,ds,h=>by
  obtain ⟨d,ds,rfl,h1,h⟩:=zu (t:=t) (ts:=a++b) h
  obtain ⟨x,y,rfl,h2,h3⟩:=znf (a:=a) h
  refine ⟨d::x,y,rfl,⟨by simp [h2.1],fun i t' d' ht hd => ?_⟩,h3⟩
  cases i with
  | zero=>simp only [List.getElem?_cons_zero,Option.some.injEq] at ht hd;subst ht;subst hd;exact h1
  | succ i=>exact h2.2 i t' d' (by simpa using ht) (by simpa using hd)
theorem dec_entry {ds:List D} (h:zcF tyEntry ds):∃ s:zmz,ds=zgT s:=by
 obtain ⟨d1,ds,rfl,h1,h⟩:=zu h
 obtain ⟨d2,ds,rfl,h2,h⟩:=zu h
 obtain ⟨d3,ds,rfl,h3,h⟩:=zu h
 obtain ⟨d4,ds,rfl,h4,h⟩:=zu h
 obtain ⟨d5,ds,rfl,h5,h⟩:=zu h
 obtain rfl:=zet h
 obtain ⟨a1,rfl,_⟩:=zaG h1
 obtain ⟨a2,rfl,_⟩:=zaG h2
 obtain ⟨a3,rfl⟩:=zfm (f:=zbX) h3 (fun e he=>(zsv he).imp fun _ h=>h.1)
 obtain ⟨a4,rfl,_⟩:=zaG h4
 obtain ⟨a5,rfl,_⟩:=zaG h5
 exact ⟨⟨a1,a2,a3,a4,a5⟩,rfl⟩
theorem okB_bulk {b:List zt} (h:zdE (zda b)<=1048576):okB b/\zkO b:=by
 have hl:=leB_bulk h
 refine ⟨⟨by have:=hl.1;omega,fun x hx => ?_⟩,by have:=hl.1;omega,fun x hx=>⟨by have:=(hl.2 x hx).1;omega,fun r hr=>by have:=(hl.2 x hx).2 r hr;omega⟩⟩
 have e:=zgx (l:=b) (f:=zbX) hx
 unfold zda at h
 simp only [zbX,zcW,zfJ] at e
 exact ⟨by omega,by omega,by have:=(hl.2 x hx).1;omega,fun r hr=>by have:=(hl.2 x hx).2 r hr;omega⟩
theorem okCh_bulk {c:zfK} (h:zcW (zdq c)<=1048576):okCh c/\zka c:=by
 simp only [zdq,zcW,zfJ] at h
 have b1:=signs_bulk c.cert.signs
 have b2:=zdU (f:=zjU) (fun a=>by simp only [zjU,zcW,zfJ];omega) c.above
 have e2:zdE (c.above.map zjU)=zdE (zqt c.above):=rfl
 have key:∀ p∈c.above,p.signs.length<=1048576/\okB p.batch/\zkO p.batch:=fun p hp=>by
  have e:=zgx (l:=c.above) (f:=zjU) hp
  simp only [zjU,zcW,zfJ] at e
  have b3:=signs_bulk p.signs
  exact ⟨by omega,okB_bulk (by omega)⟩
 exact ⟨⟨by omega,by omega,fun p hp=>⟨by have:=(key p hp).1;omega,(key p hp).2.1⟩⟩,by omega,by omega,fun p hp=>⟨by have:=(key p hp).1;omega,(key p hp).2.2⟩⟩
structure TM1 where
 kind:Int
 src:Int
 view:Int
 seq:Int
 dig:Int
 client:Int
 time:Int
 rerr:Int
 roff:Int
 batch:List zt
structure TM2 where
 changes:List zfK
 entries:List zmz
 state:List UInt8
 topic:List UInt8
 offset:Int
def m1D (m:TM1):List D := [.int .i64 m.kind,.int .i64 m.src,.int .i64 m.view,.int .i64 m.seq,.int .i64 m.dig,.int .i64 m.client,.int .i64 m.time,.int .i64 m.rerr,.int .i64 m.roff,.slice (zda m.batch)]
def m2D (m:TM2):List D := [.slice (zkl m.changes),.slice (zkh m.entries),.slice (bcs m.state),.str m.topic,.int .i64 m.offset]
theorem dec_m1 {ds:List D} (h:zcF tyM1 ds):∃ m:TM1,ds=m1D m:=by
 obtain ⟨d1,ds,rfl,h1,h⟩:=zu h
 obtain ⟨d2,ds,rfl,h2,h⟩:=zu h
 obtain ⟨d3,ds,rfl,h3,h⟩:=zu h
 obtain ⟨d4,ds,rfl,h4,h⟩:=zu h
 obtain ⟨d5,ds,rfl,h5,h⟩:=zu h
 obtain ⟨d6,ds,rfl,h6,h⟩:=zu h
 obtain ⟨d7,ds,rfl,h7,h⟩:=zu h
 obtain ⟨d8,ds,rfl,h8,h⟩:=zu h
 obtain ⟨d9,ds,rfl,h9,h⟩:=zu h
 obtain ⟨d10,ds,rfl,h10,h⟩:=zu h
 obtain rfl:=zet h
 obtain ⟨a1,rfl,_⟩:=zaG h1
 obtain ⟨a2,rfl,_⟩:=zaG h2
 obtain ⟨a3,rfl,_⟩:=zaG h3
 obtain ⟨a4,rfl,_⟩:=zaG h4
 obtain ⟨a5,rfl,_⟩:=zaG h5
 obtain ⟨a6,rfl,_⟩:=zaG h6
 obtain ⟨a7,rfl,_⟩:=zaG h7
 obtain ⟨a8,rfl,_⟩:=zaG h8
 obtain ⟨a9,rfl,_⟩:=zaG h9
 obtain ⟨a10,rfl⟩:=zfm (f:=zbX) h10 (fun e he=>(zsv he).imp fun _ h=>h.1)
 exact ⟨⟨a1,a2,a3,a4,a5,a6,a7,a8,a9,a10⟩,rfl⟩
theorem dec_m2 {ds:List D} (h:zcF tyM2 ds):∃ m:TM2,ds=m2D m:=by
 obtain ⟨d1,ds,rfl,h1,h⟩:=zu h
 obtain ⟨d2,ds,rfl,h2,h⟩:=zu h
 obtain ⟨d3,ds,rfl,h3,h⟩:=zu h
 obtain ⟨d4,ds,rfl,h4,h⟩:=zu h
 obtain ⟨d5,ds,rfl,h5,h⟩:=zu h
 obtain rfl:=zet h
 obtain ⟨a1,rfl⟩:=zfm (f:=zdq) h1 (fun e he=>(dec_change he).imp fun _ h=>h.1)
 obtain ⟨a2,rfl⟩:=zfm (f:=zgT) h2 (fun e he=>dec_entry he)
 obtain ⟨a3,rfl⟩:=zvi h3
 obtain ⟨a4,rfl⟩:=zvg h4
 obtain ⟨a5,rfl,_⟩:=zaG h5
 exact ⟨⟨a1,a2,a3,a4,a5⟩,rfl⟩
theorem dec_msg {ds:List D} (h:zcF tyMsg ds) (hb:zcW ds<=1048576):∃ m:zjF,ds=msgD m/\zdD m:=by
 obtain ⟨x1,ds,rfl,h1,h⟩:=znf h
 obtain ⟨x2,ds,rfl,h2,h⟩:=znf h
 obtain ⟨x3,ds,rfl,h3,h⟩:=znf h
 obtain ⟨x4,x5,rfl,h4,h5⟩:=znf h
 simp only [zsX] at hb
 obtain ⟨m1,rfl⟩:=dec_m1 h1
 obtain ⟨c,rfl,hc⟩:=dec_cert h2 (by omega)
 obtain ⟨m2,rfl⟩:=dec_m2 h3
 obtain ⟨p,rfl,hp⟩:=dec_proof h4 (by omega)
 obtain ⟨g,rfl,_⟩:=ztW h5
 have b1:zcW (m1D m1)<=1048576:=by omega
 have b2:zcW (m2D m2)<=1048576:=by omega
 clear hb h h1 h2 h3 h4 h5
 refine ⟨⟨m1.kind,m1.src,m1.view,m1.seq,m1.dig,m1.client,m1.time,m1.rerr,m1.roff,m1.batch,c,m2.changes,m2.entries,m2.state,m2.topic,m2.offset,p,g.key,g.dig⟩,rfl,?_⟩
 simp only [m1D,zcW,zfJ] at b1
 simp only [m2D,zcW,zfJ,zzp] at b2
 have b10:=okB_bulk (b:=m1.batch) (by omega)
 have b14:=zdU (f:=zdq) (fun a=>by simp only [zdq,zcW,zfJ];omega) m2.changes
 have b15:=zdU (f:=zgT) (fun a=>by simp only [zgT,zcW,zfJ];omega) m2.entries
 have e14:zdE (m2.changes.map zdq)=zdE (zkl m2.changes):=rfl
 have e15:zdE (m2.entries.map zgT)=zdE (zkh m2.entries):=rfl
 refine ⟨b10.1,b10.2,?_,?_,fun y hy => ?_,?_,fun x hx => ?_,hp.small,?_,?_⟩
 ·simp only;omega
 ·simp only;omega
 ·have e:=zgx (l:=m2.changes) (f:=zdq) hy
  exact okCh_bulk (by omega)
 ·simp only;omega
 ·have e:=zgx (l:=m2.entries) (f:=zgT) hx
  simp only [zgT,zcW,zfJ] at e
  exact okB_bulk (by omega)
 ·simp only;omega
 ·simp only;omega
structure TAct where
 do_:Int
 offset:Int
 turn:Bool
 m:zjF
abbrev actD (a:TAct):List D := .int .i64 a.do_::.int .i64 a.offset::.bool a.turn::msgD a.m
abbrev actsE (l:List TAct):List (List D):=l.map actD
def tyAct:List Ty := .int .i64::.int .i64::.bool::tyMsg
structure TCas where
 f:Int
 me:Int
 topic:List UInt8
 offset:Int
 recs:List (List UInt8)
 voters:Nat
 bad:List zR
 acts:List TAct
def tyCas:List Ty := [.int .i64,.int .i64,.str,.int .i64,.slice [.slice [.int .u8]],.int .u16,.slice zsE,.slice tyAct]
abbrev casD (c:TCas):List D := [.int .i64 c.f,.int .i64 c.me,.str c.topic,.int .i64 c.offset,.slice (zbY c.recs),.int .u16 c.voters,.slice (zaI c.bad),.slice (actsE c.acts)]
abbrev zpb (c:TCas):List AV:=(casD c).map .d
def actOk (a:TAct):Prop:=zjT a.offset/\zdD a.m
structure casOk (c:TCas):Prop where
 f:zjT c.f
 me:zjT c.me
 topic:c.topic.length<=1048576
 offset:zjT c.offset
 recs:c.recs.length<=1048576
 each:∀ r∈c.recs,r.length<=1048576
 voters:c.voters<65536
 bad:c.bad.length<=1048576
 many:c.acts.length<=1048576
 acts:∀ a∈c.acts,actOk a
theorem dec_act {ds:List D} (h:zcF tyAct ds) (hb:zcW ds<=1048576):∃ a:TAct,ds=actD a/\actOk a:=by
 obtain ⟨d1,ds,rfl,h1,h⟩:=zu h
 obtain ⟨d2,ds,rfl,h2,h⟩:=zu h
 obtain ⟨d3,ds,rfl,h3,hm⟩:=zu h
 clear h
 obtain ⟨a1,rfl,_⟩:=zaG h1
 obtain ⟨a2,rfl,k2⟩:=zaG h2
 obtain ⟨a3,rfl⟩:=dec_bool h3
 obtain ⟨m,rfl,hs⟩:=dec_msg hm (by simp only [zcW] at hb;omega)
 exact ⟨⟨a1,a2,a3,m⟩,rfl,k2,hs⟩
theorem dec_acts {d:D} (h:zjW (.slice tyAct) d) (hb:zfJ d<=1048576):∃ l:List TAct,d = .slice (actsE l)/\(∀ a∈l,actOk a)/\l.length<=1048576:=by
 cases h with
 | slice _ es h1 h2 h3=>
  simp only [zfJ] at hb
  have:∀ l:List (List D),(∀ e∈l,zcF tyAct e)->zdE l<=1048576->∃ as_:List TAct,l=as_.map actD/\(∀ a∈as_,actOk a):=by
   intro l
   induction l with
   | nil=>intro _ _;exact ⟨[],rfl,by simp⟩
   | cons e l ih=>
    intro hl hb
    simp only [zdE] at hb
    obtain ⟨a,rfl,ha⟩:=dec_act (hl e (.head _)) (by omega)
    obtain ⟨as_,rfl,has⟩:=ih (fun e he=>hl e (.tail _ he)) (by omega)
    exact ⟨a::as_,rfl,by simpa using ⟨ha,has⟩⟩
  obtain ⟨as_,rfl,h4⟩:=this es (fun e he=>⟨h2 e he,h3 e he⟩) (by omega)
  have b7:=zdU (f:=actD) (fun a=>by simp only [actD,zcW,zfJ];omega) as_
  exact ⟨as_,rfl,h4,by omega⟩
theorem dec_cas {ds:List D} (h:zcF tyCas ds) (hb:zcW ds<=1048576):∃ c,ds=casD c/\casOk c:=by
 obtain ⟨d1,ds,rfl,h1,h⟩:=zu h
 obtain ⟨d2,ds,rfl,h2,h⟩:=zu h
 obtain ⟨d3,ds,rfl,h3,h⟩:=zu h
 obtain ⟨d4,ds,rfl,h4,h⟩:=zu h
 obtain ⟨d5,ds,rfl,h5,h⟩:=zu h
 obtain ⟨d6,ds,rfl,h6,h⟩:=zu h
 obtain ⟨d7,ds,rfl,h7,h⟩:=zu h
 obtain ⟨d8,ds,rfl,h8,h⟩:=zu h
 obtain rfl:=zet h
 obtain ⟨a1,rfl,k1⟩:=zaG h1
 obtain ⟨a2,rfl,k2⟩:=zaG h2
 obtain ⟨a3,rfl⟩:=zvg h3
 obtain ⟨a4,rfl,k4⟩:=zaG h4
 obtain ⟨a5,rfl⟩:=dec_recs h5
 obtain ⟨a6,rfl,k6⟩:=dec_u16' h6
 obtain ⟨a7,rfl⟩:=zvh h7
 simp only [zcW] at hb
 obtain ⟨a8,rfl,k8,k9⟩:=dec_acts h8 (by omega)
 simp only [zfJ] at hb
 have b5:=zpd a5
 have b7:=signs_bulk a7
 refine ⟨⟨a1,a2,a3,a4,a5,a6,a7,a8⟩,rfl,k1,k2,?_,k4,?_,fun r hr => ?_,k6,?_,k9,k8⟩
 ·simp only;omega
 ·have:=b5.1;simp only;omega
 ·have:=b5.2 r hr;omega
 ·simp only;omega
end Go.Proofs.YtfgbofkdhfjegaaGreat
