/- What is taken as proved was put: where all but f have signed checkpoints of these blocks alone. No program in sight. -/
import Derived.Test.YtncpaekiidpchaaGreatHi1
import Derived.Test.YtncpaekiidpchaaGreatBt1
import Derived.Test.YtncpaekiidpchaaGreatPt2
import Derived.Test.YtncpaekiidpchaaGreatCodec1
set_option linter.all false
set_option maxRecDepth 100000
namespace Go.Proofs.YtncpaekiidpchaaGreat
open Go.AW
theorem fstE_all : ∀ {l : List Int},zeM l = 0 → ∀ e ∈ l,e = 0
 | [],_,e,h => by cases h
 | x :: r,h,e,he => by
  simp only [zeM] at h
  split at h
  ·rename_i hx; exact absurd h hx
  ·rename_i hx
   rcases List.mem_cons.1 he with rfl | he
   ·exact Classical.not_not.1 hx
   ·exact fstE_all h e he
theorem zug {a b : zcJ} (ha : zfH a = true) (hb : zfH b = true) (h : zlG a = zlG b) : a = b := by
 have ra := zdI ha; have rb := zdI hb
 simp only [zlG,zji,zfE,List.map_cons,List.map_nil,List.flatten_cons,List.flatten_nil,List.append_nil,List.cons.injEq,true_and] at h
 have a1 := ra a.seq (by simp [zji]); have a2 := ra a.prev (by simp [zji]); have a3 := ra a.batch (by simp [zji]); have a4 := ra a.root (by simp [zji]); have a5 := ra a.state (by simp [zji])
 have b1 := rb b.seq (by simp [zji]); have b2 := rb b.prev (by simp [zji]); have b3 := rb b.batch (by simp [zji]); have b4 := rb b.root (by simp [zji]); have b5 := rb b.state (by simp [zji])
 obtain ⟨e1,h⟩ := zdc (by omega) (by omega) h
 obtain ⟨e2,h⟩ := zdc (by omega) (by omega) h
 obtain ⟨e3,h⟩ := zdc (by omega) (by omega) h
 obtain ⟨e4,h⟩ := zdc (by omega) (by omega) h
 have h' : zbO a.state.toNat ++ [] = zbO b.state.toNat ++ [] := by simpa using h
 obtain ⟨e5,_⟩ := zdc (by omega) (by omega) h'
 obtain ⟨x1,x2,x3,x4,x5⟩ := a
 obtain ⟨y1,y2,y3,y4,y5⟩ := b
 simp only at *
 simp only [zcJ.mk.injEq]
 omega
theorem placedB_inj {a b : zaU} (ha : a.topic.length ≤ 16777216 ∧ a.rec_.length ≤ 16777216 ∧ 0 ≤ a.offset ∧ a.offset ≤ 9007199254740992) (hb : b.topic.length ≤ 16777216 ∧ b.rec_.length ≤ 16777216 ∧ 0 ≤ b.offset ∧ b.offset ≤ 9007199254740992) (h : zao a = zao b) : a = b := by
 simp only [zao] at h
 obtain ⟨e1,h⟩ := putB_pre (by omega) (by omega) h
 obtain ⟨e2,h⟩ := zdc (by omega) (by omega) h
 have h' : zlz a.rec_ ++ [] = zlz b.rec_ ++ [] := by simpa using h
 obtain ⟨e3,_⟩ := putB_pre (by omega) (by omega) h'
 obtain ⟨x1,x2,x3⟩ := a
 obtain ⟨y1,y2,y3⟩ := b
 simp only at *
 simp only [zaU.mk.injEq]
 exact ⟨e1,by omega,e3⟩
theorem ChI_mem {L : List (List UInt8)} : ∀ {bs : List zbM} {g : zcJ} {b : zbM},ChI L g bs → b ∈ bs → ∃ q,(q = g ∨ ∃ b' ∈ bs,q = b'.header) ∧ LinkI L q b.header
 | c :: r,g,b,h,hb => by
  rcases List.mem_cons.1 hb with rfl | hb
  ·exact ⟨g, .inl rfl,h.1⟩
  ·obtain ⟨q,h1,h2⟩ := ChI_mem h.2 hb
   refine ⟨q, .inr ?_,h2⟩
   rcases h1 with rfl | ⟨b',h3,h4⟩
   ·exact ⟨c,by simp,rfl⟩
   ·exact ⟨b',List.mem_cons_of_mem _ h3,h4⟩
theorem link_num {L : List (List UInt8)} {q h : zcJ} (hl : linkF L (some q) h = true) : zdU L (zlG q) h.prev ∧ h.seq = q.seq + 1 := by
 simp only [linkF] at hl
 split at hl
 ·rename_i i hi
  simp only [Bool.and_eq_true,beq_iff_eq] at hl
  exact ⟨⟨i,hi,hl.1⟩,hl.2⟩
 ·simp at hl
theorem ztl {L0 L : List (List UInt8)} {g : zcJ} {bs : List zbM} (hp : L0 <+: L) (hc : ChI L0 g bs) (hg : zfH g = true) (hg0 : g.seq = 0) (hb : ∀ b ∈ bs,zfH b.header = true) :
  ∀ (hs : List zcJ) (q : Option zcJ),zkY L q hs = true → (∀ h ∈ hs, 1 ≤ h.seq) → ∀ h1,hs.getLast? = some h1 → (∃ b ∈ bs,h1 = b.header) → ∃ b ∈ bs,hs.head? = some b.header
 | [],_,_,_,h1,hl,_ => by simp at hl
 | [h],_,_,_,h1,hl,⟨b,h2,h3⟩ => by
  simp only [List.getLast?_singleton,Option.some.injEq] at hl
  exact ⟨b,h2,by rw [← h3, ← hl]; rfl⟩
 | h :: h2 :: r,q,hch,hseq,h1,hl,hb1 => by
  simp only [zkY,Bool.and_eq_true] at hch
  obtain ⟨o1,_,o2,hlk,o3⟩ := hch
  have hrest : zkY L (some h) (h2 :: r) = true := by simp only [zkY,Bool.and_eq_true]; exact ⟨o2,hlk,o3⟩
  obtain ⟨b,hbm,hbe⟩ := ztl hp hc hg hg0 hb (h2 :: r) (some h) hrest (fun x hx => hseq x (List.mem_cons_of_mem _ hx)) h1 (by rw [← hl,List.getLast?_cons_cons]) hb1
  simp only [List.head?_cons,Option.some.injEq] at hbe
  obtain ⟨n1,_⟩ := link_num hlk
  obtain ⟨q',hq,n2,_⟩ := ChI_mem hc hbm
  rw [hbe] at n1
  have e := n1.inj (n2.pre hp)
  rcases hq with rfl | ⟨b',h3,rfl⟩
  ·have := zug o1 hg e
   have h5 := hseq h (by simp)
   rw [this,hg0] at h5
   omega
  ·exact ⟨b',h3,by rw [zug o1 (hb b' h3) e]; rfl⟩
theorem zsB {f seq d : Int} : ∀ {l : List zJ} {p : Option zJ},zqL f seq d p l = true → (l.map zJ.key).Nodup ∧ (∀ s ∈ l, 0 ≤ s.key ∧ s.key < zcn 3 f) ∧ ∀ q,p = some q → ∀ s ∈ l,q.key < s.key
 | [],_,_ => by simp
 | s :: r,p,h => by
  simp only [zqL,Bool.and_eq_true] at h
  obtain ⟨h1,h2,h3⟩ := h
  obtain ⟨g1,g2,g3⟩ := zsB h3
  have g3 := g3 s rfl
  have hk : 0 ≤ s.key ∧ s.key < zcn 3 f := by
   simp only [zoL,Bool.and_eq_true,decide_eq_true_eq] at h1
   omega
  refine ⟨?_,fun x hx => ?_,fun q hq x hx => ?_⟩
  ·rw [List.map_cons,List.nodup_cons]
   refine ⟨fun hm => ?_,g1⟩
   obtain ⟨x,hx,he⟩ := List.mem_map.1 hm
   have := g3 x hx
   omega
  ·rcases List.mem_cons.1 hx with rfl | hx
   ·exact hk
   ·exact g2 x hx
  ·subst hq
   simp only [Bool.not_eq_true',decide_eq_false_iff_not] at h2
   rcases List.mem_cons.1 hx with rfl | hx
   ·omega
   ·have := g3 x hx; omega
theorem one_good {f : Nat} {A : List Int} {bad : Int → Bool} (hA : A.Nodup) (rA : ∀ x ∈ A, 0 ≤ x ∧ x < ((3 * f + 1 : Nat) : Int)) (lA : 2 * f + 1 ≤ A.length) (hf : (zfk (3 * f + 1)).countP bad ≤ f) : ∃ k ∈ A,bad k = false := by
 obtain ⟨k,h1,_,h2⟩ := quo_meet hA hA rA rA lA lA hf
 exact ⟨k,h1,h2⟩
theorem sound_plain {ks : List Int} {g : zcJ} {s : zed} {L : List (List UInt8)} {G : List zJ} {f : Int} {z : Int → Bool} {p : zaO} (h : HistI ks g s) (hg : g.seq = 0 ∧ zfH g = true) (hp : s.L <+: L) (hL : L.length ≤ 1048576)
  (hG : ∀ x ∈ G,x ∈ s.G ∨ z x.key = true) (h0 : zdp f = 0) (hz : (zfk (3 * f.toNat + 1)).countP z ≤ f.toNat) (hs : zdT p) (hv : zlP L G f p = 0) :
  ∃ b ∈ s.bs, ∃ r ∈ b.placed,r = zsh p := by
 have hf : ¬ (f < 1 ∨ f > 4) := fun e => by rw [zdp,if_pos e] at h0; simp at h0
 have hf3 : zcn 3 f = 3 * f + 1 := by rw [zcn,if_neg hf]
 have hf2 : zcn 2 f = 2 * f + 1 := by rw [zcn,if_neg hf]
 unfold zlP at hv
 rw [if_neg (by simp [h0])] at hv
 split at hv
 ·rename_i e; exact absurd hv e
 rename_i c1
 have c1 : zeE p = 0 := Classical.not_not.1 c1
 split at hv
 ·simp at hv
 rename_i c2
 have c2 : zer L p = true := by simpa using c2
 split at hv
 ·simp at hv
 rename_i c3
 have c3 : zrx L G f p.cert = true := by simpa using c3
 split at hv
 ·simp at hv
 rename_i c4
 have c4 : zgU L (rootP p) (zao (zsh p)) p.index p.count p.path = true := by simpa using c4
 -- the chain
 unfold zer at c2
 split at c2
 ·simp at c2
 rename_i h1 hlast
 simp only [Bool.and_eq_true] at c2
 obtain ⟨hch,hlf⟩ := c2
 unfold lastF at hlf
 split at hlf
 rotate_left
 ·simp at hlf
 rename_i i1 hi1
 simp only [Bool.and_eq_true,beq_iff_eq] at hlf
 have n1 : zdU L (zlG h1) p.cert.dig := ⟨i1,hi1,hlf.1.symm⟩
 -- the certificate
 simp only [zrx,Bool.and_eq_true,List.all_eq_true] at c3
 obtain ⟨_,hmc,hall⟩ := c3
 simp only [zgH,Bool.or_eq_true,Bool.and_eq_true,decide_eq_true_eq] at hmc
 have hmc : (p.cert.signs.length : Int) ≥ zcn 2 f ∧ zqL f p.cert.seq p.cert.dig none p.cert.signs = true := by
  rcases hmc with hz0 | hmc
  ·simp only [zeroC,Bool.and_eq_true,beq_iff_eq] at hz0
   have := n1.pos
   omega
  ·exact hmc
 obtain ⟨k1,k2,_⟩ := zsB hmc.2
 obtain ⟨k,hk,hkz⟩ := one_good (f := f.toNat) (A := p.cert.signs.map zJ.key) (bad := z) k1 (fun x hx => by
  obtain ⟨y,hy,rfl⟩ := List.mem_map.1 hx
  have := k2 y hy; omega) (by rw [List.length_map]; omega) hz
 obtain ⟨x,hx,rfl⟩ := List.mem_map.1 hk
 have hxk := k2 x hx
 have hvx := hall x hx
 simp only [zph,Bool.and_eq_true] at hvx
 obtain ⟨hmay,hsg⟩ := hvx
 unfold zkv at hsg
 split at hsg
 rotate_left
 ·simp at hsg
 rename_i i2 hi2
 simp only [Bool.and_eq_true,decide_eq_true_eq] at hsg
 have n2 : zdU L (zdC 6 0 p.cert.seq p.cert.dig) x.dig := ⟨i2,hi2,hsg.1.2⟩
 have hxG : x ∈ s.G := by
  rcases hG x hsg.2 with e | e
  ·exact e
  ·rw [hkz] at e; cases e
 obtain ⟨c,hc,n3⟩ : ∃ c ∈ s.cs,zdU s.L (zdC 6 0 c.seq c.dig) x.dig := by
  rcases h.sg x hxG with e | e
  ·omega
  ·exact e
 obtain ⟨⟨b1,hb1,hcs,n4⟩,_,_⟩ := h.crt c hc
 have hcp := n4.pos
 have hple := hp.length_le
 have hbs := zdI (h.blk b1 hb1).ok b1.header.seq (by simp [zji])
 have hmayc : zmM 6 0 c.seq c.dig = true := by
  simp only [zmM,Bool.and_eq_true,zdl]; omega
 obtain ⟨_,_,e1,e2⟩ := voteB_inj hmayc hmay ((n3.pre hp).inj n2)
 rw [← e2] at n1
 have hd := n1.inj (n4.pre hp)
 have hoks := zrw hch
 have hh1 : h1 ∈ p.headers := List.mem_of_getLast? hlast
 have hhb := zug (hoks h1 hh1) (h.blk b1 hb1).ok hd
 -- what the asking says
 have hall0 := fstE_all c1
 have hpos : ∀ x ∈ p.headers, 1 ≤ x.seq := fun x hx => by
  have : posE x.seq = 0 := hall0 _ (by
   simp only [znk,List.mem_append]
   refine .inr (.inl (List.mem_flatten.2 ⟨zjP x,List.mem_map.2 ⟨x,hx,rfl⟩,by simp [zjP]⟩)))
  exact (inE_0 this).1
 have hoff : 0 ≤ p.offset ∧ p.offset ≤ 9007199254740992 := numE_0 (hall0 _ (by simp [znk,zfD]))
 obtain ⟨b,hb,hbh⟩ := ztl hp h.ch hg.2 hg.1 (fun b hb => (h.blk b hb).ok) p.headers none hch hpos h1 hlast ⟨b1,hb1,hhb⟩
 have hroot : rootP p = b.header.root := by
  unfold rootP
  split
  ·rename_i e; rw [e] at hbh; simp at hbh
  ·rename_i x r e; rw [e] at hbh; simp only [List.head?_cons,Option.some.injEq] at hbh; rw [hbh]
 have hR := (h.blk b hb).root.pre hp
 unfold zgU at c4
 split at c4
 ·simp at c4
 simp only [Bool.and_eq_true,beq_iff_eq] at c4
 rw [hroot] at c4
 have hm := zrv p.count.toNat (b := zao (zsh p)) (i := p.index.toNat) (n := p.count.toNat) (p := p.path) hL hR (fun x hx => by have := (hs.paths x hx).2; omega) (Prod.ext c4.2 c4.1)
 obtain ⟨r,hr,he⟩ := List.mem_map.1 hm
 have hpl := ((h.blk b hb).pl r hr).1
 exact ⟨b,hb,r,hr,placedB_inj ⟨by have := hpl.2.2.1; omega,by have := hpl.2.2.2; omega,hpl.1,hpl.2.1⟩ ⟨hs.topic,hs.rec_,hoff⟩ he⟩
end Go.Proofs.YtncpaekiidpchaaGreat

/- Contract: whether a block has put what a proof names. -/
set_option maxRecDepth 100000
namespace Go.Proofs.YtncpaekiidpchaaGreat
open Go.AW
def zqa (p : zaO) (r : zaU) : Bool := (r.topic == p.topic) && ((r.offset == p.offset) && (r.rec_ == p.rec_))
theorem any_next {α : Type} {f : α → Bool} {l : List α} {k : Nat} {x : α} (h : l[k]? = some x) : (l.take (k + 1)).any f = ((l.take k).any f || f x) := by
 rw [List.take_add_one,h]; simp
theorem any_hit {α : Type} {f : α → Bool} {l : List α} {k : Nat} {x : α} (h : l[k]? = some x) (hx : f x = true) : l.any f = true := List.any_eq_true.2 ⟨x,List.mem_of_getElem? h,hx⟩
theorem c_put {σ : List zg} {w n1 n2 n3 n4 : Nat} {bs : List zbM} {c : AV} {p : zaO} (hw : σ[w]? = some (.box [.box n1 0, .box n2 0, .box n3 0, .box n4 0, .d (.slice (zcl bs)),c])) (hl0 : bs.length ≤ 1073741824) (hb : ∀ b ∈ bs,zmy b) {K : KT}
  (hK : K (.d (.bool (bs.any fun b => b.placed.any (zqa p)))) σ) : zE Tryz.prog zhe [.box w 0,zgb p] σ K := by
 refine zi zkV.is rfl fun hl _ => zkV.goes ?_
 have hbl : (zcl bs).length = bs.length := List.length_map ..
 have hw' : ∀ τ,(σ ++ τ)[w]? = _ := fun τ => zf hw
 simp only [zlo,iN,bT,bF,eN,zgb]
 (repeat' first | refine gq2 hw' ?_ | with_reducible first | exact ⟨⟩ | refine zh ?_ | fail)
 refine zG bs.length (fun k vs s => vs = [.d (.int .i64 k)] ∧ (∃ T,s = σ ++ T) ∧ s[σ.length]? = some (zhI p) ∧ ((bs.take k).any fun b => b.placed.any (zqa p)) = false) ⟨rfl,⟨[zhI p],rfl⟩,by rw [zy]; rfl,by simp⟩ ?_
 rintro k vs S hk ⟨rfl,⟨T,hT⟩,g0,hno⟩
 have g0' : ∀ τ,(S ++ τ)[σ.length]? = some (zhI p) := fun τ => zf g0
 by_cases hlt : k < bs.length
 ·have hd : decide ((k : Int) < (bs.length : Int)) = true := by simp; omega
  have hx : bs[k]? = some bs[k] := by simp [hlt]
  have hbx := hb _ (List.getElem_mem hlt)
  have hgx := zae (f := znO) hx
  obtain ⟨b,hbe⟩ : ∃ b,bs[k] = b := ⟨_,rfl⟩
  rw [hbe] at hx hgx hbx
  have hpl : (zco b.placed).length = b.placed.length := List.length_map ..
  have hpl2 := hbx.len
  (repeat' first | refine gq2 (zd hd (zd hgx hbl)) ?_ | with_reducible first | exact ⟨⟩ | refine zh ?_ | fail)
  refine zG b.placed.length (fun j vs s => vs = [.d (.int .i64 j)] ∧ (∃ T,s = σ ++ T) ∧ s[σ.length]? = some (zhI p) ∧ ((b.placed.take j).any (zqa p)) = false) ⟨rfl,⟨_,by rw [hT,List.append_assoc]⟩,g0' _,by simp⟩ ?_
  rintro j vs S2 hj ⟨rfl,⟨T2,hT2⟩,g2,hno2⟩
  have g2' : ∀ τ,(S2 ++ τ)[σ.length]? = some (zhI p) := fun τ => zf g2
  by_cases hjl : j < b.placed.length
  ·have hd : decide ((j : Int) < (b.placed.length : Int)) = true := by simp; omega
   have hy : b.placed[j]? = some b.placed[j] := by simp [hjl]
   have hgy := zae (f := zmB) hy
   obtain ⟨r,hre⟩ : ∃ r,b.placed[j] = r := ⟨_,rfl⟩
   rw [hre] at hy hgy
   have hnx := any_next (f := zqa p) hy
   rw [hno2,Bool.false_or] at hnx
   have next : zqa p r = false → ∀ U,zav b.placed.length (fun j vs s => vs = [.d (.int .i64 j)] ∧ (∃ T,s = σ ++ T) ∧ s[σ.length]? = some (zhI p) ∧ ((b.placed.take j).any (zqa p)) = false) j [.d (.int .i64 ((j + 1 : Nat) : Int))] (S2 ++ U) := fun h U =>
    zav.next hjl ⟨rfl,⟨_,by rw [hT2,List.append_assoc]⟩,g2' _,by rw [hnx,h]⟩
   cases e1 : (r.topic == p.topic)
   ·(repeat' first | refine gq2 (zd hd (zd hgy (zd hpl (zd g2' (zd e1 (wkc j (by omega))))))) ?_ | with_reducible first | exact ⟨⟩ | refine zh ?_ | fail)
    exact next (by simp [zqa,e1]) _
   ·cases e2 : (r.offset == p.offset)
    ·(repeat' first | refine gq2 (zd hd (zd hgy (zd hpl (zd g2' (zd e1 (zd e2 (wkc j (by omega)))))))) ?_ | with_reducible first | exact ⟨⟩ | refine zh ?_ | fail)
     exact next (by simp [zqa,e2]) _
    ·(repeat' first | refine gq2 (zd hd (zd hgy (zd hpl (zd g2' (zd e1 e2))))) ?_ | with_reducible first | exact ⟨⟩ | refine zh ?_ | fail)
     refine zuB (a := r.rec_) (b := p.rec_) ?_
     cases e3 : (r.rec_ == p.rec_)
     ·(repeat' first | refine gq2 (wkc j (by omega)) ?_ | with_reducible first | exact ⟨⟩ | refine zh ?_ | fail)
      exact next (by simp [zqa,e3]) _
     ·(repeat' first | refine gq1 ?_ | with_reducible first | exact ⟨⟩ | refine zh ?_ | fail)
      rw [any_hit hx (any_hit hy (by simp [zqa,e1,e2,e3]))] at hK
      subst hT2
      rw [List.append_assoc]
      (first | refine zar hl ?_ | refine zaq hl ?_)
      exact hK
  ·have hd : decide ((j : Int) < (b.placed.length : Int)) = false := by simp; omega
   rw [show b.placed.take j = b.placed from List.take_of_length_le (by omega)] at hno2
   (repeat' first | refine gq2 (zd hd (zd hpl (wkc k (by omega)))) ?_ | with_reducible first | exact ⟨⟩ | refine zh ?_ | fail)
   refine zav.next hlt ⟨rfl,⟨T2,hT2⟩,g2, ?_⟩
   rw [any_next hx,hno,hno2]; rfl
 ·have hd : decide ((k : Int) < (bs.length : Int)) = false := by simp; omega
  rw [show bs.take k = bs from List.take_of_length_le (by omega)] at hno
  rw [hno] at hK
  (repeat' first | refine gq2 (zd hd hbl) ?_ | with_reducible first | exact ⟨⟩ | refine zh ?_ | fail)
  subst hT
  (first | refine zar hl ?_ | refine zaq hl ?_)
  exact hK
end Go.Proofs.YtncpaekiidpchaaGreat
