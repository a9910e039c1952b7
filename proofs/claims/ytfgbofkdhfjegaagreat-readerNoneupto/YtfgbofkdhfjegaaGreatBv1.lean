/- What chapter 25 begins with: one request a block, then who signs what was checked. No program in sight. -/
import Derived.Test.YtfgbofkdhfjegaaGreatHi1
import Derived.Test.YtfgbofkdhfjegaaGreatBt1
import Derived.Test.YtfgbofkdhfjegaaGreatId2
set_option linter.all false
set_option maxRecDepth 100000
namespace Go.Proofs.YtfgbofkdhfjegaaGreat
open Go.AW
def exX (s : zaP) (b : List zq) : zaP :=
 if (zdl s.L s.T s.h b).e ≠ 0 then { s with L := (zdl s.L s.T s.h b).L,T := (zdl s.L s.T s.h b).T }
 else ⟨(zdl s.L s.T s.h b).L,s.G,(zdl s.L s.T s.h b).h,(zdl s.L s.T s.h b).T,s.bs ++ [⟨(zdl s.L s.T s.h b).h,b,(zdl s.L s.T s.h b).p⟩],s.cs⟩
def slX (s : zaP) (x : zq) : zaP := { s with L := zpW s.L x,G := zsg s.L s.G x }
def blX (s : zaP) (x : zq) : zaP := if ztN s.L x = 0 then exX (slX s x) [zlW s.L x] else slX s x
def crV (ks : List Int) (s : zaP) (h : zcS) : List (List UInt8) × List zI × List zI := ks.foldl (voR h.seq (zlf s.L h)) (zeF s.L h,s.G, [])
def crX (ks : List Int) (s : zaP) (h : zcS) : zaP :=
 if h.seq.tmod 4 ≠ 0 then { s with L := zeF s.L h }
 else { s with L := (crV ks s h).1,G := (crV ks s h).2.1,cs := s.cs ++ [⟨h.seq,zlf s.L h,(crV ks s h).2.2⟩] }
def bgB (rs : List zq) : zaP := rs.foldl blX st0
def bgF (ks : List Int) (rs : List zq) : zaP := ((bgB rs).bs.map zbx.header).foldl (crX ks) (bgB rs)
theorem StI.mono {N m N' m' : Nat} {s : zaP} (h : StI N m s) (h1 : N ≤ N') (h2 : m ≤ m') : StI N' m' s :=
 ⟨h.tab,Nat.le_trans h.led h1,h.ledI,h.tops,h.last,h.last8,h.bs,Nat.le_trans h.bl h2,h.cs,Nat.le_trans h.cl h2⟩
theorem stI_sl {N m : Nat} {s : zaP} {x : zq} (h : StI N m s) (hx : zkF x.op ≤ 20971520) : StI (N + 1) m (slX s x) := by
 have h1 := seI (n := s.G.length) (m := 0) (s := (s.L,s.G, [])) (r := x) ⟨h.tab,Nat.le_refl _,by simp,by simp⟩ hx
 have h2 : LedI (seR (s.L,s.G, []) x).2.1 := ledSe (l := [x]) (s := (s.L,s.G, [])) h.ledI
 have h3 := h.led
 have h4 := h1.led
 exact ⟨h1.tab,by simp only [slX]; simp only [seR] at h4; omega,h2,h.tops,h.last,h.last8,h.bs,h.bl,h.cs,h.cl⟩
theorem sealS_op {L : List (List UInt8)} {x : zq} (h : ztN L x = 0) : zlW L x = ⟨x.client,x.time,x.op,keyF x.client,zdw L (zrK x)⟩ := by rw [zlW,if_pos h]
theorem stI_ex {N m : Nat} {s : zaP} {b : List zq} (h : StI N m s) (hx : ∀ x ∈ b,zkF x.op ≤ 20971520) : StI N (m + 1) (exX s b) := by
 obtain ⟨e1,e2,e3,e4,e5⟩ := execI (h := s.h) h.tab h.tops h.last h.last8 hx
 have hbl := h.bl
 have hcl := h.cl
 unfold exX
 split
 ·exact ⟨e1,h.led,h.ledI,e2,e3,e4,h.bs,by simp only; omega,h.cs,by simp only; omega⟩
 ·rename_i he
  have he : (zdl s.L s.T s.h b).e = 0 := Classical.not_not.1 he
  refine ⟨e1,h.led,h.ledI,e2,e3,e4,fun y hy => ?_,by simp; omega,h.cs,by simp only; omega⟩
  rcases List.mem_append.1 hy with hy | hy
  ·exact h.bs y hy
  ·simp only [List.mem_singleton] at hy; subst hy; exact e5 he
theorem stI_bl {N m : Nat} {s : zaP} {x : zq} (h : StI N m s) (hx : zkF x.op ≤ 20971520) : StI (N + 1) (m + 1) (blX s x) := by
 unfold blX
 split
 ·rename_i e
  exact stI_ex (stI_sl h hx) fun y hy => by
   simp only [List.mem_singleton] at hy; subst hy; rw [sealS_op e]; exact hx
 ·exact (stI_sl h hx).mono (Nat.le_refl _) (by omega)
theorem stI_cr {N m : Nat} {ks : List Int} {s : zaP} {x : zcS} (h : StI N m s) (hk : ks.length ≤ 13) : StI (N + 13) (m + 1) (crX ks s x) := by
 have hbl := h.bl
 have hcl := h.cl
 have hN := h.led
 unfold crX
 split
 ·exact ⟨zrI h.tab x,by simp only; omega,h.ledI,h.tops,h.last,h.last8,h.bs,by simp only; omega,h.cs,by simp only; omega⟩
 ·have v := foldVo (seq := x.seq) (d := zlf s.L x) (s := (zeF s.L x,s.G, [])) (N := s.G.length) (m := 0) ⟨zrI h.tab x,Nat.le_refl _,h.ledI,Nat.zero_le _⟩ ks
  refine ⟨v.tab,by have := v.led; simp only [crV]; omega,v.ledI,h.tops,h.last,h.last8,h.bs,by simp only; omega,fun c hc => ?_,by simp; omega⟩
  rcases List.mem_append.1 hc with hc | hc
  ·exact h.cs c hc
  ·simp only [List.mem_singleton] at hc
   subst hc
   have := v.len
   simp only [crV]; omega
theorem fold_bl {N m : Nat} {s : zaP} : ∀ {rs : List zq} {s : zaP} {N m : Nat},StI N m s → (∀ x ∈ rs,zkF x.op ≤ 20971520) → StI (N + rs.length) (m + rs.length) (rs.foldl blX s)
 | [],_,_,_,h,_ => h
 | x :: rs,s,N,m,h,hx => by
  have := fold_bl (N := N) (m := m) (s := s) (rs := rs) (stI_bl h (hx x (by simp))) fun y hy => hx y (by simp [hy])
  simp only [List.foldl_cons,List.length_cons]
  rwa [show N + (rs.length + 1) = N + 1 + rs.length by omega,show m + (rs.length + 1) = m + 1 + rs.length by omega]
theorem fold_cr {ks : List Int} (hk : ks.length ≤ 13) : ∀ {l : List zcS} {s : zaP} {N m : Nat},StI N m s → StI (N + 13 * l.length) (m + l.length) (l.foldl (crX ks) s)
 | [],_,_,_,h => h
 | x :: l,s,N,m,h => by
  have := fold_cr hk (l := l) (stI_cr (x := x) h hk)
  simp only [List.foldl_cons,List.length_cons]
  rwa [show N + 13 * (l.length + 1) = N + 13 + 13 * l.length by omega,show m + (l.length + 1) = m + 1 + l.length by omega]
theorem crX_bs (ks : List Int) (s : zaP) (x : zcS) : (crX ks s x).bs = s.bs ∧ (crX ks s x).T = s.T ∧ (crX ks s x).h = s.h := by
 unfold crX
 split <;> exact ⟨rfl,rfl,rfl⟩
theorem foldCr_bs (ks : List Int) : ∀ (l : List zcS) (s : zaP),(l.foldl (crX ks) s).bs = s.bs ∧ (l.foldl (crX ks) s).T = s.T
 | [],_ => ⟨rfl,rfl⟩
 | x :: l,s => by
  have := foldCr_bs ks l (crX ks s x)
  simp only [List.foldl_cons]
  exact ⟨this.1.trans (crX_bs ..).1,this.2.trans (crX_bs ..).2.1⟩
theorem blX_len (s : zaP) (x : zq) : (blX s x).bs.length ≤ s.bs.length + 1 := by
 unfold blX exX slX
 repeat' split
 all_goals simp
theorem zqs : ∀ (rs : List zq) (s : zaP),(rs.foldl blX s).bs.length ≤ s.bs.length + rs.length
 | [],_ => Nat.le_refl _
 | x :: rs,s => by
  have h1 := zqs rs (blX s x)
  have h2 := blX_len s x
  simp only [List.foldl_cons,List.length_cons]; omega
theorem bgF_I {ks : List Int} {rs : List zq} (hx : ∀ x ∈ rs,zkF x.op ≤ 20971520) (hr : rs.length ≤ 25) (hk : ks.length ≤ 13) : StI 350 50 (bgF ks rs) := by
 have h1 : StI (0 + rs.length) (0 + rs.length) (bgB rs) := fold_bl (N := 0) (m := 0) (s := st0) st0I hx
 have h2 := zqs rs st0
 have h3 : st0.bs.length = 0 := rfl
 have h4 : (bgB rs).bs.length ≤ 25 := by unfold bgB; omega
 have := fold_cr hk (l := (bgB rs).bs.map zbx.header) h1
 rw [List.length_map] at this
 exact this.mono (by omega) (by omega)
theorem ziQ.grow {ks : List Int} {g : zcS} {s : zaP} {L : List (List UInt8)} {G : List zI} (h : ziQ ks g s) (hp : s.L <+: L) (hg : ∀ x ∈ s.G,x ∈ G) (hn : ∀ x ∈ G,x ∈ s.G ∨ 13 ≤ x.key) : ziQ ks g { s with L := L,G := G } :=
 ⟨h.ch.pre hp,fun b hb => (h.blk b hb).pre hp,h.last,fun c hc => (h.crt c hc).pre hp hg fun x hx => hx,fun x hx => by
  rcases hn x hx with hx | hx
  ·rcases h.sg x hx with h1 | ⟨c,h1,h2⟩
   ·exact .inl h1
   ·exact .inr ⟨c,h1,h2.pre hp⟩
  ·exact .inl hx⟩
theorem hist_sl {ks : List Int} {g : zcS} {s : zaP} {x : zq} (h : ziQ ks g s) : ziQ ks g (slX s x) ∧ (slX s x).L.length ≤ s.L.length + 1 := by
 obtain ⟨a1,a2,a3,a4⟩ := seHist [x] (s.L,s.G, [])
 exact ⟨h.grow a1 a4 a3,a2⟩
theorem hist_ex {ks : List Int} {g : zcS} {s : zaP} {b : List zq} (h : ziQ ks g s) (hT : zhn s.T) (hL : s.L.length + 600 ≤ 1048576) : ziQ ks g (exX s b) ∧ (exX s b).L.length ≤ s.L.length + 520 := by
 obtain ⟨e1,e2,e3⟩ := exec_hist (h := s.h) (b := b) hT hL
 have hb : ∀ y ∈ s.bs,BlkI (zdl s.L s.T s.h b).L y := fun y hy => (h.blk y hy).pre e1
 unfold exX
 split
 ·exact ⟨⟨h.ch.pre e1,hb,h.last,fun c hc => (h.crt c hc).pre e1 (fun x hx => hx) fun x hx => hx,fun x hx => by
   rcases h.sg x hx with h1 | ⟨c,h1,h2⟩
   ·exact .inl h1
   ·exact .inr ⟨c,h1,h2.pre e1⟩⟩,e2⟩
 ·rename_i he
  obtain ⟨b1,b2⟩ := e3 (Classical.not_not.1 he)
  refine ⟨⟨?_,fun y hy => ?_,(zuH (b := ⟨_,b,_⟩)).symm,fun c hc => (h.crt c hc).pre e1 (fun x hx => hx) fun x hx => List.mem_append_left _ hx,fun x hx => ?_⟩,e2⟩
  ·refine ChI.snoc (h.ch.pre e1) ?_
   rw [← h.last]
   exact b2
  ·rcases List.mem_append.1 hy with hy | hy
   ·exact hb y hy
   ·simp only [List.mem_singleton] at hy; subst hy; exact b1
  ·rcases h.sg x hx with h1 | ⟨c,h1,h2⟩
   ·exact .inl h1
   ·exact .inr ⟨c,h1,h2.pre e1⟩
theorem hist_bl {ks : List Int} {g : zcS} {s : zaP} {x : zq} (h : ziQ ks g s) (hT : zhn s.T) (hL : s.L.length + 700 ≤ 1048576) : ziQ ks g (blX s x) ∧ (blX s x).L.length ≤ s.L.length + 521 := by
 obtain ⟨h1,h2⟩ := hist_sl (x := x) h
 unfold blX
 split
 ·obtain ⟨h3,h4⟩ := hist_ex (b := [zlW s.L x]) h1 hT (by omega)
  exact ⟨h3,by omega⟩
 ·exact ⟨h1,by omega⟩
theorem hist_cr {ks : List Int} {g : zcS} {s : zaP} {b : zbx} (h : ziQ ks g s) (hb : b ∈ s.bs) (hk : ∀ k ∈ ks, 0 ≤ k ∧ k < 13) (hL : s.L.length + 700 ≤ 1048576) : ziQ ks g (crX ks s b.header) ∧ (crX ks s b.header).L.length ≤ s.L.length + 2 := by
 obtain ⟨d1,d2⟩ := hdigL_pre s.L b.header
 have hok := (h.blk b hb).ok
 unfold crX
 split
 ·exact ⟨h.grow (G := s.G) d1 (fun x hx => hx) fun x hx => .inl hx,by simp only; omega⟩
 ·rename_i h4
  have h4 : b.header.seq.tmod 4 = 0 := Classical.not_not.1 h4
  have hc0 : zba b.header = 0 := zdU.2 hok
  have hd : zlf s.L b.header = zdw s.L (zpe b.header) := by rw [zlf,if_neg (by simp [hc0])]
  have hdl : zeF s.L b.header = zeI s.L (zpe b.header) := by rw [zeF,if_neg (by simp [hc0])]
  have hn : zgM (zeF s.L b.header) (zpe b.header) (zlf s.L b.header) := by rw [hd,hdl]; exact zrY (zrZ (by omega))
  have hseq := zhg hok b.header.seq (by simp [zpQ])
  have hdp := hn.pos
  have hm : zqS 6 0 b.header.seq (zlf s.L b.header) = true := by
   simp only [zqS,Bool.and_eq_true,zeY]
   omega
  obtain ⟨v,v1,v2,v3,v4,v5,v6⟩ := voHist0 hm ks (zeF s.L b.header,s.G, []) hk (by simp only; omega)
  simp only at v1 v2 v3 v4 v5 v6 ⊢
  obtain ⟨E,hE⟩ : ∃ E,crV ks s b.header = E := ⟨_,rfl⟩
  unfold crV at hE
  unfold crV
  rw [hE] at v1 v2 v3 v4 v5 v6 ⊢
  have hq := d1.trans v1
  refine ⟨⟨h.ch.pre hq,fun y hy => (h.blk y hy).pre hq,h.last,fun c hc => ?_,fun x hx => ?_⟩,by omega⟩
  ·simp only at hc
   rcases List.mem_append.1 hc with hc | hc
   ·exact (h.crt c hc).pre hq v4 fun x hx => hx
   ·simp only [List.mem_singleton] at hc
    subst hc
    exact ⟨⟨b,hb,rfl,hn.pre v1⟩,h4,v,by rw [v5]; simp,fun k hk => v6 k hk⟩
  ·simp only at hx ⊢
   rcases v3 x hx with hx | ⟨hx,hx2⟩
   ·rcases h.sg x hx with h1 | ⟨c,h1,h2⟩
    ·exact .inl h1
    ·exact .inr ⟨c,List.mem_append_left _ h1,h2.pre hq⟩
   ·exact .inr ⟨_,List.mem_append_right _ (List.mem_singleton.2 rfl),by rw [hx]; exact hx2⟩
theorem zsJ {ks : List Int} {g : zcS} : ∀ {rs : List zq} {s : zaP} {N m : Nat},ziQ ks g s → StI N m s → (∀ x ∈ rs,zkF x.op ≤ 20971520) → s.L.length + 521 * rs.length + 700 ≤ 1048576 → ziQ ks g (rs.foldl blX s) ∧ (rs.foldl blX s).L.length ≤ s.L.length + 521 * rs.length
 | [],_,_,_,h,_,_,_ => ⟨h,by simp⟩
 | x :: rs,s,N,m,h,hI,hx,hL => by
  simp only [List.length_cons] at hL
  obtain ⟨h1,h2⟩ := hist_bl (x := x) h hI.tops (by omega)
  obtain ⟨h3,h4⟩ := zsJ (rs := rs) h1 (stI_bl hI (hx x (by simp))) (fun y hy => hx y (by simp [hy])) (by omega)
  refine ⟨h3, ?_⟩
  simp only [List.foldl_cons,List.length_cons]
  omega
theorem zsI {ks : List Int} {g : zcS} (hk : ∀ k ∈ ks, 0 ≤ k ∧ k < 13) : ∀ {l : List zcS} {s : zaP},ziQ ks g s → (∀ x ∈ l, ∃ b ∈ s.bs,x = b.header) → s.L.length + 2 * l.length + 700 ≤ 1048576 → ziQ ks g (l.foldl (crX ks) s)
 | [],_,h,_,_ => h
 | x :: l,s,h,hb,hL => by
  simp only [List.length_cons] at hL
  obtain ⟨b,hb1,rfl⟩ := hb x (by simp)
  obtain ⟨h1,h2⟩ := hist_cr h hb1 hk (by omega)
  exact zsI hk (l := l) h1 (fun y hy => by rw [(crX_bs ..).1]; exact hb y (by simp [hy])) (by omega)
theorem bgF_H {ks : List Int} {rs : List zq} (hx : ∀ x ∈ rs,zkF x.op ≤ 20971520) (hr : rs.length ≤ 25) (hk : ∀ k ∈ ks, 0 ≤ k ∧ k < 13) : ziQ ks st0.h (bgF ks rs) := by
 have h0 := st0_len
 obtain ⟨h1,h2⟩ := zsJ (N := 0) (m := 0) (hist0 ks) st0I hx (by omega)
 have h3 := zqs rs st0
 have h4 : st0.bs.length = 0 := rfl
 refine zsI hk (s := bgB rs) h1 (fun x h => ?_) ?_
 ·obtain ⟨b,hb,rfl⟩ := List.mem_map.1 h
  exact ⟨b,hb,rfl⟩
 ·rw [List.length_map]; unfold bgB; omega
theorem make_same {ks : List Int} {g : zcS} {s : zaP} (h : ziQ ks g s) {c : zff} {t : List UInt8} {o : Int} : (zhZ s.L s.bs c t o).2.2 = s.L := by
 unfold zhZ
 split
 ·rfl
 rename_i i k hfb
 split
 ·rfl
 obtain ⟨b',r',h1,_,h2,h3,h4⟩ := findB_is hfb
 rw [Nat.sub_zero] at h1
 have hgd : s.bs.getD i ⟨⟨0, 0, 0, 0, 0⟩, [], []⟩ = b' := by simp [List.getD,h1]
 have hR := (h.blk b' (List.mem_of_getElem? h1)).root
 have hgl : (b'.placed.map zaJ)[k]? = some (zaJ r') := by rw [List.getElem?_map,h2]; rfl
 obtain ⟨p1,_,_,_⟩ := znW b'.placed.length b'.placed.length (by simp) (by simp) hR hgl
 simp only [hgd]
 exact p1
structure TTwist where
 do_ : Int
 n : Int
 dig : Int
 rec_ : List UInt8
structure TCase where
 f : Int
 bats : List (List zq)
 voters : Nat
 bad : List zI
 topic : List UInt8
 offset : Int
 twists : List TTwist
abbrev zeg (l : List zff) : List (List D) := l.map certD
abbrev hdrC (h : zcS) : zh := .box [.d (.int .i64 h.seq), .d (.int .i64 h.prev), .d (.int .i64 h.batch), .d (.int .i64 h.root), .d (.int .i64 h.state)]
structure StJ (σ : List zh) (C : zh) (tb tc t g : Nat) (s : zaP) (S : List zh) : Prop where
 cb : S[σ.length]? = some C
 xb : S[σ.length + 1]? = some (rtO s.L)
 yb : S[σ.length + 2]? = some (rlO s.G)
 tab : zdh S (σ.length + 4) (σ.length + 3) (σ.length + 5) []
 led : zee S (σ.length + 7) (σ.length + 6) (σ.length + 8) []
 st : S[σ.length + 9]? = some (.box [.box (σ.length + 4) 0, .box (σ.length + 7) 0, .box (σ.length + 1) 0, .box (σ.length + 2) 0, .own tb (zca s.bs), .own tc (zeg s.cs)])
 hb : S[σ.length + 10]? = some (hdrC s.h)
 top : zco S (σ.length + 11) t g s.T
 kb : S[tb]? = some (.tok 7 s.bs.length)
 kc : S[tc]? = some (.tok 3 s.cs.length)
 ne : σ.length + 11 < tb ∧ tb < tc
 cn : ∀ g sz cs,C ≠ .row g sz cs
 rest : ∀ (j : Nat) (x : zh), σ[j]? = some x → (∀ g sz cs,x ≠ .row g sz cs) → S[j]? = some x
section
variable {σ S S' : List zh} {C : zh} {tb tc t g t' g' : Nat} {s : zaP}
theorem zc {S : List zh} {i j : Nat} {x : zh} (y : zh) (h : S[j]? = some x) (hne : i ≠ j) : (S.set i y)[j]? = some x := (List.getElem?_set_ne hne).trans h
theorem StJ.app (h : StJ σ C tb tc t g s S) (τ : List zh) : StJ σ C tb tc t g s (S ++ τ) :=
 ⟨zd h.cb,zd h.xb,zd h.yb,⟨zd h.tab.1,zd h.tab.2,zd h.tab.3⟩,⟨zd h.led.1,zd h.led.2,zd h.led.3⟩,zd h.st,zd h.hb,h.top.app τ,zd h.kb,zd h.kc,h.ne,h.cn,fun j x h1 h2 => zd (h.rest j x h1 h2)⟩
theorem StJ.x (h : StJ σ C tb tc t g s S) (L : List (List UInt8)) : StJ σ C tb tc t g { s with L := L } (S.set (σ.length + 1) (rtO L)) := by
 have hn := h.ne
 refine ⟨zc _ h.cb (by omega),List.getElem?_set_self (zx h.xb),zc _ h.yb (by omega),⟨zc _ h.tab.1 (by omega),zc _ h.tab.2 (by omega),zc _ h.tab.3 (by omega)⟩,⟨zc _ h.led.1 (by omega),zc _ h.led.2 (by omega),zc _ h.led.3 (by omega)⟩,
  zc _ h.st (by omega),zc _ h.hb (by omega),h.top.setN h.xb (fun _ _ _ e => by cases e) (by omega),zc _ h.kb (by omega),zc _ h.kc (by omega),h.ne,h.cn,fun j x h1 h2 => zc _ (h.rest j x h1 h2) (by have := zx h1; omega)⟩
theorem StJ.y (h : StJ σ C tb tc t g s S) (G : List zI) : StJ σ C tb tc t g { s with G := G } (S.set (σ.length + 2) (rlO G)) := by
 have hn := h.ne
 refine ⟨zc _ h.cb (by omega),zc _ h.xb (by omega),List.getElem?_set_self (zx h.yb),⟨zc _ h.tab.1 (by omega),zc _ h.tab.2 (by omega),zc _ h.tab.3 (by omega)⟩,⟨zc _ h.led.1 (by omega),zc _ h.led.2 (by omega),zc _ h.led.3 (by omega)⟩,
  zc _ h.st (by omega),zc _ h.hb (by omega),h.top.setN h.yb (fun _ _ _ e => by cases e) (by omega),zc _ h.kb (by omega),zc _ h.kc (by omega),h.ne,h.cn,fun j x h1 h2 => zc _ (h.rest j x h1 h2) (by have := zx h1; omega)⟩
theorem StJ.hdr (h : StJ σ C tb tc t g s S) (k : zcS) : StJ σ C tb tc t g { s with h := k } (S.set (σ.length + 10) (hdrC k)) := by
 have hn := h.ne
 refine ⟨zc _ h.cb (by omega),zc _ h.xb (by omega),zc _ h.yb (by omega),⟨zc _ h.tab.1 (by omega),zc _ h.tab.2 (by omega),zc _ h.tab.3 (by omega)⟩,⟨zc _ h.led.1 (by omega),zc _ h.led.2 (by omega),zc _ h.led.3 (by omega)⟩,
  zc _ h.st (by omega),List.getElem?_set_self (zx h.hb),h.top.setN h.hb (fun _ _ _ e => by cases e) (by omega),zc _ h.kb (by omega),zc _ h.kc (by omega),h.ne,h.cn,fun j x h1 h2 => zc _ (h.rest j x h1 h2) (by have := zx h1; omega)⟩
theorem StJ.oth {j : Nat} {x : zh} (h : StJ σ C tb tc t g s S) (hj : S[j]? = some x) (hr : ∀ g sz cs,x ≠ .row g sz cs) (h1 : σ.length + 11 < j) (h2 : j ≠ tb) (h3 : j ≠ tc) (y : zh) : StJ σ C tb tc t g s (S.set j y) := by
 refine ⟨zc _ h.cb (by omega),zc _ h.xb (by omega),zc _ h.yb (by omega),⟨zc _ h.tab.1 (by omega),zc _ h.tab.2 (by omega),zc _ h.tab.3 (by omega)⟩,⟨zc _ h.led.1 (by omega),zc _ h.led.2 (by omega),zc _ h.led.3 (by omega)⟩,
  zc _ h.st (by omega),zc _ h.hb (by omega),h.top.setN hj hr (by omega),zc _ h.kb (by omega),zc _ h.kc (by omega),h.ne,h.cn,fun j x h1 h2 => zc _ (h.rest j x h1 h2) (by have := zx h1; omega)⟩
theorem StJ.blk (h : StJ σ C tb tc t g s S) (bs : List zbx) : StJ σ C tb tc t g { s with bs := bs } ((S.set tb (.tok 7 bs.length)).set (σ.length + 9) (.box [.box (σ.length + 4) 0, .box (σ.length + 7) 0, .box (σ.length + 1) 0, .box (σ.length + 2) 0, .own tb (zca bs), .own tc (zeg s.cs)])) := by
 have hn := h.ne
 refine ⟨zc _ (zc _ h.cb (by omega)) (by omega),zc _ (zc _ h.xb (by omega)) (by omega),zc _ (zc _ h.yb (by omega)) (by omega),⟨zc _ (zc _ h.tab.1 (by omega)) (by omega),zc _ (zc _ h.tab.2 (by omega)) (by omega),zc _ (zc _ h.tab.3 (by omega)) (by omega)⟩,⟨zc _ (zc _ h.led.1 (by omega)) (by omega),zc _ (zc _ h.led.2 (by omega)) (by omega),zc _ (zc _ h.led.3 (by omega)) (by omega)⟩,
  List.getElem?_set_self (by have := zx h.st; simpa using this),zc _ (zc _ h.hb (by omega)) (by omega),(h.top.setN h.kb (fun _ _ _ e => by cases e) (by omega)).setN (zc _ h.st (by omega)) (fun _ _ _ e => by cases e) (by omega),zc _ (List.getElem?_set_self (zx h.kb)) (by omega),zc _ (zc _ h.kc (by omega)) (by omega),h.ne,h.cn,fun j x h1 h2 => zc _ (zc _ (h.rest j x h1 h2) (by have := zx h1; omega)) (by have := zx h1; omega)⟩
theorem StJ.crt (h : StJ σ C tb tc t g s S) (cs : List zff) : StJ σ C tb tc t g { s with cs := cs } ((S.set tc (.tok 3 cs.length)).set (σ.length + 9) (.box [.box (σ.length + 4) 0, .box (σ.length + 7) 0, .box (σ.length + 1) 0, .box (σ.length + 2) 0, .own tb (zca s.bs), .own tc (zeg cs)])) := by
 have hn := h.ne
 refine ⟨zc _ (zc _ h.cb (by omega)) (by omega),zc _ (zc _ h.xb (by omega)) (by omega),zc _ (zc _ h.yb (by omega)) (by omega),⟨zc _ (zc _ h.tab.1 (by omega)) (by omega),zc _ (zc _ h.tab.2 (by omega)) (by omega),zc _ (zc _ h.tab.3 (by omega)) (by omega)⟩,⟨zc _ (zc _ h.led.1 (by omega)) (by omega),zc _ (zc _ h.led.2 (by omega)) (by omega),zc _ (zc _ h.led.3 (by omega)) (by omega)⟩,
  List.getElem?_set_self (by have := zx h.st; simpa using this),zc _ (zc _ h.hb (by omega)) (by omega),(h.top.setN h.kc (fun _ _ _ e => by cases e) (by omega)).setN (zc _ h.st (by omega)) (fun _ _ _ e => by cases e) (by omega),zc _ (zc _ h.kb (by omega)) (by omega),zc _ (List.getElem?_set_self (zx h.kc)) (by omega),h.ne,h.cn,fun j x h1 h2 => zc _ (zc _ (h.rest j x h1 h2) (by have := zx h1; omega)) (by have := zx h1; omega)⟩
theorem StJ.exec {L : List (List UInt8)} {T : zcc} (h : StJ σ C tb tc t g s S) (hT : zco S' (σ.length + 11) t' g' T) (hL : S'[σ.length + 1]? = some (rtO L)) (hS : zts S S' (σ.length + 1) (σ.length + 11)) : StJ σ C tb tc t' g' { s with L := L,T := T } S' := by
 have hn := h.ne
 refine ⟨?_,hL,hS.get _ _ h.yb (by omega) (by omega) (fun _ _ _ e => by cases e),⟨hS.get _ _ h.tab.1 (by omega) (by omega) (fun _ _ _ e => by cases e),hS.get _ _ h.tab.2 (by omega) (by omega) (fun _ _ _ e => by cases e),hS.get _ _ h.tab.3 (by omega) (by omega) (fun _ _ _ e => by cases e)⟩,⟨hS.get _ _ h.led.1 (by omega) (by omega) (fun _ _ _ e => by cases e),hS.get _ _ h.led.2 (by omega) (by omega) (fun _ _ _ e => by cases e),hS.get _ _ h.led.3 (by omega) (by omega) (fun _ _ _ e => by cases e)⟩,
  hS.get _ _ h.st (by omega) (by omega) (fun _ _ _ e => by cases e),hS.get _ _ h.hb (by omega) (by omega) (fun _ _ _ e => by cases e),hT,hS.get _ _ h.kb (by omega) (by omega) (fun _ _ _ e => by cases e),hS.get _ _ h.kc (by omega) (by omega) (fun _ _ _ e => by cases e),h.ne,h.cn,fun j x h1 h2 => hS.get _ _ (h.rest j x h1 h2) (by have := zx h1; omega) (by have := zx h1; omega) h2⟩
 exact hS.get _ _ h.cb (by omega) (by omega) h.cn
end
structure StE (σ : List zh) (s : zaP) (L : List (List UInt8)) (G : List zI) (S : List zh) : Prop where
 xb : S[σ.length + 1]? = some (rtO s.L)
 yb : S[σ.length + 2]? = some (rlO s.G)
 tab : zdh S (σ.length + 4) (σ.length + 3) (σ.length + 5) L
 led : zee S (σ.length + 7) (σ.length + 6) (σ.length + 8) G
 st : S[σ.length + 9]? = some (.box [.box (σ.length + 4) 0, .box (σ.length + 7) 0, .box (σ.length + 1) 0, .box (σ.length + 2) 0, .d (.slice (zca s.bs)), .d (.slice (zeg s.cs))])
 rest : ∀ (j : Nat) (x : zh), σ[j]? = some x → (∀ g sz cs,x ≠ .row g sz cs) → S[j]? = some x
section
variable {σ S : List zh} {s : zaP} {L : List (List UInt8)} {G : List zI}
theorem StE.app (h : StE σ s L G S) (τ : List zh) : StE σ s L G (S ++ τ) :=
 ⟨zd h.xb,zd h.yb,h.tab.app τ,h.led.app τ,zd h.st,fun j x h1 h2 => zd (h.rest j x h1 h2)⟩
theorem StE.putT (h : StE σ s L G S) (L' : List (List UInt8)) : StE σ s L' G (putTab S (σ.length + 4) (σ.length + 3) (σ.length + 5) L') := by
 unfold putTab
 refine ⟨?_, ?_,⟨?_, ?_, ?_⟩,⟨?_, ?_, ?_⟩, ?_,fun j x h1 h2 => ?_⟩
 ·exact zc _ (zc _ (zc _ h.xb (by omega)) (by omega)) (by omega)
 ·exact zc _ (zc _ (zc _ h.yb (by omega)) (by omega)) (by omega)
 ·exact zc _ (List.getElem?_set_self (by have := zx h.tab.1; simpa using this)) (by omega)
 ·exact List.getElem?_set_self (by have := zx h.tab.2; simpa using this)
 ·exact zc _ (zc _ (List.getElem?_set_self (zx h.tab.3)) (by omega)) (by omega)
 ·exact zc _ (zc _ (zc _ h.led.1 (by omega)) (by omega)) (by omega)
 ·exact zc _ (zc _ (zc _ h.led.2 (by omega)) (by omega)) (by omega)
 ·exact zc _ (zc _ (zc _ h.led.3 (by omega)) (by omega)) (by omega)
 ·exact zc _ (zc _ (zc _ h.st (by omega)) (by omega)) (by omega)
 ·have := zx h1
  exact zc _ (zc _ (zc _ (h.rest j x h1 h2) (by omega)) (by omega)) (by omega)
theorem StE.putG (h : StE σ s L G S) (G' : List zI) : StE σ s L G' (putLed S (σ.length + 7) (σ.length + 6) (σ.length + 8) G') := by
 unfold putLed
 refine ⟨?_, ?_,⟨?_, ?_, ?_⟩,⟨?_, ?_, ?_⟩, ?_,fun j x h1 h2 => ?_⟩
 ·exact zc _ (zc _ (zc _ h.xb (by omega)) (by omega)) (by omega)
 ·exact zc _ (zc _ (zc _ h.yb (by omega)) (by omega)) (by omega)
 ·exact zc _ (zc _ (zc _ h.tab.1 (by omega)) (by omega)) (by omega)
 ·exact zc _ (zc _ (zc _ h.tab.2 (by omega)) (by omega)) (by omega)
 ·exact zc _ (zc _ (zc _ h.tab.3 (by omega)) (by omega)) (by omega)
 ·exact List.getElem?_set_self (by have := zx h.led.1; simpa using this)
 ·exact zc _ (zc _ (List.getElem?_set_self (zx h.led.2)) (by omega)) (by omega)
 ·exact zc _ (List.getElem?_set_self (by have := zx h.led.3; simpa using this)) (by omega)
 ·exact zc _ (zc _ (zc _ h.st (by omega)) (by omega)) (by omega)
 ·have := zx h1
  exact zc _ (zc _ (zc _ (h.rest j x h1 h2) (by omega)) (by omega)) (by omega)
theorem StE.x (h : StE σ s L G S) (L' : List (List UInt8)) : StE σ { s with L := L' } L G (S.set (σ.length + 1) (rtO L')) := by
 refine ⟨List.getElem?_set_self (zx h.xb),zc _ h.yb (by omega),⟨zc _ h.tab.1 (by omega),zc _ h.tab.2 (by omega),zc _ h.tab.3 (by omega)⟩,⟨zc _ h.led.1 (by omega),zc _ h.led.2 (by omega),zc _ h.led.3 (by omega)⟩,zc _ h.st (by omega),fun j x h1 h2 => zc _ (h.rest j x h1 h2) (by have := zx h1; omega)⟩
theorem StE.oth {j : Nat} (h : StE σ s L G S) (hj : σ.length + 9 < j) (y : zh) : StE σ s L G (S.set j y) := by
 refine ⟨zc _ h.xb (by omega),zc _ h.yb (by omega),⟨zc _ h.tab.1 (by omega),zc _ h.tab.2 (by omega),zc _ h.tab.3 (by omega)⟩,⟨zc _ h.led.1 (by omega),zc _ h.led.2 (by omega),zc _ h.led.3 (by omega)⟩,zc _ h.st (by omega),fun j x h1 h2 => zc _ (h.rest j x h1 h2) (by have := zx h1; omega)⟩
theorem StJ.done {C : zh} {tb tc t g : Nat} (h : StJ σ C tb tc t g s S) : StE σ s [] [] ((S.set (σ.length + 9) (.box [.box (σ.length + 4) 0, .box (σ.length + 7) 0, .box (σ.length + 1) 0, .box (σ.length + 2) 0, .d (.slice (zca s.bs)), .own tc (zeg s.cs)])).set (σ.length + 9) (.box [.box (σ.length + 4) 0, .box (σ.length + 7) 0, .box (σ.length + 1) 0, .box (σ.length + 2) 0, .d (.slice (zca s.bs)), .d (.slice (zeg s.cs))])) := by
 rw [List.set_set]
 refine ⟨zc _ h.xb (by omega),zc _ h.yb (by omega),⟨zc _ h.tab.1 (by omega),zc _ h.tab.2 (by omega),zc _ h.tab.3 (by omega)⟩,⟨zc _ h.led.1 (by omega),zc _ h.led.2 (by omega),zc _ h.led.3 (by omega)⟩,List.getElem?_set_self (zx h.st),fun j x h1 h2 => zc _ (h.rest j x h1 h2) (by have := zx h1; omega)⟩
end
end Go.Proofs.YtfgbofkdhfjegaaGreat
