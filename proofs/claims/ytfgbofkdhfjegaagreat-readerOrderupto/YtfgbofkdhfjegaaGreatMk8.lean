/- Contracts: the document's proof of a record. -/
import Derived.Test.YtfgbofkdhfjegaaGreatCk3
import Derived.Test.YtfgbofkdhfjegaaGreatAwFrz
set_option linter.all false
set_option maxRecDepth 100000
namespace Go.Proofs.YtfgbofkdhfjegaaGreat
open Go.AW
def findR : Option (Nat × Nat) → AV
 | none => .tup [.d (.int .i64 0), .d (.int .i64 0), .d (.bool false)]
 | some (i,k) => .tup [.d (.int .i64 i), .d (.int .i64 k), .d (.bool true)]
theorem c_r23find {σ : List zh} {l : List zbw} {tp : List UInt8} {o : Int} (hl0 : l.length ≤ 1073741824) (hb : ∀ b ∈ l,zrV b) {K : KT}
  (hK : K (findR (znZ tp o l 0)) σ) : zr Tryz.prog zpT [.d (.slice (zbW l)), .d (.str tp), .d (.int .i64 o)] σ K := by
 refine acE3 e_r23_find fun hl => ?_
 have fin : ∀ z,znZ tp o l 0 = z → K (findR z) σ := fun z h => h ▸ hK
 clear hK
 have hlen : (zbW l).length = l.length := List.length_map ..
 simp only [zva,iN,bT,bF,eN]
 refine gq2 hlen ?_
 refine zt l.length (fun k vs s => vs = [.d (.int .i64 k)] ∧ s = σ ∧ znZ tp o l 0 = znZ tp o (l.drop k) k) ⟨rfl,rfl,by simp⟩ ?_
 rintro k vs s hk ⟨rfl,hs,hpf⟩
 rw [hs]
 by_cases hlt : k < l.length
 ·have hd : decide ((k : Int) < (l.length : Int)) = true := by simp; omega
  have hx : l[k]? = some l[k] := by simp [hlt]
  have hbx := hb _ (List.getElem_mem hlt)
  have hgx := zR (f := zhp) hx
  obtain ⟨b,hbe⟩ : ∃ b,l[k] = b := ⟨_,rfl⟩
  rw [hbe] at hx hgx hbx
  rw [findB_step hx] at hpf
  have hplen : (zaT b.placed).length = b.placed.length := List.length_map ..
  have hn := hbx.len
  refine gq2 (zf hd (zf hgx hlen)) ?_
  refine zt b.placed.length (fun j vs s => vs = [.d (.int .i64 j)] ∧ s = σ ∧ plAt tp o b.placed 0 = plAt tp o (b.placed.drop j) j) ⟨rfl,rfl,by simp⟩ ?_
  rintro j vs s hj ⟨rfl,hs,hpj⟩
  rw [hs]
  by_cases hlj : j < b.placed.length
  ·have hdj : decide ((j : Int) < (b.placed.length : Int)) = true := by simp; omega
   have hy : b.placed[j]? = some b.placed[j] := by simp [hlj]
   have hgy := zR (f := zdi) hy
   obtain ⟨p,hpe⟩ : ∃ p,b.placed[j] = p := ⟨_,rfl⟩
   rw [hpe] at hy hgy
   rw [plAt_step hy] at hpj
   have next : isP tp o p = false → zaF b.placed.length (fun j vs s => vs = [.d (.int .i64 j)] ∧ s = σ ∧ plAt tp o b.placed 0 = plAt tp o (b.placed.drop j) j) j [.d (.int .i64 ((j : Int) + 1))] σ := fun h => by
    rw [if_neg (by simp [h])] at hpj
    exact zaF.next hlj ⟨rfl,rfl,hpj⟩
   cases h1 : (p.topic == tp)
   ·refine gq2 (zf hdj (zf hgx (zf hgy (zf hplen (zf h1 (wkc j (by omega))))))) ?_
    exact next (by rw [isP,h1]; rfl)
   ·cases h2 : (p.offset == o)
    ·refine gq2 (zf hdj (zf hgx (zf hgy (zf hplen (zf h1 (zf h2 (wkc j (by omega)))))))) ?_
     exact next (by rw [isP,h2,Bool.and_false])
    ·rw [if_pos (by rw [isP,h1,h2]; rfl)] at hpj
     simp only [hpj] at hpf
     refine gq2 (zf hdj (zf hgx (zf hgy (zf hplen (zf h1 h2))))) ?_
     refine zV hl ?_
     exact fin _ hpf
  ·have hdj : decide ((j : Int) < (b.placed.length : Int)) = false := by simp; omega
   rw [List.drop_eq_nil_of_le (by omega)] at hpj
   simp only [hpj,plAt] at hpf
   refine gq2 (zf hdj (zf hgx (zf hplen (wkc k (by omega))))) ?_
   exact zaF.next hlt ⟨rfl,rfl,hpf⟩
 ·have hd : decide ((k : Int) < (l.length : Int)) = false := by simp; omega
  rw [List.drop_eq_nil_of_le (by omega)] at hpf
  refine gq2 hd ?_
  refine zV hl ?_
  exact fin none hpf
abbrev pfBox (tp : List UInt8) (o : Int) (rec : List UInt8) (h : AV) (j n : Int) (c : zfj) : zh := .box [.d (.str tp), .d (.int .i64 o), .d (.slice (bcs rec)),h, .d (.int .i64 j), .d (.int .i64 n), .exact [], .d (.int .i64 c.seq), .d (.int .i64 c.dig), .d (.slice (zaY c.signs))]
abbrev ztf (b : zbw) : zh := .box [.d (.int .i64 b.header.seq), .d (.int .i64 b.header.prev), .d (.int .i64 b.header.batch), .d (.int .i64 b.header.root), .d (.int .i64 b.header.state), .d (.slice (zdf b.batch)), .d (.slice (zaT b.placed))]
theorem gq37 {A P Q : Prop} (a : A) (h : Q) (e : A → Hd Q → P := by intro a h; (repeat' first | simp -dsimp only [↓zeY, ↓zaC, ↓zbz, ↓zeZ, ↓zeU, ↓zeS, ↓zeV, ↓zeT, ↓zbE, ↓zbA, ↓zbF, ↓zbB, ↓zeW, ↓zby, ↓zbG, ↓zbC, ↓zbH, ↓zbD, ↓zeR, ↓zeX, ↓zbx, ↓zbJ, ↓zeP, ↓zeO, ↓zeQ,iN,bT,bF,eN, ↓zcF, ↓unC, ↓zW, ↓zK, ↓zL, ↓zN, ↓zad, ↓zax, ↓zcB, ↓zal, ↓zbj, ↓zQ, ↓zo, ↓zj, ↓zbr, ↓zg, ↓zai, ↓zH, ↓zaM, ↓zaV, ↓ze, ↓zD, ↓zw, ↓zB, ↓zao, ↓zdb, ↓zdx, ↓zaq, ↓zay, ↓zaU, ↓zbd, ↓zbl, ↓zu, ↓zan, ↓zM, ↓zE, ↓zaa,zdz,zbq,zbn,unA,zdy,bnd,zec,zaf,zS,zdY,dm,dm1,zC,zah,zen,zem,zP,Q0,Q1,Q2,Q3,Q4,Q5,zT,zx,zy,zO,zI,Q6,Q7,Q8,Q9,Q10,Q11,Q12,Q13,Q14,Nat.reduceAdd,Q15,Int.reduceToNat,Q16,Q17,Q18,Q19,Q20,reduceIte,Q21,Q22,zG,rep,zZ,zeF,toD,zaj,Q23,Q24,Q25,Q26,Q27,Q28,Nat.reduceLeDiff,Q29,Nat.reduceSub,Q30,Q31,Q32,sc,Q33,Q34,Q35,Q36,Q37,Q26,Q38,Q39,zii,zif,zic,zij,zcN,zig,zid,zih,zie,zcM,zcO,zim,zin,Bool.not_true,Bool.not_false,List.length_map,List.length_set,a] | with_reducible refine zix ?_ | fail); exact h.go) : P := e a ⟨h⟩
theorem c_r23Make {σ : List zh} {id : Nat} {L : List (List UInt8)} {l : List zbw} {c : zfj} {tp : List UInt8} {o : Int} (hT : σ[id]? = some (rtO L)) (hL : L.length ≤ 1048576) (hl0 : l.length ≤ 1073741824) (hb : ∀ b ∈ l,zrV b) (hc : c.signs.length ≤ 1073741824) {K : KT}
  (hK : K (.tup [zhh (zhJ L l c tp o).2.1, .d (.int .i64 (zhJ L l c tp o).1)]) (σ.set id (rtO (zhJ L l c tp o).2.2))) : zr Tryz.prog zjI [.box id 0, .d (.slice (zbW l)),zoo c, .d (.str tp), .d (.int .i64 o)] σ K := by
 refine acE5 e_r23_Make fun hl => ?_
 have fin : ∀ z,zhJ L l c tp o = z → K (.tup [zhh z.2.1, .d (.int .i64 z.1)]) (σ.set id (rtO z.2.2)) := fun z h => h ▸ hK
 clear hK
 have hself := zbo hT
 have hlen : (zbW l).length = l.length := List.length_map ..
 simp only [zvb,iN,bT,bF,eN,zl3,zl4]
 refine gq1 ?_
 refine c_r23find hl0 hb ?_
 cases hf : znZ tp o l 0 with
 | none =>
  simp only [findR]
  refine gq1 ?_
  refine zV hl ?_
  have := fin (4,ztD,L) (by rw [zhJ,hf])
  rw [hself] at this
  exact this
 | some ij =>
  obtain ⟨i,j⟩ := ij
  obtain ⟨n0,b,hi0,hx,hj⟩ := zvN hf
  have hi0 : i = n0 := by omega
  subst hi0
  have hil := (List.getElem?_eq_some_iff.1 hx).1
  have hbx := hb b (List.mem_of_getElem? hx)
  have hgx := zR (f := zhp) hx
  have hp0 : b.placed[j]? = some b.placed[j] := by simp [hj]
  have hps := hbx.each _ (List.getElem_mem hj)
  obtain ⟨pl,hpl⟩ : ∃ x,b.placed[j] = x := ⟨_,rfl⟩
  rw [hpl] at hp0 hps
  have hgp := zR (f := zdi) hp0
  have hplen : (zaT b.placed).length = b.placed.length := List.length_map ..
  have hn := hbx.len
  have hmk : zhJ L l c tp o = match runF c.seq none (l.drop i) with
   | none => (7,ztD,L)
   | some hs => (0,⟨tp,o,pl.rec_,hs,j,b.placed.length,(zbh b.placed.length L j (b.placed.map zaG)).1,c⟩,(zbh b.placed.length L j (b.placed.map zaG)).2) := by
   rw [zhJ,hf]
   have e1 : l.getD i ⟨⟨0, 0, 0, 0, 0⟩, [], []⟩ = b := by rw [List.getD_eq_getElem?_getD,hx]; rfl
   have e2 : b.placed.getD j ⟨[], 0, []⟩ = pl := by rw [List.getD_eq_getElem?_getD,hp0]; rfl
   simp only [e1,e2]
   cases runF c.seq none (l.drop i) <;> rfl
  simp only [findR]
  refine gq2 (zf hgx (zf hgp (zf hplen hlen))) ?_
  refine zcq (l.length - i) (fun k vs s => ∃ (acc : List zcW) (T : List zh),vs = [.d (.int .i64 ((i + k : Nat) : Int))] ∧ s = σ ++ ([certO c,nilPf,ztf b,pfBox tp o pl.rec_ (.own (σ.length + 4) (zio acc)) j b.placed.length c, .tok 5 acc.length] ++ T) ∧ acc.length = k ∧ runF c.seq none (l.drop i) = (runF c.seq (zmk (l.drop i) k) ((l.drop i).drop k)).map (acc ++ ·))
   (.tokB (σ.length + 3) 3 _ [] 5 (by rw [zx]; rfl) rfl (by simp) (by
    rw [zO,zT]
    simp only [List.set_cons_succ,List.set_cons_zero,List.length_cons,List.length_nil,List.append_assoc,List.cons_append,List.nil_append]
    exact .refl _ _)) ⟨[], [],rfl,rfl,rfl,by simp [zmk]⟩ ?_
  rintro k vs s hk ⟨acc,T,rfl,rfl,hak,hpf⟩
  have hal : (zio acc).length = acc.length := List.length_map ..
  obtain ⟨n,hin⟩ : ∃ n,i + k = n := ⟨_,rfl⟩
  rw [hin]
  by_cases hlt : n < l.length
  ·have hF : ((n : Int) == (l.length : Int)) = false := by simp; omega
   have hxn : l[n]? = some l[n] := by simp [hlt]
   have hxd : (l.drop i)[k]? = some l[n] := by rw [List.getElem?_drop,hin]; exact hxn
   have hbn := hb _ (List.getElem_mem hlt)
   have hgn := zR (f := zhp) hxn
   obtain ⟨x,hxe⟩ : ∃ x,l[n] = x := ⟨_,rfl⟩
   rw [hxe] at hxn hxd hgn hbn
   rw [runF_step hxd] at hpf
   obtain ⟨acc2,ha2⟩ : ∃ a,acc ++ [x.header] = a := ⟨_,rfl⟩
   have g1 : acc.length + 1 = acc2.length := by rw [← ha2]; simp
   have g2 : zio acc ++ [[.int .i64 x.header.seq, .int .i64 x.header.prev, .int .i64 x.header.batch, .int .i64 x.header.root, .int .i64 x.header.state]] = zio acc2 := by rw [← ha2]; simp
   have hkey : (decide ((n : Int) > (i : Int)) = false ∧ stepS (zmk (l.drop i) k) x.header.seq = true) ∨ (∃ y : zbw,decide ((n : Int) > (i : Int)) = true ∧ IntKind.i64.wrap ((n : Int) - 1) = ((n - 1 : Nat) : Int) ∧ (l.map zhp)[n - 1]? = some (zhp y) ∧ (IntKind.i64.wrap (y.header.seq + 1) != x.header.seq) = !stepS (zmk (l.drop i) k) x.header.seq) := by
    cases k with
    | zero => exact .inl ⟨decide_eq_false (by omega),rfl⟩
    | succ k' =>
     have hy : l[n - 1]? = some l[n - 1] := by simp [show n - 1 < l.length by omega]
     have hyd : (l.drop i)[k']? = some l[n - 1] := by rw [List.getElem?_drop,show i + k' = n - 1 by omega]; exact hy
     refine .inr ⟨l[n - 1],decide_eq_true (by omega),by rw [zU (by omega) (by omega)]; omega,zR hy, ?_⟩
     rw [zmk,hyd]; rfl
   have bad : stepS (zmk (l.drop i) k) x.header.seq = false → runF c.seq none (l.drop i) = none := fun h => by
    rw [hpf,if_pos h]; rfl
   have nx : ∀ τ : List zh,stepS (zmk (l.drop i) k) x.header.seq = true → (x.header.seq == c.seq) = false → zaF (l.length - i) (fun k vs s => ∃ (acc : List zcW) (T : List zh),vs = [.d (.int .i64 ((i + k : Nat) : Int))] ∧ s = σ ++ ([certO c,nilPf,ztf b,pfBox tp o pl.rec_ (.own (σ.length + 4) (zio acc)) j b.placed.length c, .tok 5 acc.length] ++ T) ∧ acc.length = k ∧ runF c.seq none (l.drop i) = (runF c.seq (zmk (l.drop i) k) ((l.drop i).drop k)).map (acc ++ ·)) k [.d (.int .i64 ((n : Int) + 1))] (σ ++ certO c :: nilPf :: ztf b :: pfBox tp o pl.rec_ (.own (σ.length + 4) (zio acc2)) j b.placed.length c :: .tok 5 acc2.length :: τ) := fun τ hst h2 => by
    rw [if_neg (by simp [hst]),if_neg (by simpa using h2)] at hpf
    refine zaF.next (by omega) ⟨acc2, τ,by rw [← hin]; congr 3,rfl,by omega, ?_⟩
    rw [hpf,zmk,hxd,Option.map_map]
    simp only [Option.map_some, ← ha2]
    congr 1
    funext z
    simp
   have st : stepS (zmk (l.drop i) k) x.header.seq = true → (x.header.seq == c.seq) = true → runF c.seq none (l.drop i) = some acc2 := fun hst h2 => by
    rw [hpf,if_neg (by simp [hst]),if_pos (by simpa using h2), ← ha2]; rfl
   cases hst : stepS (zmk (l.drop i) k) x.header.seq
   ·rcases hkey with ⟨_,h⟩ | ⟨y,d1,d2,d3,d4⟩
    ·rw [hst] at h; cases h
    rw [hst] at d4
    refine gq2 (zf hF (zf hlen (zf hgn (zf d1 (zf d2 (zf d3 d4)))))) ?_
    refine zV hl ?_
    have := fin (7,ztD,L) (by rw [hmk,bad hst])
    rw [hself] at this
    exact this
   ·cases h2 : (x.header.seq == c.seq)
    ·rcases hkey with ⟨d1,_⟩ | ⟨y,d1,d2,d3,d4⟩
     ·refine gq2 (zf hF (zf hlen (zf hgn (zf d1 (zf hal (zf g1 (zf g2 (zf h2 (wkc n (by omega)))))))))) ?_
      exact nx _ hst h2
     ·rw [hst] at d4
      refine gq2 (zf hF (zf hlen (zf hgn (zf d1 (zf d2 (zf d3 (zf d4 (zf hal (zf g1 (zf g2 (zf h2 (wkc n (by omega))))))))))))) ?_
      exact nx _ hst h2
    ·have fin0 := fin _ (hmk.trans (by rw [st hst h2]))
     rcases hkey with ⟨d1,_⟩ | ⟨y,d1,d2,d3,d4⟩
     case' inl => refine gq2 (zf hF (zf hlen (zf hgn (zf d1 (zf hal (zf g1 (zf g2 h2))))))) ?_
     case' inr =>
      rw [hst] at d4
      refine gq2 (zf hF (zf hlen (zf hgn (zf d1 (zf d2 (zf d3 (zf d4 (zf hal (zf g1 (zf g2 h2)))))))))) ?_
     all_goals
      refine zuR (by omega) hbx.each ?_
      refine gq1 ?_
      refine c_r5Prove (l := b.placed.map zaG) (by rw [List.length_map]; omega) (zd hT) hL (by rw [List.length_map]; omega) (fun x hx' => by
       obtain ⟨p,hp,rfl⟩ := List.mem_map.1 hx'
       exact znN (hbx.each p hp)) ?_
      rw [List.length_map,List.set_append_left _ _ (zA hT)]
      obtain ⟨A,hA⟩ : ∃ A,zbh b.placed.length L j (b.placed.map zaG) = A := ⟨_,rfl⟩
      rw [hA] at fin0 ⊢
      have hl2 : σ.length = (σ.set id (rtO A.2)).length := (List.length_set ..).symm
      obtain ⟨S,hS⟩ : ∃ S, σ.set id (rtO A.2) = S := ⟨_,rfl⟩
      have hlo : zfs σ.length S := hS ▸ hl.set (zfw _ _)
      simp only [hS] at fin0 hl2 ⊢
      clear nx hpf bad st
      refine ⟨fun hp => ?_,fun hp => ?_⟩
      all_goals
       refine gq37 hl2 ?_
       rw [← hl2]
       refine zef hl2.symm ?_ hlo ?_
       ·simp [zeD,dmT,dm,dm1,zcC,zbT,zeN]
       ·first | exact fin0 | (rw [hp] at fin0; exact fin0)
  ·have hF : ((n : Int) == (l.length : Int)) = true := by simp; omega
   have hr : runF c.seq none (l.drop i) = none := by
    rw [hpf,show (l.drop i).drop k = [] from List.drop_eq_nil_of_le (by rw [List.length_drop]; omega)]; rfl
   refine gq2 (zf hF hlen) ?_
   refine zV hl ?_
   have := fin (7,ztD,L) (by rw [hmk,hr])
   rw [hself] at this
   exact this
end Go.Proofs.YtfgbofkdhfjegaaGreat

/- An end of a call that zvJ all that it made: what the caller's objects name now lies there. -/
namespace Go.AW
section
variable {P : Program} {σ : List zh}
def ztC (K : KT) (out : Option (List AV)) (σ' : List zh) : Prop := match out with
 | some l => ∃ s,zov [] σ' [] s ∧ K (dmT (zcC l)) s
 | none => False
theorem zdw {f : FuncId} {F : AF} {na : Nat} (hF : isFn P f F na) {as0 : List AV} (has : as0.length = na) {K : KT}
  (h : zfs σ.length σ → (∀ a ∈ as0,Low σ.length a) → awp P F.body (AtEnd fun fr' σ' => ztC K (zri fr' σ' F.res) σ') (ziS 0 as0) σ) : zr P f as0 σ K :=
 zmm hF has _ (fun {L w L' σ' w' fr' ts} S st S' F' hz => by
  unfold ztC at hz
  split at hz
  ·rename_i l hl
   obtain ⟨s,hw,hK⟩ := hz
   obtain ⟨L2,st2,S2,_⟩ := zjz hw S' (us := []) ⟨rfl,by simp⟩
   exact ⟨L2,s,l,dmT (zcC l),hl,st.trans st2,S2,fun v hr => zsP (st2.rv hr),hK⟩
  ·exact hz.elim) h
theorem zff {K : KT} {l : List AV} {s : List zh} (h : K (dmT (zcC l)) s) : ztC K (some l) s := ⟨_, .refl _ _,h⟩
end
end Go.AW
