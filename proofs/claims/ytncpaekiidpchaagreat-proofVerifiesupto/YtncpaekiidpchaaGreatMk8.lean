/- Contracts: the document's proof of a record. -/
import Derived.Test.YtncpaekiidpchaaGreatSpMap
import Derived.Test.YtncpaekiidpchaaGreatAwFrz
set_option linter.all false
set_option maxRecDepth 100000
namespace Go.Proofs.YtncpaekiidpchaaGreat
open Go.AW
def findR : Option (Nat × Nat) → AV
 | none => .tup [.d (.int .i64 0), .d (.int .i64 0), .d (.bool false)]
 | some (i,k) => .tup [.d (.int .i64 i), .d (.int .i64 k), .d (.bool true)]
theorem c_r23find {σ : List zh} {l : List zdT} {tp : List UInt8} {o : Int} (hl0 : l.length ≤ 1073741824) (hb : ∀ b ∈ l,zkV b) {K : KT}
  (hK : K (findR (znV tp o l 0)) σ) : zy Tryz.prog zpc [.d (.slice (zce l)), .d (.str tp), .d (.int .i64 o)] σ K := by
 refine zi ztU.is rfl fun hl _ => ztU.goes ?_
 have fin : ∀ z,znV tp o l 0 = z → K (findR z) σ := fun z h => h ▸ hK
 clear hK
 have hlen : (zce l).length = l.length := List.length_map ..
 simp only [zuH,iN,bT,bF,eN]
 (repeat' first | refine gq2 hlen ?_ | with_reducible first | exact ⟨⟩ | refine zg ?_ | fail)
 refine zB l.length (fun k vs s => vs = [.d (.int .i64 k)] ∧ s = σ ∧ znV tp o l 0 = znV tp o (l.drop k) k) ⟨rfl,rfl,by simp⟩ ?_
 rintro k vs s hk ⟨rfl,hs,hpf⟩
 rw [hs]
 by_cases hlt : k < l.length
 ·have hd : decide ((k : Int) < (l.length : Int)) = true := by simp; omega
  have hx : l[k]? = some l[k] := by simp [hlt]
  have hbx := hb _ (List.getElem_mem hlt)
  have hgx := zU (f := zju) hx
  obtain ⟨b,hbe⟩ : ∃ b,l[k] = b := ⟨_,rfl⟩
  rw [hbe] at hx hgx hbx
  rw [ztP hx] at hpf
  have hplen : (zci b.placed).length = b.placed.length := List.length_map ..
  have hn := hbx.len
  (repeat' first | refine gq2 (zc hd (zc hgx hlen)) ?_ | with_reducible first | exact ⟨⟩ | refine zg ?_ | fail)
  refine zB b.placed.length (fun j vs s => vs = [.d (.int .i64 j)] ∧ s = σ ∧ plAt tp o b.placed 0 = plAt tp o (b.placed.drop j) j) ⟨rfl,rfl,by simp⟩ ?_
  rintro j vs s hj ⟨rfl,hs,hpj⟩
  rw [hs]
  by_cases hlj : j < b.placed.length
  ·have hdj : decide ((j : Int) < (b.placed.length : Int)) = true := by simp; omega
   have hy : b.placed[j]? = some b.placed[j] := by simp [hlj]
   have hgy := zU (f := zkY) hy
   obtain ⟨p,hpe⟩ : ∃ p,b.placed[j] = p := ⟨_,rfl⟩
   rw [hpe] at hy hgy
   rw [plAt_step hy] at hpj
   have next : isP tp o p = false → zap b.placed.length (fun j vs s => vs = [.d (.int .i64 j)] ∧ s = σ ∧ plAt tp o b.placed 0 = plAt tp o (b.placed.drop j) j) j [.d (.int .i64 ((j : Int) + 1))] σ := fun h => by
    rw [if_neg (by simp [h])] at hpj
    exact zap.next hlj ⟨rfl,rfl,hpj⟩
   cases h1 : (p.topic == tp)
   ·(repeat' first | refine gq2 (zc hdj (zc hgx (zc hgy (zc hplen (zc h1 (wkc j (by omega))))))) ?_ | with_reducible first | exact ⟨⟩ | refine zg ?_ | fail)
    exact next (by rw [isP,h1]; rfl)
   ·cases h2 : (p.offset == o)
    ·(repeat' first | refine gq2 (zc hdj (zc hgx (zc hgy (zc hplen (zc h1 (zc h2 (wkc j (by omega)))))))) ?_ | with_reducible first | exact ⟨⟩ | refine zg ?_ | fail)
     exact next (by rw [isP,h2,Bool.and_false])
    ·rw [if_pos (by rw [isP,h1,h2]; rfl)] at hpj
     simp only [hpj] at hpf
     (repeat' first | refine gq2 (zc hdj (zc hgx (zc hgy (zc hplen (zc h1 h2))))) ?_ | with_reducible first | exact ⟨⟩ | refine zg ?_ | fail)
     (first | refine zX hl ?_ | refine zW hl ?_)
     exact fin _ hpf
  ·have hdj : decide ((j : Int) < (b.placed.length : Int)) = false := by simp; omega
   rw [List.drop_eq_nil_of_le (by omega)] at hpj
   simp only [hpj,plAt] at hpf
   (repeat' first | refine gq2 (zc hdj (zc hgx (zc hplen (wkc k (by omega))))) ?_ | with_reducible first | exact ⟨⟩ | refine zg ?_ | fail)
   exact zap.next hlt ⟨rfl,rfl,hpf⟩
 ·have hd : decide ((k : Int) < (l.length : Int)) = false := by simp; omega
  rw [List.drop_eq_nil_of_le (by omega)] at hpf
  (repeat' first | refine gq2 hd ?_ | with_reducible first | exact ⟨⟩ | refine zg ?_ | fail)
  (first | refine zX hl ?_ | refine zW hl ?_)
  exact fin none hpf
abbrev pfBox (tp : List UInt8) (o : Int) (rec : List UInt8) (h : AV) (j n : Int) (c : zfk) : zh := .box [.d (.str tp), .d (.int .i64 o), .d (.slice (bcs rec)),h, .d (.int .i64 j), .d (.int .i64 n), .exact [], .d (.int .i64 c.seq), .d (.int .i64 c.dig), .d (.slice (zax c.signs))]
abbrev blockO (b : zdT) : zh := .box [.d (.int .i64 b.header.seq), .d (.int .i64 b.header.prev), .d (.int .i64 b.header.batch), .d (.int .i64 b.header.root), .d (.int .i64 b.header.state), .d (.slice (zjv b.batch)), .d (.slice (zci b.placed))]
theorem gq46 {A P Q : Prop} (a : A) (h : Q) (e : A → P = Q := by intro a; simp -dsimp only [↓zen, ↓zaw, ↓zba, ↓zeo, ↓zej, ↓zeh, ↓zek, ↓zei, ↓zbf, ↓zbb, ↓zbg, ↓zbc, ↓zel, ↓zaZ, ↓zbh, ↓zbd, ↓zbi, ↓zbe, ↓zeg, ↓zem, ↓zaY, ↓zbj, ↓zee, ↓zed, ↓zef,iN,bT,bF,eN, ↓zcI, ↓unC, ↓zV, ↓zJ, ↓zK, ↓zN, ↓zaa, ↓zas, ↓zbH, ↓zah, ↓zaV, ↓zQ, ↓zp, ↓zo, ↓zbr, ↓zk, ↓zag, ↓zG, ↓zaB, ↓zaF, ↓ze, ↓zE, ↓zr, ↓zw, ↓zam, ↓zcs, ↓zcM, ↓zak, ↓zat, ↓zaE, ↓zaJ, ↓zaP, ↓zu, ↓zai, ↓zL, ↓zA, ↓zab,zcT,zaU,zaT,unA,zcW,bnd,zds,zae,zR,zdv,dm,dm1,zC,zaj,zdH,zdG,zM,Q0,Q1,Q2,Q3,Q4,Q5,zT,zq,zx,zO,zI,Q6,Q7,Q8,Q9,Q10,Q11,Q12,Q13,Q14,Nat.reduceAdd,Q15,Int.reduceToNat,Q16,Q17,Q18,Q19,Q20,reduceIte,Q21,Q22,zF,rep,zY,zdD,toD,zad,Q23,Q24,Q25,Q26,Q27,Q28,Nat.reduceLeDiff,Q29,Nat.reduceSub,Q30,Q31,Q32,sc,Q33,Q34,Q35,Q36,Q37,Q26,Q38,Q39,zfZ,zfW,zfT,zga,zbR,zfX,zfU,zfY,zfV,zbQ,zbS,zgb,zgc,Bool.not_true,Bool.not_false,List.length_map,List.length_set,a]; rfl) : P := (e a).mpr h
theorem c_r23Make {σ : List zh} {id : Nat} {L : List (List UInt8)} {l : List zdT} {c : zfk} {tp : List UInt8} {o : Int} (hT : σ[id]? = some (rtO L)) (hL : L.length ≤ 1048576) (hl0 : l.length ≤ 1073741824) (hb : ∀ b ∈ l,zkV b) (hc : c.signs.length ≤ 1073741824) {K : KT}
  (hK : K (.tup [zeO (zdz L l c tp o).2.1, .d (.int .i64 (zdz L l c tp o).1)]) (σ.set id (rtO (zdz L l c tp o).2.2))) : zy Tryz.prog zmh [.box id 0, .d (.slice (zce l)),certA c, .d (.str tp), .d (.int .i64 o)] σ K := by
 refine zi ztV.is rfl fun hl _ => ztV.goes ?_
 have fin : ∀ z,zdz L l c tp o = z → K (.tup [zeO z.2.1, .d (.int .i64 z.1)]) (σ.set id (rtO z.2.2)) := fun z h => h ▸ hK
 clear hK
 have hself := zbC hT
 have hlen : (zce l).length = l.length := List.length_map ..
 simp only [zuI,iN,bT,bF,eN]
 (repeat' first | refine gq1 ?_ | with_reducible first | exact ⟨⟩ | refine zg ?_ | fail)
 refine c_r23find hl0 hb ?_
 cases hf : znV tp o l 0 with
 | none =>
  simp only [findR]
  (repeat' first | refine gq1 ?_ | with_reducible first | exact ⟨⟩ | refine zg ?_ | fail)
  (first | refine zX hl ?_ | refine zW hl ?_)
  have := fin (4,zqW,L) (by rw [zdz,hf])
  rw [hself] at this
  exact this
 | some ij =>
  obtain ⟨i,j⟩ := ij
  obtain ⟨n0,b,hi0,hx,hj⟩ := zvt hf
  have hi0 : i = n0 := by omega
  subst hi0
  have hil := (List.getElem?_eq_some_iff.1 hx).1
  have hbx := hb b (List.mem_of_getElem? hx)
  have hgx := zU (f := zju) hx
  have hp0 : b.placed[j]? = some b.placed[j] := by simp [hj]
  have hps := hbx.each _ (List.getElem_mem hj)
  obtain ⟨pl,hpl⟩ : ∃ x,b.placed[j] = x := ⟨_,rfl⟩
  rw [hpl] at hp0 hps
  have hgp := zU (f := zkY) hp0
  have hplen : (zci b.placed).length = b.placed.length := List.length_map ..
  have hn := hbx.len
  have hmk : zdz L l c tp o = match zoY c.seq none (l.drop i) with
   | none => (7,zqW,L)
   | some hs => (0,⟨tp,o,pl.rec_,hs,j,b.placed.length,(zbo b.placed.length L j (b.placed.map zay)).1,c⟩,(zbo b.placed.length L j (b.placed.map zay)).2) := by
   rw [zdz,hf]
   have e1 : l.getD i ⟨⟨0, 0, 0, 0, 0⟩, [], []⟩ = b := by rw [List.getD_eq_getElem?_getD,hx]; rfl
   have e2 : b.placed.getD j ⟨[], 0, []⟩ = pl := by rw [List.getD_eq_getElem?_getD,hp0]; rfl
   simp only [e1,e2]
   cases zoY c.seq none (l.drop i) <;> rfl
  simp only [findR]
  (repeat' first | refine gq2 (zc hgx (zc hgp (zc hplen hlen))) ?_ | with_reducible first | exact ⟨⟩ | refine zg ?_ | fail)
  refine zaI (l.length - i) (fun k vs s => ∃ (acc : List zeb) (T : List zh),vs = [.d (.int .i64 ((i + k : Nat) : Int))] ∧ s = σ ++ ([zvy c,nilPf,blockO b,pfBox tp o pl.rec_ (.own (σ.length + 4) (zcR acc)) j b.placed.length c, .tok 5 acc.length] ++ T) ∧ acc.length = k ∧ zoY c.seq none (l.drop i) = (zoY c.seq (zfj (l.drop i) k) ((l.drop i).drop k)).map (acc ++ ·))
   (.tokB (σ.length + 3) 3 _ [] 5 (by rw [zq]; rfl) rfl (by simp) (by
    rw [zO,zT]
    simp only [List.set_cons_succ,List.set_cons_zero,List.length_cons,List.length_nil,List.append_assoc,List.cons_append,List.nil_append]
    exact .refl _ _)) ⟨[], [],rfl,rfl,rfl,by simp [zfj]⟩ ?_
  rintro k vs s hk ⟨acc,T,rfl,rfl,hak,hpf⟩
  have hal : (zcR acc).length = acc.length := List.length_map ..
  obtain ⟨n,hin⟩ : ∃ n,i + k = n := ⟨_,rfl⟩
  rw [hin]
  by_cases hlt : n < l.length
  ·have hF : ((n : Int) == (l.length : Int)) = false := by simp; omega
   have hxn : l[n]? = some l[n] := by simp [hlt]
   have hxd : (l.drop i)[k]? = some l[n] := by rw [List.getElem?_drop,hin]; exact hxn
   have hbn := hb _ (List.getElem_mem hlt)
   have hgn := zU (f := zju) hxn
   obtain ⟨x,hxe⟩ : ∃ x,l[n] = x := ⟨_,rfl⟩
   rw [hxe] at hxn hxd hgn hbn
   rw [runF_step hxd] at hpf
   obtain ⟨acc2,ha2⟩ : ∃ a,acc ++ [x.header] = a := ⟨_,rfl⟩
   have g1 : acc.length + 1 = acc2.length := by rw [← ha2]; simp
   have g2 : zcR acc ++ [[.int .i64 x.header.seq, .int .i64 x.header.prev, .int .i64 x.header.batch, .int .i64 x.header.root, .int .i64 x.header.state]] = zcR acc2 := by rw [← ha2]; simp
   have hkey : (decide ((n : Int) > (i : Int)) = false ∧ zrl (zfj (l.drop i) k) x.header.seq = true) ∨ (∃ y : zdT,decide ((n : Int) > (i : Int)) = true ∧ IntKind.i64.wrap ((n : Int) - 1) = ((n - 1 : Nat) : Int) ∧ (l.map zju)[n - 1]? = some (zju y) ∧ (IntKind.i64.wrap (y.header.seq + 1) != x.header.seq) = !zrl (zfj (l.drop i) k) x.header.seq) := by
    cases k with
    | zero => exact .inl ⟨decide_eq_false (by omega),rfl⟩
    | succ k' =>
     have hy : l[n - 1]? = some l[n - 1] := by simp [show n - 1 < l.length by omega]
     have hyd : (l.drop i)[k']? = some l[n - 1] := by rw [List.getElem?_drop,show i + k' = n - 1 by omega]; exact hy
     refine .inr ⟨l[n - 1],decide_eq_true (by omega),by rw [zP (by omega) (by omega)]; omega,zU hy, ?_⟩
     rw [zfj,hyd]; rfl
   have bad : zrl (zfj (l.drop i) k) x.header.seq = false → zoY c.seq none (l.drop i) = none := fun h => by
    rw [hpf,if_pos h]; rfl
   have nx : ∀ τ : List zh,zrl (zfj (l.drop i) k) x.header.seq = true → (x.header.seq == c.seq) = false → zap (l.length - i) (fun k vs s => ∃ (acc : List zeb) (T : List zh),vs = [.d (.int .i64 ((i + k : Nat) : Int))] ∧ s = σ ++ ([zvy c,nilPf,blockO b,pfBox tp o pl.rec_ (.own (σ.length + 4) (zcR acc)) j b.placed.length c, .tok 5 acc.length] ++ T) ∧ acc.length = k ∧ zoY c.seq none (l.drop i) = (zoY c.seq (zfj (l.drop i) k) ((l.drop i).drop k)).map (acc ++ ·)) k [.d (.int .i64 ((n : Int) + 1))] (σ ++ zvy c :: nilPf :: blockO b :: pfBox tp o pl.rec_ (.own (σ.length + 4) (zcR acc2)) j b.placed.length c :: .tok 5 acc2.length :: τ) := fun τ hst h2 => by
    rw [if_neg (by simp [hst]),if_neg (by simpa using h2)] at hpf
    refine zap.next (by omega) ⟨acc2, τ,by rw [← hin]; congr 3,rfl,by omega, ?_⟩
    rw [hpf,zfj,hxd,Option.map_map]
    simp only [Option.map_some, ← ha2]
    congr 1
    funext z
    simp
   have st : zrl (zfj (l.drop i) k) x.header.seq = true → (x.header.seq == c.seq) = true → zoY c.seq none (l.drop i) = some acc2 := fun hst h2 => by
    rw [hpf,if_neg (by simp [hst]),if_pos (by simpa using h2), ← ha2]; rfl
   cases hst : zrl (zfj (l.drop i) k) x.header.seq
   ·rcases hkey with ⟨_,h⟩ | ⟨y,d1,d2,d3,d4⟩
    ·rw [hst] at h; cases h
    rw [hst] at d4
    (repeat' first | refine gq2 (zc hF (zc hlen (zc hgn (zc d1 (zc d2 (zc d3 d4)))))) ?_ | with_reducible first | exact ⟨⟩ | refine zg ?_ | fail)
    (first | refine zX hl ?_ | refine zW hl ?_)
    have := fin (7,zqW,L) (by rw [hmk,bad hst])
    rw [hself] at this
    exact this
   ·cases h2 : (x.header.seq == c.seq)
    ·rcases hkey with ⟨d1,_⟩ | ⟨y,d1,d2,d3,d4⟩
     ·(repeat' first | refine gq2 (zc hF (zc hlen (zc hgn (zc d1 (zc hal (zc g1 (zc g2 (zc h2 (wkc n (by omega)))))))))) ?_ | with_reducible first | exact ⟨⟩ | refine zg ?_ | fail)
      exact nx _ hst h2
     ·rw [hst] at d4
      (repeat' first | refine gq2 (zc hF (zc hlen (zc hgn (zc d1 (zc d2 (zc d3 (zc d4 (zc hal (zc g1 (zc g2 (zc h2 (wkc n (by omega))))))))))))) ?_ | with_reducible first | exact ⟨⟩ | refine zg ?_ | fail)
      exact nx _ hst h2
    ·have fin0 := fin _ (hmk.trans (by rw [st hst h2]))
     rcases hkey with ⟨d1,_⟩ | ⟨y,d1,d2,d3,d4⟩
     case' inl => (repeat' first | refine gq2 (zc hF (zc hlen (zc hgn (zc d1 (zc hal (zc g1 (zc g2 h2))))))) ?_ | with_reducible first | exact ⟨⟩ | refine zg ?_ | fail)
     case' inr =>
      rw [hst] at d4
      (repeat' first | refine gq2 (zc hF (zc hlen (zc hgn (zc d1 (zc d2 (zc d3 (zc d4 (zc hal (zc g1 (zc g2 h2)))))))))) ?_ | with_reducible first | exact ⟨⟩ | refine zg ?_ | fail)
     all_goals
      refine zuy (by omega) hbx.each ?_
      (repeat' first | refine gq1 ?_ | with_reducible first | exact ⟨⟩ | refine zg ?_ | fail)
      refine c_r5Prove (l := b.placed.map zay) (by rw [List.length_map]; omega) (zf hT) hL (by rw [List.length_map]; omega) (fun x hx' => by
       obtain ⟨p,hp,rfl⟩ := List.mem_map.1 hx'
       exact zhm (hbx.each p hp)) ?_
      rw [List.length_map,List.set_append_left _ _ (zH hT)]
      obtain ⟨A,hA⟩ : ∃ A,zbo b.placed.length L j (b.placed.map zay) = A := ⟨_,rfl⟩
      rw [hA] at fin0 ⊢
      have hl2 : σ.length = (σ.set id (rtO A.2)).length := (List.length_set ..).symm
      obtain ⟨S,hS⟩ : ∃ S, σ.set id (rtO A.2) = S := ⟨_,rfl⟩
      have hlo : zfn σ.length S := hS ▸ hl.set (zeG _ _)
      simp only [hS] at fin0 hl2 ⊢
      clear nx hpf bad st
      refine ⟨fun hp => ?_,fun hp => ?_⟩
      all_goals
       (repeat' first | refine gq46 hl2 ?_ | with_reducible first | exact ⟨⟩ | refine zg ?_ | fail)
       rw [← hl2]
       refine zcN hl2.symm ?_ hlo ?_
       ·simp [zcZ,dmT,dm,dm1,zcf,zbu,zeu]
       ·first | exact fin0 | (rw [hp] at fin0; exact fin0)
  ·have hF : ((n : Int) == (l.length : Int)) = true := by simp; omega
   have hr : zoY c.seq none (l.drop i) = none := by
    rw [hpf,show (l.drop i).drop k = [] from List.drop_eq_nil_of_le (by rw [List.length_drop]; omega)]; rfl
   (repeat' first | refine gq2 (zc hF hlen) ?_ | with_reducible first | exact ⟨⟩ | refine zg ?_ | fail)
   (first | refine zX hl ?_ | refine zW hl ?_)
   have := fin (7,zqW,L) (by rw [hmk,hr])
   rw [hself] at this
   exact this
end Go.Proofs.YtncpaekiidpchaaGreat

/- An end of a call that zvq all that it made: what the caller's objects name now lies there. -/
namespace Go.AW
section
variable {P : Program} {σ : List zh}
def EndsA (K : KT) (out : Option (List AV)) (σ' : List zh) : Prop := match out with
 | some l => ∃ s,zmS [] σ' [] s ∧ K (dmT (zcf l)) s
 | none => False
theorem zhN {f : FuncId} {F : AF} {na : Nat} (hF : isFn P f F na) {as0 : List AV} (has : as0.length = na) {K : KT}
  (h : zfn σ.length σ → (∀ a ∈ as0,Low σ.length a) → awp P F.body (AtEnd fun fr' σ' => EndsA K (zqH fr' σ' F.res) σ') (zid 0 as0) σ) : zy P f as0 σ K :=
 zlK hF has _ (fun {L w L' σ' w' fr' ts} S st S' F' hz => by
  unfold EndsA at hz
  split at hz
  ·rename_i l hl
   obtain ⟨s,hw,hK⟩ := hz
   obtain ⟨L2,st2,S2,_⟩ := ziQ hw S' (us := []) ⟨rfl,by simp⟩
   exact ⟨L2,s,l,dmT (zcf l),hl,st.trans st2,S2,fun v hr => zsj (st2.rv hr),hK⟩
  ·exact hz.elim) h
theorem zmw {K : KT} {l : List AV} {s : List zh} (h : K (dmT (zcf l)) s) : EndsA K (some l) s := ⟨_, .refl _ _,h⟩
end
end Go.AW
