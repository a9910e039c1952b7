/- Contract: whether a block has put what a proof names. -/
import Derived.Test.YtfgbofkdhfjegaaGreatBv1
import Derived.Test.YtfgbofkdhfjegaaGreatPt2
import Derived.Test.YtfgbofkdhfjegaaGreatCodec1
import Derived.Test.YtfgbofkdhfjegaaGreatBv5
set_option linter.all false
set_option maxRecDepth 100000
namespace Go.Proofs.YtfgbofkdhfjegaaGreat
open Go.AW
def zgL (s : zaQ) (o : Int) : zca := match s.cs.find? (fun k => (zhJ s.L s.bs k [116] o).1 == 0) with
 | some k => (zhJ s.L s.bs k [116] o).2.1
 | none => zlP
theorem c_proof25 {σ S : List zh} {C : zh} {r w : AV} {s : zaQ} {L : List (List UInt8)} {G : List zJ} {o : Int} {N m : Nat} {ks : List Int} {h0 : zcW} (hE : WE σ C r w s L G S) (hI : StI N m s) (hm : m ≤ 1000) (hH : ziP ks h0 s)
  {K : KT} (hK : ∀ τ,K (zhh (zgL s o)) (S ++ τ)) : zr Tryz.prog zex [.box (σ.length + 9) 0, .d (.int .i64 o)] S K := by
 refine zdw zjW.is rfl fun hl _ => zjW.goes ?_
 have hcl := hI.cl
 have hbl := hI.bl
 have hcq : (zeg s.cs).length = s.cs.length := List.length_map ..
 have w9 := fun τ => zd (τ := τ) hE.st
 simp only [zkk,iN,bT,bF,eN,zl4]
 refine gq2 (zf w9 hcq) ?_
 refine zt s.cs.length (fun k vs S' => vs = [.d (.int .i64 k)] ∧ (∃ τ,S' = S ++ τ) ∧ S'[S.length]? = some (.box [.d (.str []), .d (.int .i64 0), .exact [], .exact [], .d (.int .i64 0), .d (.int .i64 0), .exact [], .d (.int .i64 0), .d (.int .i64 0), .exact []]) ∧ ∀ x ∈ s.cs.take k,((zhJ s.L s.bs x [116] o).1 == 0) = false) ⟨rfl,⟨_,rfl⟩,by rw [zy]; rfl,by simp⟩ ?_
 rintro k vs S' hk ⟨rfl,⟨τ,hτ⟩,hz,hno⟩
 have hE' : WE σ C r w s L G S' := hτ ▸ hE.app τ
 have v9 := hE'.st
 have v9' := fun τ => zd (τ := τ) hE'.st
 have z' := fun τ => zd (τ := τ) hz
 have lz := zA hz
 by_cases hlt : k < s.cs.length
 ·have hd : decide ((k : Int) < (s.cs.length : Int)) = true := by simp; omega
  have hx : s.cs[k]? = some s.cs[k] := by simp [hlt]
  have hgx := zR (f := certD) hx
  have hsc := hI.cs _ (List.getElem_mem hlt)
  obtain ⟨x,hxx⟩ : ∃ x,s.cs[k] = x := ⟨_,rfl⟩
  rw [hxx] at hx hgx hsc
  have hgx : (zeg s.cs)[k]? = some (certD x) := hgx
  have hw : IntKind.i64.wrap ((k : Int) + 1) = ((k + 1 : Nat) : Int) := by rw [zU (by omega) (by omega)]; rfl
  have hnx : ((zhJ s.L s.bs x [116] o).1 == 0) = false → ∀ y ∈ s.cs.take (k + 1),((zhJ s.L s.bs y [116] o).1 == 0) = false := fun h y hy => by
   rw [List.take_add_one,hx] at hy
   rcases List.mem_append.1 hy with hy | hy
   ·exact hno y hy
   ·simp at hy; subst hy; exact h
  have hfd : ((zhJ s.L s.bs x [116] o).1 == 0) = true → zgL s o = (zhJ s.L s.bs x [116] o).2.1 := fun h => by
   have e : s.cs = s.cs.take k ++ x :: s.cs.drop (k + 1) := by
    obtain ⟨hk',rfl⟩ := List.getElem?_eq_some_iff.1 hx
    simp
   have hf : s.cs.find? (fun k => (zhJ s.L s.bs k [116] o).1 == 0) = some x := by
    rw [e,List.find?_append,List.find?_eq_none.2 (fun y hy => by simp [hno y hy]),Option.none_or,List.find?_cons,h]
   rw [zgL,hf]
  refine gq51 (zf hd (zf hgx (zf hcq (zf v9 v9')))) ?_
  refine ⟨?_, ?_⟩
  rotate_left
  refine gq2 (zf v9 v9') ?_
  all_goals
   refine c_r23Make (L := s.L) (l := s.bs) (c := x) (tp := [116]) (o := o) (zd hE'.xb) hI.tab.len (by omega) hI.bs (by omega) ?_
   rw [make_same hH,zbo (zd hE'.xb)]
   obtain ⟨M,hM⟩ : ∃ M,zhJ s.L s.bs x [116] o = M := ⟨_,rfl⟩
   rw [hM] at hnx hfd ⊢
   cases he : (M.1 == 0)
   ·refine gq2 (zf he hw) ?_
    exact zaF.next hlt ⟨rfl,⟨_,by rw [hτ,List.append_assoc]⟩,z' _,hnx he⟩
   ·have hf := hfd he
    have s0 : ∀ τ Y,(S' ++ τ).set S.length Y = S'.set S.length Y ++ τ := fun τ Y => List.set_append_left _ _ lz
    have s1 : ∀ Y,(S'.set S.length Y)[S.length]? = some Y := fun Y => List.getElem?_set_self lz
    have s2 : ∀ Y τ,(S'.set S.length Y ++ τ)[S.length]? = some Y := fun Y τ => zd (s1 Y)
    have fin : ∀ Y τ',K (zhh M.2.1) (S'.set S.length Y ++ τ') := fun Y τ' => by
     have e : S'.set S.length Y ++ τ' = S ++ (τ.set 0 Y ++ τ') := by
      rw [hτ,List.set_append_right _ _ (Nat.le_refl _),Nat.sub_self,List.append_assoc]
     rw [e, ← hf]; exact hK _
    refine gq2 (zf he (zf z' (zf s0 (zf s1 s2)))) ?_
    refine zff ?_
    exact fin _ _
 ·have hd : decide ((k : Int) < (s.cs.length : Int)) = false := by simp; omega
  rw [show s.cs.take k = s.cs from List.take_of_length_le (by omega)] at hno
  have hf : zgL s o = zlP := by
   rw [zgL,List.find?_eq_none.2 (fun y hy => by simp [hno y hy])]
  have s1 : ∀ Y,(S'.set S.length Y)[S.length]? = some Y := fun Y => List.getElem?_set_self lz
  refine gq2 (zf hd (zf hcq (zf hz s1))) ?_
  have e : ∀ Y,S'.set S.length Y = S ++ τ.set 0 Y := fun Y => by
   rw [hτ,List.set_append_right _ _ (Nat.le_refl _),Nat.sub_self]
  rw [e]
  refine zff ?_
  rw [hf] at hK
  exact hK _
deriving instance DecidableEq for zaX
theorem placed_ext {x y : zaX} (h1 : (x.topic == y.topic) = true) (h2 : (x.offset != y.offset) = false) (h3 : (x.rec_ == y.rec_) = true) : x = y := by
 cases x; cases y; simp at h1 h2 h3; simp [h1,h2,h3]
theorem gq54 {A P Q : Prop} (a : A) (h : Q) (e : A → Hd Q → P := by intro a h; (repeat' first | simp -dsimp only [↓zeY, ↓zaC, ↓zbz, ↓zeZ, ↓zeU, ↓zeS, ↓zeV, ↓zeT, ↓zbE, ↓zbA, ↓zbF, ↓zbB, ↓zeW, ↓zby, ↓zbG, ↓zbC, ↓zbH, ↓zbD, ↓zeR, ↓zeX, ↓zbx, ↓zbJ, ↓zeP, ↓zeO, ↓zeQ,iN,bT,bF,eN, ↓zcF, ↓unC, ↓zW, ↓zK, ↓zL, ↓zN, ↓zad, ↓zax, ↓zcB, ↓zal, ↓zbj, ↓zQ, ↓zo, ↓zj, ↓zbr, ↓zg, ↓zai, ↓zH, ↓zaM, ↓zaV, ↓ze, ↓zD, ↓zw, ↓zB, ↓zao, ↓zdb, ↓zdx, ↓zaq, ↓zay, ↓zaU, ↓zbd, ↓zbl, ↓zu, ↓zan, ↓zM, ↓zE, ↓zaa,zdz,zbq,zbn,unA,zdy,bnd,zec,zaf,zS,zdY,dm,dm1,zC,zah,zen,zem,zP,Q0,Q1,Q2,Q3,Q4,Q5,zT,zx,zy,zO,zI,Q6,Q7,Q8,Q9,Q10,Q11,Q12,Q13,Q14,Nat.reduceAdd,Q15,Int.reduceToNat,Q16,Q17,Q18,Q19,Q20,reduceIte,Q21,Q22,zG,rep,zZ,zeF,toD,zaj,Q23,Q24,Q25,Q26,Q27,Q28,Nat.reduceLeDiff,Q29,Nat.reduceSub,Q30,Q31,Q32,sc,Q33,Q34,Q35,Q36,Q37,Q26,Q38,Q39,zii,zif,zic,zij,zcN,zig,zid,zih,zie,zcM,zcO,zim,zin,Bool.not_true,Bool.not_false,List.length_map,ziw,zdi,a] | with_reducible refine zix ?_ | fail); exact h.go) : P := e a ⟨h⟩
theorem c_samePlaced {σ : List zh} {a b : List zaX} (ha1 : a.length ≤ 1073741824) {K : KT} (hK : K (.d (.bool (decide (a = b)))) σ) :
  zr Tryz.prog zhc [.d (.slice (zaT a)), .d (.slice (zaT b))] σ K := by
 refine zfJ zrr fun hl => ?_
 have fin : ∀ z,decide (a = b) = z → K (.d (.bool z)) σ := fun z h => h ▸ hK
 clear hK
 have hla : (zaT a).length = a.length := List.length_map ..
 have hlb : (zaT b).length = b.length := List.length_map ..
 simp only [zln,iN,bT,bF,eN]
 cases hl0 : ((a.length : Int) != (b.length : Int))
 rotate_left
 ·refine gq2 (zf hla (zf hlb hl0)) ?_
  refine zV hl ?_
  refine fin _ (decide_eq_false fun h => ?_)
  rw [h] at hl0; simp at hl0
 have hl2 : a.length = b.length := by simp at hl0; omega
 refine gq2 (zf hla (zf hlb hl0)) ?_
 refine zt a.length (fun k vs s => vs = [.d (.int .i64 k)] ∧ s = σ ∧ a.take k = b.take k) ⟨rfl,rfl,by simp⟩ ?_
 rintro k vs s hk ⟨rfl,rfl,htk⟩
 by_cases hlt : k < a.length
 ·have hd : decide ((k : Int) < (a.length : Int)) = true := by simp; omega
  have hx : a[k]? = some a[k] := by simp [hlt]
  have hy : b[k]? = some (b[k]'(by omega)) := List.getElem?_eq_getElem _
  have hgx := zR (f := zdi) hx
  have hgy := zR (f := zdi) hy
  obtain ⟨x,hxe⟩ : ∃ x,a[k] = x := ⟨_,rfl⟩
  obtain ⟨y,hye⟩ : ∃ y,(b[k]'(by omega)) = y := ⟨_,rfl⟩
  rw [hxe] at hx hgx
  rw [hye] at hy hgy
  have hgx : (zaT a)[k]? = some (zdi x) := hgx
  have hgy : (zaT b)[k]? = some (zdi y) := hgy
  have hw : IntKind.i64.wrap ((k : Int) + 1) = ((k + 1 : Nat) : Int) := by rw [zU (by omega) (by omega)]; rfl
  have ne : x ≠ y → decide (a = b) = false := fun h => decide_eq_false fun e => by
   subst e; rw [hx] at hy; exact h (Option.some.inj hy)
  cases e1 : (x.topic == y.topic)
  ·refine gq52 (zf hd (zf hgx (zf hgy (zf hla (zf hlb e1))))) ?_
   refine zV hl ?_
   exact fin _ (ne fun h => by subst h; simp at e1)
  cases e2 : (x.offset != y.offset)
  rotate_left
  ·refine gq52 (zf hd (zf hgx (zf hgy (zf hla (zf hlb (zf e1 e2)))))) ?_
   refine zV hl ?_
   exact fin _ (ne fun h => by subst h; simp at e2)
  cases e3 : (x.rec_ == y.rec_)
  ·refine gq54 (zf hd (zf hgx (zf hgy (zf hla (zf hlb (zf e1 (zf e2 e3))))))) ?_
   refine zV hl ?_
   exact fin _ (ne fun h => by subst h; simp at e3)
  ·refine gq54 (zf hd (zf hgx (zf hgy (zf hla (zf hlb (zf e1 (zf e2 (zf e3 hw)))))))) ?_
   exact zaF.next hlt ⟨rfl,rfl,zcY hx hy htk (placed_ext e1 e2 e3)⟩
 ·have hd : decide ((k : Int) < (a.length : Int)) = false := by simp; omega
  refine gq2 (zf hd (zf hla hlb)) ?_
  refine zV hl ?_
  exact fin _ (decide_eq_true (zet hl2 (k := k) (by omega) htk))
structure OnR (σ : List zh) (C : zh) (s : zaQ) (L : List (List UInt8)) (G : List zJ) (n a b u g v : Nat) (r q : zmW) (S : List zh) : Prop where
 e : WE σ C (.box a 0) (.box b 0) s L G S
 ra : S[a]? = some (rdB r (.box (σ.length + 4) 0) (.box (σ.length + 7) 0) (rsv u g r.L))
 ru : S[u]? = some (.row g 3 (zpS r.L))
 rb : S[b]? = some (rdX q (.own v (zaT q.L)) (.box (σ.length + 1) 0) (.box (σ.length + 2) 0))
 rv : S[v]? = some (.tok 3 q.L.length)
 ha : σ.length + 9 < a
 hb : σ.length + 9 < b
 hu : σ.length + 9 < u
 hv : σ.length + 9 < v
 ab : a ≠ b
 i : RdrI n r
 j : RdrI n q
section
variable {σ S : List zh} {C : zh} {s : zaQ} {L : List (List UInt8)} {G : List zJ} {n a b u g v : Nat} {r q : zmW}
theorem OnR.ua (h : OnR σ C s L G n a b u g v r q S) : u ≠ a := fun e => by have := h.ru; rw [e,h.ra] at this; cases this
theorem OnR.ub (h : OnR σ C s L G n a b u g v r q S) : u ≠ b := fun e => by have := h.ru; rw [e,h.rb] at this; cases this
theorem OnR.va (h : OnR σ C s L G n a b u g v r q S) : v ≠ a := fun e => by have := h.rv; rw [e,h.ra] at this; cases this
theorem OnR.uv (h : OnR σ C s L G n a b u g v r q S) : u ≠ v := fun e => by have := h.ru; rw [e,h.rv] at this; cases this
theorem OnR.app (h : OnR σ C s L G n a b u g v r q S) (τ : List zh) : OnR σ C s L G n a b u g v r q (S ++ τ) :=
 ⟨h.e.app τ,zd h.ra,zd h.ru,zd h.rb,zd h.rv,h.ha,h.hb,h.hu,h.hv,h.ab,h.i,h.j⟩
theorem OnR.mono {m : Nat} (h : OnR σ C s L G n a b u g v r q S) (hm : n ≤ m) : OnR σ C s L G m a b u g v r q S :=
 ⟨h.e,h.ra,h.ru,h.rb,h.rv,h.ha,h.hb,h.hu,h.hv,h.ab,h.i.mono hm,h.j.mono hm⟩
theorem OnR.take {g' : Nat} {r' : zmW} (h : OnR σ C s L G n a b u g v r q S) (hI : RdrI n r') : OnR σ C s L G n a b u g' v r' q ((S.set u (.row g' 3 (zpS r'.L))).set a (rdB r' (.box (σ.length + 4) 0) (.box (σ.length + 7) 0) (rsv u g' r'.L))) := by
 have h1 := h.ha; have h2 := h.hb; have h3 := h.hu; have h4 := h.hv
 have k1 := h.ua; have k2 := h.ub; have k3 := h.va; have k4 := h.uv; have k5 := h.ab
 refine ⟨(h.e.oth h3 _).oth h1 _,List.getElem?_set_self (by have := zA h.ra; simpa using this),zc _ (List.getElem?_set_self (zA h.ru)) (by omega),zc _ (zc _ h.rb (by omega)) (by omega),zc _ (zc _ h.rv (by omega)) (by omega),h1,h2,h3,h4,k5,hI,h.j⟩
theorem OnR.tick {r' : zmW} (h : OnR σ C s L G n a b u g v r q S) (hI : RdrI n r') (hL : r'.L = r.L) : OnR σ C s L G n a b u g v r' q (S.set a (rdB r' (.box (σ.length + 4) 0) (.box (σ.length + 7) 0) (rsv u g r.L))) := by
 have h1 := h.ha; have h2 := h.hb; have h3 := h.hu; have h4 := h.hv
 have k1 := h.ua; have k2 := h.ub; have k3 := h.va; have k4 := h.uv; have k5 := h.ab
 refine ⟨h.e.oth h1 _,by rw [hL]; exact List.getElem?_set_self (zA h.ra),by rw [hL]; exact zc _ h.ru (by omega),zc _ h.rb (by omega),zc _ h.rv (by omega),h1,h2,h3,h4,k5,hI,h.j⟩
theorem OnR.clone {a' u' g' : Nat} {r' : zmW} (h : OnR σ C s L G n a b u g v r q S) (hI : RdrI n r') (ha : S[a']? = some (rdB r' (.box (σ.length + 4) 0) (.box (σ.length + 7) 0) (rsv u' g' r'.L))) (hu : S[u']? = some (.row g' 3 (zpS r'.L))) (h1 : σ.length + 9 < a') (h2 : σ.length + 9 < u') (h3 : a' ≠ b) :
  OnR σ C s L G n a' b u' g' v r' q (S.set (σ.length + 9) (.box [.box (σ.length + 4) 0, .box (σ.length + 7) 0, .box (σ.length + 1) 0, .box (σ.length + 2) 0, .d (.slice (zbW s.bs)), .d (.slice (zeg s.cs)), .box a' 0, .box b 0])) := by
 have h2' := h.hb; have h4 := h.hv
 exact ⟨h.e.rdr _ _,zc _ ha (by omega),zc _ hu (by omega),zc _ h.rb (by omega),zc _ h.rv (by omega),h1,h2',h2,h4,h3,hI,h.j⟩
theorem OnR.putG (h : OnR σ C s L G n a b u g v r q S) (G' : List zJ) : OnR σ C s L G' n a b u g v r q (putLed S (σ.length + 7) (σ.length + 6) (σ.length + 8) G') := by
 have h1 := h.ha; have h2 := h.hb; have h3 := h.hu; have h4 := h.hv
 refine ⟨h.e.putG G', ?_, ?_, ?_, ?_,h1,h2,h3,h4,h.ab,h.i,h.j⟩ <;> unfold putLed
 ·exact zc _ (zc _ (zc _ h.ra (by omega)) (by omega)) (by omega)
 ·exact zc _ (zc _ (zc _ h.ru (by omega)) (by omega)) (by omega)
 ·exact zc _ (zc _ (zc _ h.rb (by omega)) (by omega)) (by omega)
 ·exact zc _ (zc _ (zc _ h.rv (by omega)) (by omega)) (by omega)
end
theorem on_weak {S : List zh} {A B : List AV} {a b : Nat} (ha : S[a]? = some (.box A)) (hb : S[b]? = some (.box B)) (hab : a ≠ b) (hA : A[8]? = some (.exact [])) (hB : B[4]? = some (.exact [])) (vs : List AV) :
  zov vs S vs ((S.set a (.box (A.set 8 (.rsl S.length 0 3 0 0))) ++ [zh.row 0 3 []]).set b (.box (B.set 4 (.own (S.length + 1) []))) ++ [zh.tok 3 0]) ∧
  ((S.set a (.box (A.set 8 (.rsl S.length 0 3 0 0))) ++ [zh.row 0 3 []]).set b (.box (B.set 4 (.own (S.length + 1) []))) ++ [zh.tok 3 0])[a]? = some (.box (A.set 8 (.rsl S.length 0 3 0 0))) ∧
  ((S.set a (.box (A.set 8 (.rsl S.length 0 3 0 0))) ++ [zh.row 0 3 []]).set b (.box (B.set 4 (.own (S.length + 1) []))) ++ [zh.tok 3 0])[S.length]? = some (.row 0 3 []) ∧
  ((S.set a (.box (A.set 8 (.rsl S.length 0 3 0 0))) ++ [zh.row 0 3 []]).set b (.box (B.set 4 (.own (S.length + 1) []))) ++ [zh.tok 3 0])[b]? = some (.box (B.set 4 (.own (S.length + 1) []))) ∧
  ((S.set a (.box (A.set 8 (.rsl S.length 0 3 0 0))) ++ [zh.row 0 3 []]).set b (.box (B.set 4 (.own (S.length + 1) []))) ++ [zh.tok 3 0])[S.length + 1]? = some (.tok 3 0) := by
 have la := zA ha
 have lb := zA hb
 obtain ⟨A',hA'⟩ : ∃ A',zh.box (A.set 8 (.rsl S.length 0 3 0 0)) = A' := ⟨_,rfl⟩
 obtain ⟨S1,hS1⟩ : ∃ S1,S.set a A' ++ [zh.row 0 3 []] = S1 := ⟨_,rfl⟩
 have l1 : S1.length = S.length + 1 := by rw [← hS1]; simp
 have b1 : S1[b]? = some (.box B) := by rw [← hS1]; exact zd (zc _ hb hab)
 have a1 : S1[a]? = some A' := by rw [← hS1]; exact zd (List.getElem?_set_self la)
 have r1 : S1[S.length]? = some (.row 0 3 []) := by
  rw [← hS1]
  have := zy (S.set a A') [zh.row 0 3 []]
  rw [List.length_set] at this
  exact this
 rw [hA',hS1]
 refine ⟨?_,zd (zc _ a1 (by omega)),zd (zc _ r1 (by omega)),zd (List.getElem?_set_self (by omega)), ?_⟩
 ·refine .rowB a 8 A 3 ha hA (by omega) ?_
  rw [hA',hS1]
  refine .tokB b 4 B [] 3 b1 hB (by simp) ?_
  rw [l1]
  exact .refl _ _
 ·have := zy (S1.set b (.box (B.set 4 (.own (S.length + 1) [])))) [zh.tok 3 0]
  rw [List.length_set,l1] at this
  exact this
theorem c_begunOn {σ : List zh} {c : TCas} (hc : casOk c) {K : KT}
  (hK1 : zeH c.f c.me c.topic c.offset ≠ 0 → ∀ S,WE σ (.box (znr c)) (.d .nilp) (.d .nilp) (bgF (ksC c) (zpQ c.recs)) (bgF (ksC c) (zpQ c.recs)).L (bgF (ksC c) (zpQ c.recs)).G S → K (.tup [.box (σ.length + 9) 0, .d (.bool true)]) S)
  (hK2 : zeH c.f c.me c.topic c.offset = 0 → ∀ S a b u v,OnR σ (.box (znr c)) (bgF (ksC c) (zpQ c.recs)) (bgF (ksC c) (zpQ c.recs)).L (bgF (ksC c) (zpQ c.recs)).G 0 a b u 0 v (zmY c.f c.me c.topic c.offset) (zmY c.f c.me c.topic c.offset) S → K (.tup [.box (σ.length + 9) 0, .d (.bool true)]) S) :
  zr Tryz.prog zcX [.agg (znr c)] σ K := by
 refine zr.weaken (c_begun25 hc (fun hz S hE => ⟨_,_, .refl _ _,hK1 hz S hE⟩) (fun hz S a b h1 h2 hE ha hb => ?_))
 have hI := newR_I hz hc.topic
 obtain ⟨k1,k2,k3,k4,k5⟩ := on_weak ha hb (by omega) rfl rfl [.tup [.box (σ.length + 9) 0, .d (.bool true)]]
 have la := zA ha
 refine ⟨_,_,k1,hK2 hz _ a b S.length (S.length + 1) ⟨(((hE.oth h1 _).app _).oth (by omega) _).app _,k2,k3,k4,k5,h1,by omega,by omega,by omega,by omega,hI,hI⟩⟩
theorem bcs_flatR (r : List UInt8) : ((bcs r).flatten).map AV.d = r.map fun b => AV.d (.int .u8 b.toNat) := by
 induction r with
 | nil => rfl
 | cons b r ih => simp only [bcs,List.map_cons,List.flatten_cons,List.map_append] at ih ⊢; rw [ih]; rfl
theorem gq55 {P Q : Prop} (h : Q) (e : Hd Q → P := by intro h; (repeat' first | simp -dsimp only [↓zeY, ↓zaC, ↓zbz, ↓zeZ, ↓zeU, ↓zeS, ↓zeV, ↓zeT, ↓zbE, ↓zbA, ↓zbF, ↓zbB, ↓zeW, ↓zby, ↓zbG, ↓zbC, ↓zbH, ↓zbD, ↓zeR, ↓zeX, ↓zbx, ↓zbJ, ↓zeP, ↓zeO, ↓zeQ,iN,bT,bF,eN, ↓zcF, ↓unC, ↓zW, ↓zK, ↓zL, ↓zN, ↓zad, ↓zax, ↓zcB, ↓zal, ↓zbj, ↓zQ, ↓zo, ↓zj, ↓zbr, ↓zg, ↓zai, ↓zH, ↓zaM, ↓zaV, ↓ze, ↓zD, ↓zw, ↓zB, ↓zao, ↓zdb, ↓zdx, ↓zaq, ↓zay, ↓zaU, ↓zbd, ↓zbl, ↓zu, ↓zan, ↓zM, ↓zE, ↓zaa,zdz,zbq,zbn,unA,zdy,bnd,zec,zaf,zS,zdY,dm,dm1,zC,zah,zen,zem,zP,Q0,Q1,Q2,Q3,Q4,Q5,zT,zx,zy,zO,zI,Q6,Q7,Q8,Q9,Q10,Q11,Q12,Q13,Q14,Nat.reduceAdd,Q15,Int.reduceToNat,Q16,Q17,Q18,Q19,Q20,reduceIte,Q21,Q22,zG,rep,zZ,zeF,toD,zaj,Q23,Q24,Q25,Q26,Q27,Q28,Nat.reduceLeDiff,Q29,Nat.reduceSub,Q30,Q31,Q32,sc,Q33,Q34,Q35,Q36,Q37,Q26,Q38,Q39,zii,zif,zic,zij,zcN,zig,zid,zih,zie,zcM,zcO,zim,zin,Bool.not_true,Bool.not_false,List.length_map,Bool.and_false,Bool.and_self,Bool.false_and,Bool.not_false,Bool.not_true,Bool.true_and,Int.toNat_natCast,Int.toNat_zero,List.drop_zero,List.length_map,List.length_nil,List.nil_append,List.take_length,Nat.sub_zero,Nat.zero_add,Option.isSome_none,Option.isSome_some,Option.map_none,Option.map_some,zdO,zaJ,beq_self_eq_true,bft,bne_self_eq_false,btf,zoU,zdY] | with_reducible refine zix ?_ | fail); exact h.go) : P := e ⟨h⟩
theorem zwq {σ : List zh} {b : UInt8} {r : List UInt8} (hr : (b :: r).length ≤ 1073741824) {K : KT} (hK : ∀ g,K (.rsl σ.length g 1 0 (b :: r).length) (σ ++ [.row g 1 ((b :: r).map fun b => AV.d (.int .u8 b.toNat))])) :
  zr Tryz.prog zeB [.d (.slice (bcs (b :: r)))] σ K := by
 refine zce zno.is rfl (fun s => List.range' σ.length (s.length - σ.length)) fun hl _ => zno.goes ?_
 have fin : ∀ g,zni σ.length (fun s => List.range' σ.length (s.length - σ.length)) K (some [.rsl σ.length g 1 0 (b :: r).length]) (σ ++ [.row g 1 ((b :: r).map fun b => AV.d (.int .u8 b.toNat))]) := fun g =>
  zdd (σ' := σ) (os := [.row g 1 ((b :: r).map fun b => AV.d (.int .u8 b.toNat))]) rfl (by simp) hl (by
   intro x hx; simp only [List.mem_cons,List.not_mem_nil,or_false] at hx; subst hx
   intro c hc
   obtain ⟨y,_,rfl⟩ := List.mem_map.1 hc
   exact .d _) (.rsl _ _ _ _ _ (by simp)) (hK g)
 have hcell : ∀ x ∈ bcs (b :: r),x.length = 1 := zgd
 simp only [znw,iN,bT,bF,eN]
 have hfl := bcs_flatR (b :: r)
 obtain ⟨es,hes⟩ : ∃ es,bcs (b :: r) = es := ⟨_,rfl⟩
 have hlen : es.length = (b :: r).length := by rw [← hes]; exact zaJ _
 rw [hes] at hfl hcell ⊢
 cases es with
 | nil => simp at hlen
 | cons e es =>
  simp only [zao,zdy]
  refine gq55 ?_
  refine ⟨by simp at hlen hr; omega, ?_⟩
  have := fin 1
  rw [← hfl, ← hlen] at this
  exact this
def turnP (p : zca) : zca := match p.rec_ with
 | [] => p
 | b :: r => { p with rec_ := (b ^^^ 1) :: r }
def zgb (s : zaQ) (r : zmW) (a : TAct) : zlj :=
 if a.do_ = 1 then { zfP with kind := 12,src := 1,proof := zgL s r.next }
 else if a.do_ = 2 then { zfP with kind := 12,src := 1,proof := if a.turn then turnP (zgL s a.offset) else zgL s a.offset }
 else a.m
abbrev actL (a : TAct) : List AV := .d (.int .i64 a.do_) :: .d (.int .i64 a.offset) :: .d (.bool a.turn) :: msgL a.m
theorem xor8 (b : UInt8) : IntKind.u8.wrap ((BitVec.ofInt IntKind.u8.bits (b.toNat : Int) ^^^ BitVec.ofInt IntKind.u8.bits 1).toNat : Int) = ((b ^^^ 1).toNat : Int) := by
 have : ∀ b : UInt8,IntKind.u8.wrap ((BitVec.ofInt IntKind.u8.bits (b.toNat : Int) ^^^ BitVec.ofInt IntKind.u8.bits 1).toNat : Int) = ((b ^^^ 1).toNat : Int) := by
  intro b
  obtain ⟨⟨⟨n,hn⟩⟩⟩ := b
  revert n
  decide +kernel
 exact this b
theorem znJ {s : zaQ} {N m : Nat} {o : Int} (hI : StI N m s) (hm : m ≤ 1000) (ho : ziL o) : zfM (zgL s o) := by
 have h1 := hI.bl
 unfold zgL
 split
 ·rename_i k hk
  have h2 := hI.cs k (List.mem_of_find?_eq_some hk)
  exact (makeF_small hI.tab hI.bs (by omega) (by omega) (by simp) ho).1
 ·obtain ⟨n1,n2,n3,n4,n5,n6,n7,n8,n9,n10⟩ := zhT
  exact n8
theorem zkv {s : zaQ} {N m n : Nat} {r : zmW} {x : TAct} (hI : StI N m s) (hm : m ≤ 1000) (hr : RdrI n r) (hx : actOk x) : ziR (zgb s r x) := by
 have h2 := hr.next
 have p1 := znJ hI hm (o := r.next) ⟨by omega,by omega⟩
 have p2 := znJ hI hm (o := x.offset) hx.1
 obtain ⟨n1,n2,n3,n4,n5,n6,n7,n8,n9,n10⟩ := zhT
 have tP : zfM (turnP (zgL s x.offset)) := by
  obtain ⟨q1,q2,q3,q4,q5,q6,q7,q8,q9⟩ := p2
  unfold turnP
  split
  ·exact ⟨q1,q2,q3,q4,q5,q6,q7,q8,q9⟩
  ·rename_i b t hb
   exact ⟨q1,by rw [hb] at q2; simpa using q2,q3,q4,q5,q6,q7,q8,q9⟩
 unfold zgb
 split
 ·exact ⟨n1,n2,n3,n4,n5,n6,n7,p1,n9,n10⟩
 split
 ·refine ⟨n1,n2,n3,n4,n5,n6,n7, ?_,n9,n10⟩
  split
  ·exact tP
  ·exact p2
 ·exact hx.2
theorem c_comes {σ S : List zh} {C : zh} {w : AV} {s : zaQ} {L : List (List UInt8)} {G : List zJ} {x : TAct} {r : zmW} {rv : AV} {N m n a a1 b1 a2 b2 : Nat} {ks : List Int} {h0 : zcW} (hE : WE σ C (.box a 0) w s L G S) (ha : S[a]? = some (rdB r (.box a1 b1) (.box a2 b2) rv)) (hI : StI N m s) (hm : m ≤ 1000) (hH : ziP ks h0 s)
  (hr : RdrI n r) (hx : actOk x) {K : KT} (hK : K (msgA (zgb s r x)) S) : zr Tryz.prog zdr [.box (σ.length + 9) 0, .agg (actL x)] S K := by
 refine acall_frz zjb.is rfl 2 fun hl _ => zjb.goes ?_
 have g9 := fun τ => zd (τ := τ) hE.st
 have ga := fun τ => zd (τ := τ) ha
 simp only [zjf,iN,bT,bF,eN,zl5]
 cases h1 : (x.do_ == 1)
 rotate_left
 ·have e : zgb s r x = { zfP with kind := 12,src := 1,proof := zgL s r.next } := by rw [zgb,if_pos (by simpa using h1)]
  rw [e] at hK
  refine gq2 (zf h1 g9) ?_
  refine zmS (ga _) ?_
  refine gq2 (zf h1 g9) ?_
  refine c_proof25 (hE.app _) hI hm hH fun τ => ?_
  refine gq2 (zf h1 g9) ?_
  exact zmd (r := msgA { zfP with kind := 12,src := 1,proof := zgL s r.next }) rfl hl hK
 cases h2 : (x.do_ == 2)
 ·have e : zgb s r x = x.m := by rw [zgb,if_neg (by simpa using h1),if_neg (by simpa using h2)]
  rw [e] at hK
  refine gq2 (zf h1 (zf h2 g9)) ?_
  exact zmd (r := msgA x.m) rfl hl hK
 have e : zgb s r x = { zfP with kind := 12,src := 1,proof := if x.turn then turnP (zgL s x.offset) else zgL s x.offset } := by rw [zgb,if_neg (by simpa using h1),if_pos (by simpa using h2)]
 rw [e] at hK
 clear e
 have hp := (znJ hI hm hx.1).rec_
 refine gq2 (zf h1 (zf h2 g9)) ?_
 refine c_proof25 (hE.app _) hI hm hH fun τ => ?_
 obtain ⟨p,hpe⟩ : ∃ p,zgL s x.offset = p := ⟨_,rfl⟩
 rw [hpe] at hK hp ⊢
 cases h3 : x.turn
 ·rw [h3,if_neg (by simp)] at hK
  refine gq2 (zf h1 (zf h2 (zf h3 g9))) ?_
  exact zmd (r := msgA { zfP with kind := 12,src := 1,proof := p }) rfl hl hK
 rw [h3,if_pos rfl] at hK
 have hlb : (bcs p.rec_).length = p.rec_.length := zaJ _
 cases hb : p.rec_ with
 | nil =>
  have hpos : decide ((p.rec_.length : Int) > 0) = false := by rw [hb]; rfl
  have e : turnP p = p := by rw [turnP,hb]
  rw [e] at hK
  refine gq2 (zf h1 (zf h2 (zf h3 (zf g9 (zf hlb hpos))))) ?_
  refine zmd (r := msgA { zfP with kind := 12,src := 1,proof := p }) ?_ hl hK
  cases p
  simp only at hb
  subst hb
  rfl
 | cons b t =>
  have e : turnP p = { p with rec_ := (b ^^^ 1) :: t } := by rw [turnP,hb]
  rw [e] at hK
  have hpos : decide ((p.rec_.length : Int) > 0) = true := by rw [hb]; simp
  refine gq2 (zf h1 (zf h2 (zf h3 (zf g9 (zf hlb hpos))))) ?_
  rw [hb] at hp
  rw [hb]
  refine zwq (b := b) (r := t) (by omega) fun g => ?_
  refine gq2 (zf h1 (zf h2 (zf h3 (zf g9 (zf hlb hpos))))) ?_
  rw [xor8]
  have key : ∀ X1 X2 X3,frz (S ++ X1 :: X2 :: X3 :: (τ ++ [.row g 1 (AV.d (.int .u8 ((b ^^^ 1).toNat : Int)) :: t.map fun b => AV.d (.int .u8 b.toNat))])) S.length 2 (.rsl (S.length + (τ.length + 3)) g 1 0 (t.length + 1)) = some (.slice (bcs ((b ^^^ 1) :: t))) := fun X1 X2 X3 => by
   have h := frz_rw (σ := S ++ X1 :: X2 :: X3 :: (τ ++ [.row g 1 (AV.d (.int .u8 ((b ^^^ 1).toNat : Int)) :: t.map fun b => AV.d (.int .u8 b.toNat))])) (n₀ := S.length) (m := 0) (t := S.length + (τ.length + 3)) (g := g) (sz := 1) (es := bcs ((b ^^^ 1) :: t)) (by
    rw [zx]
    simp only [List.getElem?_cons_succ]
    rw [zy,show zaE (bcs ((b ^^^ 1) :: t)) = _ from bcs_flatR _]
    rfl) (by omega) zgd
   rw [zaJ] at h
   exact h
  refine zmd (r := msgA { zfP with kind := 12,src := 1,proof := { p with rec_ := (b ^^^ 1) :: t } }) ?_ hl hK
  have ex : ∀ σ n es,frz σ n 2 (.exact es) = some (.slice es) := fun _ _ _ => rfl
  simp only [zcC,frzT,frz1,List.map_cons,List.map_nil,key,frz_dd,ex,allO]
  rfl
end Go.Proofs.YtfgbofkdhfjegaaGreat
