/- Contract: whether a block has put what a proof names. -/
import Derived.Test.YtfgbofkdhfjegaaGreatBv1
import Derived.Test.YtfgbofkdhfjegaaGreatPt2
import Derived.Test.YtfgbofkdhfjegaaGreatCodec1
import Derived.Test.YtfgbofkdhfjegaaGreatBv5
set_option linter.all false
set_option maxRecDepth 100000
namespace Go.Proofs.YtfgbofkdhfjegaaGreat
open Go.AW
def zhd (s : zaP) (o : Int) : zcf := match s.cs.find? (fun k => (zhZ s.L s.bs k [116] o).1 == 0) with
 | some k => (zhZ s.L s.bs k [116] o).2.1
 | none => zmc
theorem c_proof25 {σ S : List zh} {C : zh} {r w : AV} {s : zaP} {L : List (List UInt8)} {G : List zI} {o : Int} {N m : Nat} {ks : List Int} {h0 : zcS} (hE : WE σ C r w s L G S) (hI : StI N m s) (hm : m ≤ 1000) (hH : ziQ ks h0 s)
  {K : KT} (hK : ∀ τ,K (zhy (zhd s o)) (S ++ τ)) : zp Tryz.prog zeA [.box (σ.length + 9) 0, .d (.int .i64 o)] S K := by
 refine zdV zkk.is rfl fun hl _ => zkk.goes ?_
 have hcl := hI.cl
 have hbl := hI.bl
 have hcq : (zeg s.cs).length = s.cs.length := List.length_map ..
 have w9 := fun τ => zd (τ := τ) hE.st
 simp only [zkz,iN,bT,bF,eN,zl4]
 refine gq2 (zf w9 hcq) ?_
 refine zr s.cs.length (fun k vs S' => vs = [.d (.int .i64 k)] ∧ (∃ τ,S' = S ++ τ) ∧ S'[S.length]? = some (.box [.d (.str []), .d (.int .i64 0), .exact [], .exact [], .d (.int .i64 0), .d (.int .i64 0), .exact [], .d (.int .i64 0), .d (.int .i64 0), .exact []]) ∧ ∀ x ∈ s.cs.take k,((zhZ s.L s.bs x [116] o).1 == 0) = false) ⟨rfl,⟨_,rfl⟩,by rw [zy]; rfl,by simp⟩ ?_
 rintro k vs S' hk ⟨rfl,⟨τ,hτ⟩,hz,hno⟩
 have hE' : WE σ C r w s L G S' := hτ ▸ hE.app τ
 have v9 := hE'.st
 have v9' := fun τ => zd (τ := τ) hE'.st
 have z' := fun τ => zd (τ := τ) hz
 have lz := zx hz
 by_cases hlt : k < s.cs.length
 ·have hd : decide ((k : Int) < (s.cs.length : Int)) = true := by simp; omega
  have hx : s.cs[k]? = some s.cs[k] := by simp [hlt]
  have hgx := zS (f := certD) hx
  have hsc := hI.cs _ (List.getElem_mem hlt)
  obtain ⟨x,hxx⟩ : ∃ x,s.cs[k] = x := ⟨_,rfl⟩
  rw [hxx] at hx hgx hsc
  have hgx : (zeg s.cs)[k]? = some (certD x) := hgx
  have hw : IntKind.i64.wrap ((k : Int) + 1) = ((k + 1 : Nat) : Int) := by rw [zac (by omega) (by omega)]; rfl
  have hnx : ((zhZ s.L s.bs x [116] o).1 == 0) = false → ∀ y ∈ s.cs.take (k + 1),((zhZ s.L s.bs y [116] o).1 == 0) = false := fun h y hy => by
   rw [List.take_add_one,hx] at hy
   rcases List.mem_append.1 hy with hy | hy
   ·exact hno y hy
   ·simp at hy; subst hy; exact h
  have hfd : ((zhZ s.L s.bs x [116] o).1 == 0) = true → zhd s o = (zhZ s.L s.bs x [116] o).2.1 := fun h => by
   have e : s.cs = s.cs.take k ++ x :: s.cs.drop (k + 1) := by
    obtain ⟨hk',rfl⟩ := List.getElem?_eq_some_iff.1 hx
    simp
   have hf : s.cs.find? (fun k => (zhZ s.L s.bs k [116] o).1 == 0) = some x := by
    rw [e,List.find?_append,List.find?_eq_none.2 (fun y hy => by simp [hno y hy]),Option.none_or,List.find?_cons,h]
   rw [zhd,hf]
  refine gq50 (zf hd (zf hgx (zf hcq (zf v9 v9')))) ?_
  refine ⟨?_, ?_⟩
  rotate_left
  refine gq2 (zf v9 v9') ?_
  all_goals
   refine c_r23Make (L := s.L) (l := s.bs) (c := x) (tp := [116]) (o := o) (zd hE'.xb) hI.tab.len (by omega) hI.bs (by omega) ?_
   rw [make_same hH,zbq (zd hE'.xb)]
   obtain ⟨M,hM⟩ : ∃ M,zhZ s.L s.bs x [116] o = M := ⟨_,rfl⟩
   rw [hM] at hnx hfd ⊢
   cases he : (M.1 == 0)
   ·refine gq2 (zf he hw) ?_
    exact zaG.next hlt ⟨rfl,⟨_,by rw [hτ,List.append_assoc]⟩,z' _,hnx he⟩
   ·have hf := hfd he
    have s0 : ∀ τ Y,(S' ++ τ).set S.length Y = S'.set S.length Y ++ τ := fun τ Y => List.set_append_left _ _ lz
    have s1 : ∀ Y,(S'.set S.length Y)[S.length]? = some Y := fun Y => List.getElem?_set_self lz
    have s2 : ∀ Y τ,(S'.set S.length Y ++ τ)[S.length]? = some Y := fun Y τ => zd (s1 Y)
    have fin : ∀ Y τ',K (zhy M.2.1) (S'.set S.length Y ++ τ') := fun Y τ' => by
     have e : S'.set S.length Y ++ τ' = S ++ (τ.set 0 Y ++ τ') := by
      rw [hτ,List.set_append_right _ _ (Nat.le_refl _),Nat.sub_self,List.append_assoc]
     rw [e, ← hf]; exact hK _
    refine gq2 (zf he (zf z' (zf s0 (zf s1 s2)))) ?_
    refine zfX ?_
    exact fin _ _
 ·have hd : decide ((k : Int) < (s.cs.length : Int)) = false := by simp; omega
  rw [show s.cs.take k = s.cs from List.take_of_length_le (by omega)] at hno
  have hf : zhd s o = zmc := by
   rw [zhd,List.find?_eq_none.2 (fun y hy => by simp [hno y hy])]
  have s1 : ∀ Y,(S'.set S.length Y)[S.length]? = some Y := fun Y => List.getElem?_set_self lz
  refine gq2 (zf hd (zf hcq (zf hz s1))) ?_
  have e : ∀ Y,S'.set S.length Y = S ++ τ.set 0 Y := fun Y => by
   rw [hτ,List.set_append_right _ _ (Nat.le_refl _),Nat.sub_self]
  rw [e]
  refine zfX ?_
  rw [hf] at hK
  exact hK _
deriving instance DecidableEq for zbb
structure OnR (σ : List zh) (C : zh) (s : zaP) (L : List (List UInt8)) (G : List zI) (n a b u g v : Nat) (r q : zrc) (S : List zh) : Prop where
 e : WE σ C (.box a 0) (.box b 0) s L G S
 ra : S[a]? = some (rdB r (.box (σ.length + 4) 0) (.box (σ.length + 7) 0) (rsv u g r.L))
 ru : S[u]? = some (.row g 3 (zoI r.L))
 rb : S[b]? = some (rdX q (.own v (zbm q.L)) (.box (σ.length + 1) 0) (.box (σ.length + 2) 0))
 rv : S[v]? = some (.tok 3 q.L.length)
 ha : σ.length + 9 < a
 hb : σ.length + 9 < b
 hu : σ.length + 9 < u
 hv : σ.length + 9 < v
 ab : a ≠ b
 i : RdrI n r
 j : RdrI n q
section
variable {σ S : List zh} {C : zh} {s : zaP} {L : List (List UInt8)} {G : List zI} {n a b u g v : Nat} {r q : zrc}
theorem OnR.ua (h : OnR σ C s L G n a b u g v r q S) : u ≠ a := fun e => by have := h.ru; rw [e,h.ra] at this; cases this
theorem OnR.ub (h : OnR σ C s L G n a b u g v r q S) : u ≠ b := fun e => by have := h.ru; rw [e,h.rb] at this; cases this
theorem OnR.va (h : OnR σ C s L G n a b u g v r q S) : v ≠ a := fun e => by have := h.rv; rw [e,h.ra] at this; cases this
theorem OnR.uv (h : OnR σ C s L G n a b u g v r q S) : u ≠ v := fun e => by have := h.ru; rw [e,h.rv] at this; cases this
theorem OnR.app (h : OnR σ C s L G n a b u g v r q S) (τ : List zh) : OnR σ C s L G n a b u g v r q (S ++ τ) :=
 ⟨h.e.app τ,zd h.ra,zd h.ru,zd h.rb,zd h.rv,h.ha,h.hb,h.hu,h.hv,h.ab,h.i,h.j⟩
theorem OnR.mono {m : Nat} (h : OnR σ C s L G n a b u g v r q S) (hm : n ≤ m) : OnR σ C s L G m a b u g v r q S :=
 ⟨h.e,h.ra,h.ru,h.rb,h.rv,h.ha,h.hb,h.hu,h.hv,h.ab,h.i.mono hm,h.j.mono hm⟩
theorem OnR.take {g' : Nat} {r' : zrc} (h : OnR σ C s L G n a b u g v r q S) (hI : RdrI n r') : OnR σ C s L G n a b u g' v r' q ((S.set u (.row g' 3 (zoI r'.L))).set a (rdB r' (.box (σ.length + 4) 0) (.box (σ.length + 7) 0) (rsv u g' r'.L))) := by
 have h1 := h.ha; have h2 := h.hb; have h3 := h.hu; have h4 := h.hv
 have k1 := h.ua; have k2 := h.ub; have k3 := h.va; have k4 := h.uv; have k5 := h.ab
 refine ⟨(h.e.oth h3 _).oth h1 _,List.getElem?_set_self (by have := zx h.ra; simpa using this),zc _ (List.getElem?_set_self (zx h.ru)) (by omega),zc _ (zc _ h.rb (by omega)) (by omega),zc _ (zc _ h.rv (by omega)) (by omega),h1,h2,h3,h4,k5,hI,h.j⟩
theorem OnR.clone {a' u' g' : Nat} {r' : zrc} (h : OnR σ C s L G n a b u g v r q S) (hI : RdrI n r') (ha : S[a']? = some (rdB r' (.box (σ.length + 4) 0) (.box (σ.length + 7) 0) (rsv u' g' r'.L))) (hu : S[u']? = some (.row g' 3 (zoI r'.L))) (h1 : σ.length + 9 < a') (h2 : σ.length + 9 < u') (h3 : a' ≠ b) :
  OnR σ C s L G n a' b u' g' v r' q (S.set (σ.length + 9) (.box [.box (σ.length + 4) 0, .box (σ.length + 7) 0, .box (σ.length + 1) 0, .box (σ.length + 2) 0, .d (.slice (zca s.bs)), .d (.slice (zeg s.cs)), .box a' 0, .box b 0])) := by
 have h2' := h.hb; have h4 := h.hv
 exact ⟨h.e.rdr _ _,zc _ ha (by omega),zc _ hu (by omega),zc _ h.rb (by omega),zc _ h.rv (by omega),h1,h2',h2,h4,h3,hI,h.j⟩
theorem OnR.putG (h : OnR σ C s L G n a b u g v r q S) (G' : List zI) : OnR σ C s L G' n a b u g v r q (putLed S (σ.length + 7) (σ.length + 6) (σ.length + 8) G') := by
 have h1 := h.ha; have h2 := h.hb; have h3 := h.hu; have h4 := h.hv
 refine ⟨h.e.putG G', ?_, ?_, ?_, ?_,h1,h2,h3,h4,h.ab,h.i,h.j⟩ <;> unfold putLed
 ·exact zc _ (zc _ (zc _ h.ra (by omega)) (by omega)) (by omega)
 ·exact zc _ (zc _ (zc _ h.ru (by omega)) (by omega)) (by omega)
 ·exact zc _ (zc _ (zc _ h.rb (by omega)) (by omega)) (by omega)
 ·exact zc _ (zc _ (zc _ h.rv (by omega)) (by omega)) (by omega)
end
theorem on_weak {S : List zh} {A B : List AV} {a b : Nat} (ha : S[a]? = some (.box A)) (hb : S[b]? = some (.box B)) (hab : a ≠ b) (hA : A[8]? = some (.exact [])) (hB : B[4]? = some (.exact [])) (vs : List AV) :
  zoF vs S vs ((S.set a (.box (A.set 8 (.rsl S.length 0 3 0 0))) ++ [zh.row 0 3 []]).set b (.box (B.set 4 (.own (S.length + 1) []))) ++ [zh.tok 3 0]) ∧
  ((S.set a (.box (A.set 8 (.rsl S.length 0 3 0 0))) ++ [zh.row 0 3 []]).set b (.box (B.set 4 (.own (S.length + 1) []))) ++ [zh.tok 3 0])[a]? = some (.box (A.set 8 (.rsl S.length 0 3 0 0))) ∧
  ((S.set a (.box (A.set 8 (.rsl S.length 0 3 0 0))) ++ [zh.row 0 3 []]).set b (.box (B.set 4 (.own (S.length + 1) []))) ++ [zh.tok 3 0])[S.length]? = some (.row 0 3 []) ∧
  ((S.set a (.box (A.set 8 (.rsl S.length 0 3 0 0))) ++ [zh.row 0 3 []]).set b (.box (B.set 4 (.own (S.length + 1) []))) ++ [zh.tok 3 0])[b]? = some (.box (B.set 4 (.own (S.length + 1) []))) ∧
  ((S.set a (.box (A.set 8 (.rsl S.length 0 3 0 0))) ++ [zh.row 0 3 []]).set b (.box (B.set 4 (.own (S.length + 1) []))) ++ [zh.tok 3 0])[S.length + 1]? = some (.tok 3 0) := by
 have la := zx ha
 have lb := zx hb
 obtain ⟨A',hA'⟩ : ∃ A',zh.box (A.set 8 (.rsl S.length 0 3 0 0)) = A' := ⟨_,rfl⟩
 obtain ⟨S1,hS1⟩ : ∃ S1,S.set a A' ++ [zh.row 0 3 []] = S1 := ⟨_,rfl⟩
 have l1 : S1.length = S.length + 1 := by rw [← hS1]; simp
 have b1 : S1[b]? = some (.box B) := by rw [← hS1]; exact zd (zc _ hb hab)
 have a1 : S1[a]? = some A' := by rw [← hS1]; exact zd (List.getElem?_set_self la)
 have r1 : S1[S.length]? = some (.row 0 3 []) := by
  rw [← hS1]
  have := zy (S.set a A') [zh.row 0 3 []]
  rw [List.length_set] at this
  exact this
 rw [hA',hS1]
 refine ⟨?_,zd (zc _ a1 (by omega)),zd (zc _ r1 (by omega)),zd (List.getElem?_set_self (by omega)), ?_⟩
 ·refine .rowB a 8 A 3 ha hA (by omega) ?_
  rw [hA',hS1]
  refine .tokB b 4 B [] 3 b1 hB (by simp) ?_
  rw [l1]
  exact .refl _ _
 ·have := zy (S1.set b (.box (B.set 4 (.own (S.length + 1) [])))) [zh.tok 3 0]
  rw [List.length_set,l1] at this
  exact this
theorem c_begunOn {σ : List zh} {c : TCas} (hc : casOk c) {K : KT}
  (hK1 : zeJ c.f c.me c.topic c.offset ≠ 0 → ∀ S,WE σ (.box (zqD c)) (.d .nilp) (.d .nilp) (bgF (ksC c) (zoQ c.recs)) (bgF (ksC c) (zoQ c.recs)).L (bgF (ksC c) (zoQ c.recs)).G S → K (.tup [.box (σ.length + 9) 0, .d (.bool true)]) S)
  (hK2 : zeJ c.f c.me c.topic c.offset = 0 → ∀ S a b u v,OnR σ (.box (zqD c)) (bgF (ksC c) (zoQ c.recs)) (bgF (ksC c) (zoQ c.recs)).L (bgF (ksC c) (zoQ c.recs)).G 0 a b u 0 v (zkO c.f c.me c.topic c.offset) (zkO c.f c.me c.topic c.offset) S → K (.tup [.box (σ.length + 9) 0, .d (.bool true)]) S) :
  zp Tryz.prog zcT [.agg (zqD c)] σ K := by
 refine zp.weaken (c_begun25 hc (fun hz S hE => ⟨_,_, .refl _ _,hK1 hz S hE⟩) (fun hz S a b h1 h2 hE ha hb => ?_))
 have hI := newR_I hz hc.topic
 obtain ⟨k1,k2,k3,k4,k5⟩ := on_weak ha hb (by omega) rfl rfl [.tup [.box (σ.length + 9) 0, .d (.bool true)]]
 have la := zx ha
 refine ⟨_,_,k1,hK2 hz _ a b S.length (S.length + 1) ⟨(((hE.oth h1 _).app _).oth (by omega) _).app _,k2,k3,k4,k5,h1,by omega,by omega,by omega,by omega,hI,hI⟩⟩
theorem ztl (r : List UInt8) : ((bcs r).flatten).map AV.d = r.map fun b => AV.d (.int .u8 b.toNat) := by
 induction r with
 | nil => rfl
 | cons b r ih => simp only [bcs,List.map_cons,List.flatten_cons,List.map_append] at ih ⊢; rw [ih]; rfl
theorem gq53 {P Q : Prop} (h : Q) (e : Hd Q → P := by intro h; (repeat' first | simp -dsimp only [↓zfT, ↓zaI, ↓zbP, ↓zfV, ↓zfN, ↓zfL, ↓zfO, ↓zfM, ↓zbU, ↓zbQ, ↓zbV, ↓zbR, ↓zfP, ↓zbN, ↓zbW, ↓zbS, ↓zbX, ↓zbT, ↓zfK, ↓zfQ, ↓zbM, ↓zbY, ↓zfF, ↓zfE, ↓zfH,iN,bT,bF,eN, ↓zcJ, ↓unC, ↓zaa, ↓zK, ↓zL, ↓zO, ↓zaf, ↓zaz, ↓zcK, ↓zar, ↓zbk, ↓zR, ↓zo, ↓zj, ↓zbz, ↓zg, ↓zam, ↓zH, ↓zaV, ↓zbc, ↓ze, ↓zB, ↓zu, ↓zC, ↓zap, ↓zdk, ↓zdO, ↓zav, ↓zaF, ↓zaZ, ↓zbj, ↓zbt, ↓zA, ↓zas, ↓zM, ↓zF, ↓zae,zdP,zbI,zbC,unA,zdL,bnd,zeq,zag,zQ,zek,dm,dm1,zD,zak,zeP,zeO,zP,Q0,Q1,Q2,Q3,Q4,Q5,zW,zt,zy,zN,zJ,Q6,Q7,Q8,Q9,Q10,Q11,Q12,Q13,Q14,Nat.reduceAdd,Q15,Int.reduceToNat,Q16,Q17,Q18,Q19,Q20,reduceIte,Q21,Q22,zG,rep,zab,zfq,toD,zaq,Q23,Q24,Q25,Q26,Q27,Q28,Nat.reduceLeDiff,Q29,Nat.reduceSub,Q30,Q31,Q32,sc,Q33,Q34,Q35,Q36,Q37,Q26,Q38,Q39,zjD,zjA,zjx,zjE,zdf,zjB,zjy,zjC,zjz,zde,zdg,zjG,zjH,Bool.not_true,Bool.not_false,List.length_map,Bool.and_false,Bool.and_self,Bool.false_and,Bool.not_false,Bool.not_true,Bool.true_and,Int.toNat_natCast,Int.toNat_zero,List.drop_zero,List.length_map,List.length_nil,List.nil_append,List.take_length,Nat.sub_zero,Nat.zero_add,Option.isSome_none,Option.isSome_some,Option.map_none,Option.map_some,zdn,zaH,beq_self_eq_true,bft,bne_self_eq_false,btf,zpf,zek] | with_reducible refine zjK ?_ | fail); exact h.go) : P := e ⟨h⟩
theorem zwz {σ : List zh} {b : UInt8} {r : List UInt8} (hr : (b :: r).length ≤ 1073741824) {K : KT} (hK : ∀ g,K (.rsl σ.length g 1 0 (b :: r).length) (σ ++ [.row g 1 ((b :: r).map fun b => AV.d (.int .u8 b.toNat))])) :
  zp Tryz.prog zeE [.d (.slice (bcs (b :: r)))] σ K := by
 refine zbB znB.is rfl (fun s => List.range' σ.length (s.length - σ.length)) fun hl _ => znB.goes ?_
 have fin : ∀ g,zmN σ.length (fun s => List.range' σ.length (s.length - σ.length)) K (some [.rsl σ.length g 1 0 (b :: r).length]) (σ ++ [.row g 1 ((b :: r).map fun b => AV.d (.int .u8 b.toNat))]) := fun g =>
  zcp (σ' := σ) (os := [.row g 1 ((b :: r).map fun b => AV.d (.int .u8 b.toNat))]) rfl (by simp) hl (by
   intro x hx; simp only [List.mem_cons,List.not_mem_nil,or_false] at hx; subst hx
   intro c hc
   obtain ⟨y,_,rfl⟩ := List.mem_map.1 hc
   exact .d _) (.rsl _ _ _ _ _ (by simp)) (hK g)
 have hcell : ∀ x ∈ bcs (b :: r),x.length = 1 := zfz
 simp only [znH,iN,bT,bF,eN]
 have hfl := ztl (b :: r)
 obtain ⟨es,hes⟩ : ∃ es,bcs (b :: r) = es := ⟨_,rfl⟩
 have hlen : es.length = (b :: r).length := by rw [← hes]; exact zaH _
 rw [hes] at hfl hcell ⊢
 cases es with
 | nil => simp at hlen
 | cons e es =>
  simp only [zap,zdL]
  refine gq53 ?_
  refine ⟨by simp at hlen hr; omega, ?_⟩
  have := fin 1
  rw [← hfl, ← hlen] at this
  exact this
def turnP (p : zcf) : zcf := match p.rec_ with
 | [] => p
 | b :: r => { p with rec_ := (b ^^^ 1) :: r }
def zfR (s : zaP) (r : zrc) (a : TAct) : zlS :=
 if a.do_ = 1 then { zgg with kind := 12,src := 1,proof := zhd s r.next }
 else if a.do_ = 2 then { zgg with kind := 12,src := 1,proof := if a.turn then turnP (zhd s a.offset) else zhd s a.offset }
 else a.m
abbrev actL (a : TAct) : List AV := .d (.int .i64 a.do_) :: .d (.int .i64 a.offset) :: .d (.bool a.turn) :: msgL a.m
theorem xor8 (b : UInt8) : IntKind.u8.wrap ((BitVec.ofInt IntKind.u8.bits (b.toNat : Int) ^^^ BitVec.ofInt IntKind.u8.bits 1).toNat : Int) = ((b ^^^ 1).toNat : Int) := by
 have : ∀ b : UInt8,IntKind.u8.wrap ((BitVec.ofInt IntKind.u8.bits (b.toNat : Int) ^^^ BitVec.ofInt IntKind.u8.bits 1).toNat : Int) = ((b ^^^ 1).toNat : Int) := by
  intro b
  obtain ⟨⟨⟨n,hn⟩⟩⟩ := b
  revert n
  decide +kernel
 exact this b
theorem znU {s : zaP} {N m : Nat} {o : Int} (hI : StI N m s) (hm : m ≤ 1000) (ho : ziM o) : zgc (zhd s o) := by
 have h1 := hI.bl
 unfold zhd
 split
 ·rename_i k hk
  have h2 := hI.cs k (List.mem_of_find?_eq_some hk)
  exact (makeF_small hI.tab hI.bs (by omega) (by omega) (by simp) ho).1
 ·obtain ⟨n1,n2,n3,n4,n5,n6,n7,n8,n9,n10⟩ := zik
  exact n8
theorem zij {s : zaP} {N m n : Nat} {r : zrc} {x : TAct} (hI : StI N m s) (hm : m ≤ 1000) (hr : RdrI n r) (hx : actOk x) : ziS (zfR s r x) := by
 have h2 := hr.next
 have p1 := znU hI hm (o := r.next) ⟨by omega,by omega⟩
 have p2 := znU hI hm (o := x.offset) hx.1
 obtain ⟨n1,n2,n3,n4,n5,n6,n7,n8,n9,n10⟩ := zik
 have tP : zgc (turnP (zhd s x.offset)) := by
  obtain ⟨q1,q2,q3,q4,q5,q6,q7,q8,q9⟩ := p2
  unfold turnP
  split
  ·exact ⟨q1,q2,q3,q4,q5,q6,q7,q8,q9⟩
  ·rename_i b t hb
   exact ⟨q1,by rw [hb] at q2; simpa using q2,q3,q4,q5,q6,q7,q8,q9⟩
 unfold zfR
 split
 ·exact ⟨n1,n2,n3,n4,n5,n6,n7,p1,n9,n10⟩
 split
 ·refine ⟨n1,n2,n3,n4,n5,n6,n7, ?_,n9,n10⟩
  split
  ·exact tP
  ·exact p2
 ·exact hx.2
theorem c_comes {σ S : List zh} {C : zh} {w : AV} {s : zaP} {L : List (List UInt8)} {G : List zI} {x : TAct} {r : zrc} {rv : AV} {N m n a a1 b1 a2 b2 : Nat} {ks : List Int} {h0 : zcS} (hE : WE σ C (.box a 0) w s L G S) (ha : S[a]? = some (rdB r (.box a1 b1) (.box a2 b2) rv)) (hI : StI N m s) (hm : m ≤ 1000) (hH : ziQ ks h0 s)
  (hr : RdrI n r) (hx : actOk x) {K : KT} (hK : K (msgA (zfR s r x)) S) : zp Tryz.prog zdp [.box (σ.length + 9) 0, .agg (actL x)] S K := by
 refine acall_frz zjc.is rfl 2 fun hl _ => zjc.goes ?_
 have g9 := fun τ => zd (τ := τ) hE.st
 have ga := fun τ => zd (τ := τ) ha
 simp only [zji,iN,bT,bF,eN,zl5]
 cases h1 : (x.do_ == 1)
 rotate_left
 ·have e : zfR s r x = { zgg with kind := 12,src := 1,proof := zhd s r.next } := by rw [zfR,if_pos (by simpa using h1)]
  rw [e] at hK
  refine gq2 (zf h1 g9) ?_
  refine c_rdNext (ga _) ?_
  refine gq2 (zf h1 g9) ?_
  refine c_proof25 (hE.app _) hI hm hH fun τ => ?_
  refine gq2 (zf h1 g9) ?_
  exact zmp (r := msgA { zgg with kind := 12,src := 1,proof := zhd s r.next }) rfl hl hK
 cases h2 : (x.do_ == 2)
 ·have e : zfR s r x = x.m := by rw [zfR,if_neg (by simpa using h1),if_neg (by simpa using h2)]
  rw [e] at hK
  refine gq2 (zf h1 (zf h2 g9)) ?_
  exact zmp (r := msgA x.m) rfl hl hK
 have e : zfR s r x = { zgg with kind := 12,src := 1,proof := if x.turn then turnP (zhd s x.offset) else zhd s x.offset } := by rw [zfR,if_neg (by simpa using h1),if_pos (by simpa using h2)]
 rw [e] at hK
 clear e
 have hp := (znU hI hm hx.1).rec_
 refine gq2 (zf h1 (zf h2 g9)) ?_
 refine c_proof25 (hE.app _) hI hm hH fun τ => ?_
 obtain ⟨p,hpe⟩ : ∃ p,zhd s x.offset = p := ⟨_,rfl⟩
 rw [hpe] at hK hp ⊢
 cases h3 : x.turn
 ·rw [h3,if_neg (by simp)] at hK
  refine gq2 (zf h1 (zf h2 (zf h3 g9))) ?_
  exact zmp (r := msgA { zgg with kind := 12,src := 1,proof := p }) rfl hl hK
 rw [h3,if_pos rfl] at hK
 have hlb : (bcs p.rec_).length = p.rec_.length := zaH _
 cases hb : p.rec_ with
 | nil =>
  have hpos : decide ((p.rec_.length : Int) > 0) = false := by rw [hb]; rfl
  have e : turnP p = p := by rw [turnP,hb]
  rw [e] at hK
  refine gq2 (zf h1 (zf h2 (zf h3 (zf g9 (zf hlb hpos))))) ?_
  refine zmp (r := msgA { zgg with kind := 12,src := 1,proof := p }) ?_ hl hK
  cases p
  simp only at hb
  subst hb
  rfl
 | cons b t =>
  have e : turnP p = { p with rec_ := (b ^^^ 1) :: t } := by rw [turnP,hb]
  rw [e] at hK
  have hpos : decide ((p.rec_.length : Int) > 0) = true := by rw [hb]; simp
  refine gq2 (zf h1 (zf h2 (zf h3 (zf g9 (zf hlb hpos))))) ?_
  rw [hb] at hp
  rw [hb]
  refine zwz (b := b) (r := t) (by omega) fun g => ?_
  refine gq2 (zf h1 (zf h2 (zf h3 (zf g9 (zf hlb hpos))))) ?_
  rw [xor8]
  have key : ∀ X1 X2 X3,frz (S ++ X1 :: X2 :: X3 :: (τ ++ [.row g 1 (AV.d (.int .u8 ((b ^^^ 1).toNat : Int)) :: t.map fun b => AV.d (.int .u8 b.toNat))])) S.length 2 (.rsl (S.length + (τ.length + 3)) g 1 0 (t.length + 1)) = some (.slice (bcs ((b ^^^ 1) :: t))) := fun X1 X2 X3 => by
   have h := frz_rw (σ := S ++ X1 :: X2 :: X3 :: (τ ++ [.row g 1 (AV.d (.int .u8 ((b ^^^ 1).toNat : Int)) :: t.map fun b => AV.d (.int .u8 b.toNat))])) (n₀ := S.length) (m := 0) (t := S.length + (τ.length + 3)) (g := g) (sz := 1) (es := bcs ((b ^^^ 1) :: t)) (by
    rw [zt]
    simp only [List.getElem?_cons_succ]
    rw [zy,show zaE (bcs ((b ^^^ 1) :: t)) = _ from ztl _]
    rfl) (by omega) zfz
   rw [zaH] at h
   exact h
  refine zmp (r := msgA { zgg with kind := 12,src := 1,proof := { p with rec_ := (b ^^^ 1) :: t } }) ?_ hl hK
  have ex : ∀ σ n es,frz σ n 2 (.exact es) = some (.slice es) := fun _ _ _ => rfl
  simp only [zcC,frzT,frz1,List.map_cons,List.map_nil,key,frz_dd,ex,allO]
  rfl
def lvC : TCas := ⟨1, 0, [116], 0, [[1], [2], [3]], 7, [], []⟩
def lvS : zaP := bgF (ksC lvC) (zoQ lvC.recs)
def lvM (o : Int) : zlS := { zgg with kind := 12,src := 1,proof := zhd lvS o }
theorem lv_new : zeJ 1 0 [116] 0 = 0 := by decide +kernel
theorem lv_other : zgC lvS.L lvS.G (zkO 1 0 [116] 0) (lvM 1) = 250 := by decide +kernel
theorem lv_right : zgC lvS.L lvS.G (zkO 1 0 [116] 0) (lvM 0) = 0 := by decide +kernel
theorem take_rest' {σ S : List zh} (h : ∀ (j : Nat) (x : zh), σ[j]? = some x → S[j]? = some x) : S.take σ.length = σ := by
 apply List.ext_getElem?
 intro i
 rw [List.getElem?_take]
 split
 ·rename_i hi
  rw [h i _ (List.getElem?_eq_getElem hi),List.getElem?_eq_getElem hi]
 ·rw [List.getElem?_eq_none (by omega)]
theorem ends_rest' {σ S : List zh} {K : KT} {l : List AV} (h : S.take σ.length = σ) (h1 : Low σ.length (dmT (zcC l))) (hl : zfn σ.length σ) (hK : K (dmT (zcC l)) σ) : AW.Ends σ.length K (some l) S := by
 unfold AW.Ends
 rw [h]
 exact ⟨h1,hl,hK⟩
theorem zup {recs : List (List UInt8)} (h : ∀ r ∈ recs,r.length ≤ 1048576) : ∀ x ∈ zoQ recs,zkF x.op ≤ 20971520 := fun x hx => by
 simp only [zoQ,List.mem_cons] at hx
 rcases hx with rfl | hx
 ·decide
 ·obtain ⟨j,hj,rfl⟩ := List.mem_mapIdx.1 hx
  have := h _ (List.mem_of_mem_take (List.getElem_mem hj))
  obtain ⟨y,hy⟩ : ∃ y,(List.take 24 recs)[j] = y := ⟨_,rfl⟩
  rw [hy] at this ⊢
  simp [pubR,zkF]
  omega
theorem rqsF_len (recs : List (List UInt8)) : (zoQ recs).length ≤ 25 := by simp [zoQ]; omega
theorem lvOk : casOk lvC := ⟨⟨by decide,by decide⟩,⟨by decide,by decide⟩,by decide,⟨by decide,by decide⟩,by decide,by decide,by decide,by decide,by decide,by simp [lvC]⟩
theorem ksC_len (c : TCas) : (ksC c).length ≤ 13 := zvO _ _
theorem bgC_I {c : TCas} (hc : casOk c) : StI 350 50 (bgF (ksC c) (zoQ c.recs)) := bgF_I (zup hc.each) (rqsF_len _) (ksC_len c)
theorem bgC_H {c : TCas} (hc : casOk c) : ziQ (ksC c) st0.h (bgF (ksC c) (zoQ c.recs)) := bgF_H (zup hc.each) (rqsF_len _) (memF_rng _)
def lvX1 : TAct := ⟨2, 1,false,zgg⟩
def lvX2 : TAct := ⟨1, 0,false,zgg⟩
theorem lvX1_ok : actOk lvX1 := ⟨⟨by decide,by decide⟩,zik⟩
theorem zqn : actOk lvX2 := ⟨⟨by decide,by decide⟩,zik⟩
theorem lv_all (s : zaP) (h : bgF (ksC lvC) (zoQ lvC.recs) = s) : zgC s.L s.G (zkO 1 0 [116] 0) (zfR s (zkO 1 0 [116] 0) lvX1) = 250 ∧ zgC s.L s.G (zkO 1 0 [116] 0) (zfR s (zkO 1 0 [116] 0) lvX2) = 0 := by
 subst h
 exact ⟨lv_other,lv_right⟩
theorem c_live25 {σ : List zh} (hσ : ∀ x ∈ σ, ∀ g sz cs,x ≠ .row g sz cs) {K : KT} (hK : K (.d (.bool true)) σ) : zp Tryz.prog zqj [] σ K := by
 refine acE0 e_l25_live fun hl => ?_
 simp only [zvw,iN,bT,bF,eN,zl0]
 refine gq1 ?_
 refine c_begunOn lvOk (fun h => absurd lv_new h) fun _ S a b u v hO => ?_
 have hI := bgC_I lvOk
 have hH := bgC_H lvOk
 obtain ⟨s,hs⟩ : ∃ s,bgF (ksC lvC) (zoQ lvC.recs) = s := ⟨_,rfl⟩
 rw [hs] at hO hI hH
 obtain ⟨k1,k2⟩ := lv_all s hs
 change OnR σ (.box (zqD lvC)) s s.L s.G 0 a b u 0 v (zkO 1 0 [116] 0) (zkO 1 0 [116] 0) S at hO
 obtain ⟨r0,hr0⟩ : ∃ r0,zkO 1 0 [116] 0 = r0 := ⟨_,rfl⟩
 rw [hr0] at hO k1 k2
 have st := hO.e.st
 have ra := hO.ra
 refine gq2 (zf st ra) ?_
 refine c_rdAsk ra ?_
 have hak : askR r0 = [(0,askM r0)] := by rw [← hr0]; rfl
 rw [hak]
 refine gq2 (zf st ra) ?_
 refine c_comes (x := lvX1) hO.e ra hI (by omega) hH hO.i lvX1_ok ?_
 refine gq2 (zf st ra) ?_
 refine zwq (n := 0) ra hO.ru hO.e.tab hO.e.led hI.tab (by have := hI.led; omega) hO.i (by omega) (zij hI (by omega) hO.i lvX1_ok) (fun _ τ => ?_) (fun h => by rw [k1] at h; omega)
 rw [k1]
 have hO1 := hO.app τ
 obtain ⟨S1,hS1⟩ : ∃ S1,S ++ τ = S1 := ⟨_,rfl⟩
 rw [hS1] at hO1 ⊢
 have st1 := hO1.e.st
 have ra1 := hO1.ra
 refine gq2 (zf st1 ra1) ?_
 refine c_comes (x := lvX2) hO1.e ra1 hI (by omega) hH hO1.i zqn ?_
 refine gq2 (zf st1 ra1) ?_
 refine zwq (n := 0) ra1 hO1.ru hO1.e.tab hO1.e.led hI.tab (by have := hI.led; omega) hO1.i (by omega) (zij hI (by omega) hO1.i zqn) (fun h => absurd k2 h) (fun _ g' τ => ?_)
 have hO2 := ((hO1.mono (Nat.le_refl 1 |> Nat.le_of_succ_le)).take (g' := g') (r' := zeX r0 (zfR s r0 lvX2)) (by have := take_I (L := s.L) (G := s.G) hO1.i (m := zfR s r0 lvX2) (zij hI (by omega) hO1.i zqn).proof.rec_; rwa [takeR,if_pos k2] at this)).app τ
 obtain ⟨r1,hr1⟩ : ∃ r1,zeX r0 (zfR s r0 lvX2) = r1 := ⟨_,rfl⟩
 have q1 : r1.next = 1 := by rw [← hr1, ← hr0]; rfl
 have q2 : r1.L.length = 1 := by rw [← hr1, ← hr0]; rfl
 have q3 : askR r1 = [(0,askM r1)] := by rw [askR,q1,if_neg (by omega), ← hr1, ← hr0]; rfl
 rw [hr1] at hO2 ⊢
 obtain ⟨S2,hS2⟩ : ∃ S2,(S1.set u (.row g' 3 (zoI r1.L))).set a (rdB r1 (.box (σ.length + 4) 0) (.box (σ.length + 7) 0) (rsv u g' r1.L)) ++ τ = S2 := ⟨_,rfl⟩
 rw [hS2] at hO2 ⊢
 have st2 := hO2.e.st
 have ra2 := hO2.ra
 have hpl : (zbm r1.L).length = 1 := by rw [List.length_map]; exact q2
 rw [q3]
 refine zrt (zf st2 ra2) ?_
 refine c_rdNext ra2 ?_
 rw [q1]
 refine zrt (zf st2 ra2) ?_
 refine c_rdRead ra2 hO2.ru (by omega) (fun p hp => (hO2.i.recs p hp).1) ?_
 refine zrt (zf st2 (zf ra2 hpl)) ?_
 exact ends_rest' (take_rest' fun j x hx => hO2.e.rest j x hx (hσ x (List.mem_of_getElem? hx))) (by simp [zeU,dmT,dm,dm1,zcC]) hl hK
end Go.Proofs.YtfgbofkdhfjegaaGreat
