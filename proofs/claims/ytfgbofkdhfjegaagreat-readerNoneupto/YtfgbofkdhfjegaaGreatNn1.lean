/- Contracts: readers that no call made; what is told is nobody else's. -/
import Derived.Test.YtfgbofkdhfjegaaGreatPu1
import Derived.Test.YtfgbofkdhfjegaaGreatNr3
import Derived.Test.YtfgbofkdhfjegaaGreatPt2
import Derived.Test.YtfgbofkdhfjegaaGreatBt3
import Derived.Test.YtfgbofkdhfjegaaGreatCk3
import Derived.Test.YtfgbofkdhfjegaaGreatMk8
import Derived.Test.YtfgbofkdhfjegaaGreatLaw23a
import Derived.Test.YtfgbofkdhfjegaaGreatHi1
import Derived.Test.YtfgbofkdhfjegaaGreatBase
import Derived.Test.YtfgbofkdhfjegaaGreatAwLoop
set_option linter.all false
set_option maxRecDepth 100000
namespace Go.Proofs.YtfgbofkdhfjegaaGreat
open Go.AW
abbrev byR (r : List UInt8) : List AV := r.map fun b => AV.d (.int .u8 b.toNat)
theorem low_byR (n g : Nat) (r : List UInt8) : zug n (.row g 1 (byR r)) := by
 intro c hc
 obtain ⟨y,_,rfl⟩ := List.mem_map.1 hc
 exact .d _
theorem c_clRecR {σ : List zh} {b : UInt8} {r : List UInt8} (hr : (b :: r).length ≤ 1073741824) {K : KT} (hK : ∀ g,K (.rsl σ.length g 1 0 (b :: r).length) (σ ++ [.row g 1 (byR (b :: r))])) :
  zp Tryz.prog zaj [.d (.slice (bcs (b :: r)))] σ K := by
 refine zbB zds.is rfl (fun s => List.range' σ.length (s.length - σ.length)) fun hl _ => zds.goes ?_
 have fin : ∀ g,zmN σ.length (fun s => List.range' σ.length (s.length - σ.length)) K (some [.rsl σ.length g 1 0 (b :: r).length]) (σ ++ [.row g 1 (byR (b :: r))]) := fun g =>
  zcp (σ' := σ) (os := [.row g 1 (byR (b :: r))]) rfl (by simp) hl (by
   intro x hx; simp only [List.mem_cons,List.not_mem_nil,or_false] at hx; subst hx
   exact low_byR _ _ _) (.rsl _ _ _ _ _ (by simp)) (hK g)
 have hcell : ∀ x ∈ bcs (b :: r),x.length = 1 := zfz
 simp only [zdv,iN,bT,bF,eN]
 have hfl := ztl (b :: r)
 obtain ⟨es,hes⟩ : ∃ es,bcs (b :: r) = es := ⟨_,rfl⟩
 have hlen : es.length = (b :: r).length := by rw [← hes]; exact zaH _
 rw [hes] at hfl hcell ⊢
 cases es with
 | nil => simp at hlen
 | cons e es =>
  simp only [zap,zdL]
  refine gq53 ?_
  refine ⟨by simp at hlen hr; omega, ?_⟩
  have := fin 1
  rw [← hlen] at this
  simp only [byR, ← hfl] at this
  exact this
theorem c_rdReadOne {σ : List zh} {id a b a2 b2 u g : Nat} {r : zrc} {p : zbb} {y : UInt8} {K : KT} (hL : r.L = [p]) (hp : p.rec_ = [y]) (hσ : σ[id]? = some (rdB r (.box a b) (.box a2 b2) (rsv u g r.L))) (hu : σ[u]? = some (.row g 3 (zoI r.L)))
  (hK : ∀ g1 g2,K (.rsl σ.length g1 3 0 1) (σ ++ [.row g1 3 [.d (.str p.topic), .d (.int .i64 p.offset), .rsl (σ.length + 1) g2 1 0 1], .row g2 1 [.d (.int .u8 y.toNat)]])) : zp Tryz.prog zaB [.box id 0] σ K := by
 refine zbB zcX.is rfl (fun s => List.range' σ.length 2) fun hl _ => zcX.goes ?_
 have hn : r.L.length = 1 := by rw [hL]; rfl
 simp only [zev,iN,bT,bF,eN]
 refine gq1 ?_
 refine zps hσ ?_
 refine gq2 hσ ?_
 refine zth hu (by omega) fun g' => ?_
 have hpc : zoI r.L = [.d (.str p.topic), .d (.int .i64 p.offset), .d (.slice (bcs [y]))] := by rw [hL, ← hp]; rfl
 rw [hpc,show rsv σ.length g' r.L = .rsl σ.length g' 3 0 1 by rw [rsv,hn]]
 refine gq5 ?_
 refine zr 1 (fun k vs s => vs = [.d (.int .i64 k)] ∧ (k = 0 → s = σ ++ [.row g' 3 [.d (.str p.topic), .d (.int .i64 p.offset), .d (.slice (bcs [y]))]]) ∧ (k = 1 → ∃ g2,s = σ ++ [.row g' 3 [.d (.str p.topic), .d (.int .i64 p.offset), .rsl (σ.length + 1) g2 1 0 1], .row g2 1 [.d (.int .u8 y.toNat)]])) ⟨rfl,fun _ => rfl,fun h => by cases h⟩ ?_
 rintro k vs s hk ⟨rfl,h0,h1⟩
 by_cases hlt : k < 1
 ·have k0 : k = 0 := by omega
  subst k0
  rw [h0 rfl]
  refine gq2 (show decide (((0 : Nat) : Int) < ((1 : Nat) : Int)) = true from rfl) ?_
  refine c_clRecR (b := y) (r := []) (by simp) fun g2 => ?_
  refine gq1 ?_
  exact zaG.next hlt ⟨rfl,fun h => by simp at h,fun _ => ⟨g2,rfl⟩⟩
 ·have k1 : k = 1 := by omega
  subst k1
  obtain ⟨g2,hs⟩ := h1 rfl
  rw [hs]
  refine gq2 (show decide (((1 : Nat) : Int) < ((1 : Nat) : Int)) = false from rfl) ?_
  refine zcp (K := K) (l := [.rsl σ.length g' 3 0 1]) (σ' := σ) (os := [.row g' 3 [.d (.str p.topic), .d (.int .i64 p.offset), .rsl (σ.length + 1) g2 1 0 1], .row g2 1 [.d (.int .u8 y.toNat)]]) rfl rfl hl (by
   intro x hx
   simp only [List.mem_cons,List.not_mem_nil,or_false] at hx
   rcases hx with rfl | rfl
   ·intro c hc
    simp only [List.mem_cons,List.not_mem_nil,or_false] at hc
    rcases hc with rfl | rfl | rfl
    ·exact .d _
    ·exact .d _
    ·exact .rsl _ _ _ _ _ (by simp)
   ·intro c hc
    simp only [List.mem_cons,List.not_mem_nil,or_false] at hc
    subst hc; exact .d _) (.rsl _ _ _ _ _ (by simp)) (hK g' g2)
abbrev zero9 : zh := .box [.d (.int .i64 0), .d (.int .i64 0), .d (.str []), .d (.int .i64 0), .d .nilp, .d .nilp, .d (.int .i64 0), .d (.int .i64 0), .exact []]
def NoRd (σ : List zh) (p : AV) : Prop := p = .d .nilp ∨ ∃ id,p = .box id 0 ∧ σ[id]? = some zero9
section
variable {σ : List zh} {p : AV} {K : KT} (h : NoRd σ p)
include h
theorem zeG (hK : K (.d (.bool true)) σ) : zp Tryz.prog zaw [p] σ K := by
 refine zeW zhD fun hl => ?_
 simp only [zeR,iN,bT,bF,eN]
 rcases h with rfl | ⟨id,rfl,h⟩
 ·refine gq1 ?_
  refine zT hl ?_
  exact hK
 ·refine gq2 h ?_
  refine zT hl ?_
  exact hK
theorem c_nrTake {m : zlS} (hK : K (.tup [.d (.slice []), .d (.int .i64 2)]) σ) : zp Tryz.prog zbg [p,msgA m] σ K := by
 refine zfY zno fun hl => ?_
 simp only [zhK,iN,bT,bF,eN,zl4]
 refine gq1 ?_
 have h' : ∀ τ,NoRd (σ ++ τ) p := fun τ => h.imp id fun ⟨i,e,g⟩ => ⟨i,e,zd g⟩
 rcases h with rfl | ⟨i,rfl,h⟩
 all_goals
  refine zeG (h' _) ?_
  refine gq1 ?_
  refine zT hl ?_
  exact hK
theorem c_nrAsk (hK : K (.d (.slice [])) σ) : zp Tryz.prog zbn [p] σ K := by
 refine zeW zix fun hl => ?_
 simp only [zfB,iN,bT,bF,eN,zl5,zl6]
 refine gq1 ?_
 rcases h with rfl | ⟨i,rfl,h⟩
 ·refine zeG (.inl rfl) ?_
  refine gq1 ?_
  refine zT hl ?_
  exact hK
 ·refine zeG (.inr ⟨_,rfl,h⟩) ?_
  refine gq1 ?_
  refine zT hl ?_
  exact hK
theorem c_nrTick (hK : K (.d (.slice [])) σ) : zp Tryz.prog zeL [p] σ K := by
 refine zeW znn fun hl => ?_
 simp only [zhJ,iN,bT,bF,eN]
 refine gq1 ?_
 rcases h with rfl | ⟨i,rfl,h⟩
 ·refine zeG (.inl rfl) ?_
  refine gq1 ?_
  refine zT hl ?_
  exact hK
 ·refine zeG (.inr ⟨_,rfl,h⟩) ?_
  refine gq1 ?_
  refine zT hl ?_
  exact hK
theorem c_nrNext (hK : K (.d (.int .i64 0)) σ) : zp Tryz.prog zcg [p] σ K := by
 refine zeW zhE fun hl => ?_
 simp only [zeS,iN,bT,bF,eN]
 refine gq1 ?_
 rcases h with rfl | ⟨i,rfl,h⟩
 ·refine zeG (.inl rfl) ?_
  refine gq1 ?_
  refine zT hl ?_
  exact hK
 ·refine zeG (.inr ⟨_,rfl,h⟩) ?_
  refine gq1 ?_
  refine zT hl ?_
  exact hK
theorem zuZ (hK : K (.d (.int .i64 0)) σ) : zp Tryz.prog zeb [p] σ K := by
 refine zeW zlO fun hl => ?_
 simp only [zgF,iN,bT,bF,eN]
 refine gq1 ?_
 rcases h with rfl | ⟨i,rfl,h⟩
 ·refine zeG (.inl rfl) ?_
  refine gq1 ?_
  refine zT hl ?_
  exact hK
 ·refine zeG (.inr ⟨_,rfl,h⟩) ?_
  refine gq1 ?_
  refine zT hl ?_
  exact hK
theorem c_nrRead (hK : K (.d (.slice [])) σ) : zp Tryz.prog zaB [p] σ K := by
 refine zeW znp fun hl => ?_
 simp only [zhL,iN,bT,bF,eN]
 refine gq1 ?_
 rcases h with rfl | ⟨i,rfl,h⟩
 ·refine zeG (.inl rfl) ?_
  refine gq1 ?_
  refine zT hl ?_
  exact hK
 ·refine zeG (.inr ⟨_,rfl,h⟩) ?_
  refine gq1 ?_
  refine zT hl ?_
  exact hK
theorem c_nrClone (hK : K (.d .nilp) σ) : zp Tryz.prog zem [p] σ K := by
 refine zeW zmq fun hl => ?_
 simp only [zhp,iN,bT,bF,eN]
 refine gq1 ?_
 rcases h with rfl | ⟨i,rfl,h⟩
 ·refine zeG (.inl rfl) ?_
  refine gq1 ?_
  refine zT hl ?_
  exact hK
 ·refine zeG (.inr ⟨_,rfl,h⟩) ?_
  refine gq1 ?_
  refine zT hl ?_
  exact hK
end
theorem c_tNoneNil {σ : List zh} {K : KT} (hK : K (.d (.bool true)) σ) : zp Tryz.prog zce [.d .nilp] σ K := by
 refine zeW zjf fun hl => ?_
 simp only [zgz,iN,bT,bF,eN]
 refine gq1 ?_
 refine zT hl ?_
 exact hK
theorem c_tCloneNil {σ : List zh} {K : KT} (hK : K (.d .nilp) σ) : zp Tryz.prog zbo [.d .nilp] σ K := by
 refine zeW zfy fun hl => ?_
 simp only [zfC,iN,bT,bF,eN]
 refine gq1 ?_
 refine c_tNoneNil ?_
 refine gq1 ?_
 refine zT hl ?_
 exact hK
theorem c_gNoneNil {σ : List zh} {K : KT} (hK : K (.d (.bool true)) σ) : zp Tryz.prog zbK [.d .nilp] σ K := by
 refine zeW ziz fun hl => ?_
 simp only [zfD,iN,bT,bF,eN]
 refine gq1 ?_
 refine zT hl ?_
 exact hK
theorem c_gCloneNil {σ : List zh} {K : KT} (hK : K (.d .nilp) σ) : zp Tryz.prog zbs [.d .nilp] σ K := by
 refine zeW zeQ fun hl => ?_
 simp only [zeT,iN,bT,bF,eN]
 refine gq1 ?_
 refine c_gNoneNil ?_
 refine gq1 ?_
 refine zT hl ?_
 exact hK
theorem c_newNilT {σ : List zh} {f me o : Int} {tp : List UInt8} {l : Nat} {K : KT} (hK : K (.tup [.d .nilp, .d (.int .i64 2)]) σ) : zp Tryz.prog zen [.d (.int .i64 f), .d (.int .i64 me), .d (.str tp), .d (.int .i64 o), .d .nilp, .box l 0] σ K := by
 refine acE6 zjd fun hl => ?_
 simp only [zjj,iN,bT,bF,eN]
 refine gq1 ?_
 refine c_tCloneNil ?_
 refine gq1 ?_
 refine zT hl ?_
 exact hK
theorem c_newNilL {σ : List zh} {f me o : Int} {tp : List UInt8} {tid m t : Nat} {K : KT} (hT : zdh σ tid m t []) (hK : K (.tup [.d .nilp, .d (.int .i64 2)]) σ) : zp Tryz.prog zen [.d (.int .i64 f), .d (.int .i64 me), .d (.str tp), .d (.int .i64 o), .box tid 0, .d .nilp] σ K := by
 refine acE6 zjd fun hl => ?_
 simp only [zjj,iN,bT,bF,eN]
 refine gq1 ?_
 refine znh hT (by simp) (by simp) (by simp) ?_
 refine gq1 ?_
 refine c_gCloneNil ?_
 refine gq1 ?_
 refine zT hl ?_
 exact hK
abbrev msgO (p : zcf) : zh :=
 .box [.d (.int .i64 0), .d (.int .i64 0), .d (.int .i64 0), .d (.int .i64 0), .d (.int .i64 0), .d (.int .i64 0), .d (.int .i64 0), .d (.int .i64 0), .d (.int .i64 0), .d (.slice []), .d (.int .i64 0), .d (.int .i64 0), .d (.slice []), .d (.slice []), .d (.slice []), .d (.slice []), .d (.str []), .d (.int .i64 0),
  .d (.str p.topic), .d (.int .i64 p.offset), .d (.slice (bcs p.rec_)), .d (.slice (ziO p.headers)), .d (.int .i64 p.index), .d (.int .i64 p.count), .d (.slice (zdK p.path)), .d (.int .i64 p.cert.seq), .d (.int .i64 p.cert.dig), .d (.slice (zbd p.cert.signs)), .d (.int .i64 0), .d (.int .i64 0)]
structure OrdI (tp : List UInt8) (o : Int) (r : zrc) : Prop where
 top : r.topic = tp
 next : r.next = o + r.L.length
 each : ∀ (i : Nat) p,r.L[i]? = some p → p.offset = o + i ∧ p.topic = tp
theorem lv_rec : (zeX (zkO 1 0 [116] 0) (zfR (bgF (ksC lvC) (zoQ lvC.recs)) (zkO 1 0 [116] 0) lvX2)).L = [⟨[116], 0, [1]⟩] := by decide +kernel
theorem lv_all2 (s : zaP) (h : bgF (ksC lvC) (zoQ lvC.recs) = s) : zgC s.L s.G (zkO 1 0 [116] 0) (zfR s (zkO 1 0 [116] 0) lvX2) = 0 ∧ (zeX (zkO 1 0 [116] 0) (zfR s (zkO 1 0 [116] 0) lvX2)).L = [⟨[116], 0, [1]⟩] := by
 subst h
 exact ⟨lv_right,lv_rec⟩
def zma : List (Bool × List Ty) := [(true,tyMsg)]
set_option maxHeartbeats 4000000 in
theorem ztT (xs : List AV) (n : Nat) (hn : n ≤ 1048576) (h : ArgsOk zma xs n) : zp Tryz.prog zhu xs [] fun r _ => r = .d (.bool true) := by
 obtain ⟨ds,xs1,m1,hf,hb1,rfl,rfl⟩ := h
 obtain ⟨m,rfl,hm⟩ := dec_msg hf (by omega)
 show zp Tryz.prog zhu [msgA m] [] _
 clear hf hb1
 obtain ⟨σ,hσ⟩ : ∃ σ : List zh,([] : List zh) = σ := ⟨_,rfl⟩
 have hσr : ∀ x ∈ σ, ∀ g sz cs,x ≠ .row g sz cs := by subst hσ; simp
 rw [hσ]
 clear hσ
 refine zgY zkh.is rfl fun hl _ => zkh.goes ?_
 simp only [zkt,iN,bT,bF,eN,zl0]
 refine gq1 ?_
 have hρr : ∀ x ∈ σ ++ [zh.box (msgL m)], ∀ g sz cs,x ≠ .row g sz cs := fun y hy => by
  rcases List.mem_append.1 hy with hy | hy
  ·exact hσr y hy
  ·simp only [List.mem_cons,List.not_mem_nil,or_false] at hy
   subst hy; intro _ _ _ e; cases e
 refine c_live25 hρr ?_
 refine gq1 ?_
 obtain ⟨S,hS⟩ : ∃ S, σ ++ [.box (msgL m), .box [.d (.int .i64 0), .d (.int .i64 0), .d (.str []), .d (.int .i64 0), .d .nilp, .d .nilp, .d (.int .i64 0), .d (.int .i64 0), .exact []], .row 0 1 [.d .nilp, .box (σ.length + 1) 0]] = S := ⟨_,rfl⟩
 have hm0 : S[σ.length]? = some (.box (msgL m)) := by rw [← hS,zy]; rfl
 have hz0 : S[σ.length + 1]? = some zero9 := by rw [← hS,zt]; rfl
 have hR : S[σ.length + 2]? = some (.row 0 1 [.d .nilp, .box (σ.length + 1) 0]) := by rw [← hS,zt]; rfl
 have hpre : ∀ (j : Nat) (x : zh), σ[j]? = some x → S[j]? = some x := fun j x h => by rw [← hS]; exact zd h
 have hp0 : NoRd S (.d .nilp) := .inl rfl
 have hp1 : NoRd S (.box (σ.length + 1) 0) := .inr ⟨_,rfl,hz0⟩
 rw [hS]
 refine zr 2 (fun k vs s => vs = [.d (.int .i64 k)] ∧ s = S) ⟨rfl,rfl⟩ ?_
 rintro k vs s hk ⟨rfl,rfl⟩
 by_cases hlt : k < 2
 ·have hk2 : k = 0 ∨ k = 1 := by omega
  rcases hk2 with rfl | rfl
  ·refine gq2 (zf (show decide (((0 : Nat) : Int) < ((2 - 0 : Nat) : Int)) = true from rfl) (zf hR hm0)) ?_
   refine c_nrTake hp0 ?_
   refine gq5 ?_
   refine c_nrAsk hp0 ?_
   refine gq5 ?_
   refine c_nrTick hp0 ?_
   refine gq5 ?_
   refine c_nrNext hp0 ?_
   refine gq5 ?_
   refine c_nrRead hp0 ?_
   refine gq5 ?_
   refine zuZ hp0 ?_
   refine gq5 ?_
   refine c_nrClone hp0 ?_
   refine gq5 ?_
   exact zaG.next (by omega) ⟨rfl,rfl⟩
  ·refine gq2 (zf (show decide (((1 : Nat) : Int) < ((2 - 0 : Nat) : Int)) = true from rfl) (zf hR hm0)) ?_
   refine c_nrTake hp1 ?_
   refine gq5 ?_
   refine c_nrAsk hp1 ?_
   refine gq5 ?_
   refine c_nrTick hp1 ?_
   refine gq5 ?_
   refine c_nrNext hp1 ?_
   refine gq5 ?_
   refine c_nrRead hp1 ?_
   refine gq5 ?_
   refine zuZ hp1 ?_
   refine gq5 ?_
   refine c_nrClone hp1 ?_
   refine gq5 ?_
   exact zaG.next (by omega) ⟨rfl,rfl⟩
 ·have k2 : k = 2 := by omega
  subst k2
  refine gq2 (show decide (((2 : Nat) : Int) < ((2 - 0 : Nat) : Int)) = false from rfl) ?_
  refine zoB ?_
  refine gq1 ?_
  refine c_newNilT ?_
  refine gq1 ?_
  refine zqE ?_
  refine gq1 ?_
  refine c_newNilL (tid := s.length + 4) (m := s.length + 3) (t := s.length + 5) ⟨by rw [zt]; rfl,by rw [zt]; rfl,by rw [zt]; rfl⟩ ?_
  refine gq1 ?_
  obtain ⟨ρ,hρ⟩ : ∃ ρ,s ++ zh.map (zrM []) :: zh.box [AV.own (s.length + 2) [],AV.map s.length] :: zh.tok 2 0 :: zvA (s.length + 3) [] = ρ := ⟨_,rfl⟩
  have hpre2 : ∀ (j : Nat) (x : zh), σ[j]? = some x → ρ[j]? = some x := fun j x h => by rw [← hρ]; exact zd (hpre j x h)
  change ACallL Tryz.prog zcT [.agg (zqD lvC)] (s ++ zh.map (zrM []) :: zh.box [AV.own (s.length + 2) [],AV.map s.length] :: zh.tok 2 0 :: zvA (s.length + 3) []) _ _
  rw [hρ]
  refine c_begunOn lvOk (fun h => absurd lv_new h) fun _ S a b u v hO => ?_
  have hI := bgC_I lvOk
  have hH := bgC_H lvOk
  obtain ⟨s,hs⟩ : ∃ s,bgF (ksC lvC) (zoQ lvC.recs) = s := ⟨_,rfl⟩
  rw [hs] at hO hI hH
  obtain ⟨k2,k3⟩ := lv_all2 s hs
  change OnR ρ (.box (zqD lvC)) s s.L s.G 0 a b u 0 v (zkO 1 0 [116] 0) (zkO 1 0 [116] 0) S at hO
  obtain ⟨r0,hr0⟩ : ∃ r0,zkO 1 0 [116] 0 = r0 := ⟨_,rfl⟩
  rw [hr0] at hO k2 k3
  have st := hO.e.st
  have ra := hO.ra
  refine zrt (zf st ra) ?_
  refine c_comes (x := lvX2) hO.e ra hI (by omega) hH hO.i zqn ?_
  refine gq2 (zf st ra) ?_
  refine zwq (n := 0) ra hO.ru hO.e.tab hO.e.led hI.tab (by have := hI.led; omega) hO.i (by omega) (zij hI (by omega) hO.i zqn) (fun h => absurd k2 h) (fun _ g' τ => ?_)
  have hO2 := ((hO.mono (Nat.le_succ 0)).take (g' := g') (r' := zeX r0 (zfR s r0 lvX2)) (by have := take_I (L := s.L) (G := s.G) hO.i (m := zfR s r0 lvX2) (zij hI (by omega) hO.i zqn).proof.rec_; rwa [takeR,if_pos k2] at this)).app τ
  obtain ⟨r1,hr1⟩ : ∃ r1,zeX r0 (zfR s r0 lvX2) = r1 := ⟨_,rfl⟩
  rw [hr1] at hO2 k3 ⊢
  obtain ⟨S2,hS2⟩ : ∃ S2,(S.set u (.row g' 3 (zoI r1.L))).set a (rdB r1 (.box (ρ.length + 4) 0) (.box (ρ.length + 7) 0) (rsv u g' r1.L)) ++ τ = S2 := ⟨_,rfl⟩
  rw [hS2] at hO2 ⊢
  have st2 := hO2.e.st
  have st2' := fun τ => zd (τ := τ) hO2.e.st
  refine gq2 st2 ?_
  refine c_rdReadOne (y := 1) k3 rfl hO2.ra hO2.ru fun g1 g2 => ?_
  refine zrt st2' ?_
  refine c_rdRead (hO2.app _).ra (hO2.app _).ru (by rw [k3]; simp) (fun p hp => (hO2.i.recs p hp).1) ?_
  rw [show zbm r1.L = [[.str [116], .int .i64 0, .slice (bcs [1])]] by rw [k3]; rfl]
  refine gq5 ?_
  refine zib (a := [1]) (b := [1]) ?_
  refine gq5 ?_
  exact ends_rest' (take_rest' fun j x hx => zd (hO2.e.rest j x (hpre2 j x hx) (hσr x (List.mem_of_getElem? hx)))) (by simp [zeU,dmT,dm,dm1,zcC]) hl rfl
open Go.AW Go.ChangeShapes Go.WideShapes Go.ChangeAt Go.RowKit
theorem zro {H : Type} {enc : TypeId × Value → H} {P : Program} {w : World} {sp : Nat → Bool} {held : Bool} {vs : List Value} {ds gs : List (DataW H)} {ps : List MemPlace} {ts : List TypeId} (hl : ts.length = 1)
  (h : DataW.TrodAll enc P w 0 sp held ts vs ds ps) (hg : gs = []) : (Rows.readerNoneSpec).fn H (ds ++ gs) = { results := [.lit (.bool true)],args := ds } := by
 subst hg
 have hd : ds.length = 1 := by
  have : ∀ (ts : List TypeId) (vs : List Value) (ds : List (DataW H)) (ps : List MemPlace),DataW.TrodAll enc P w 0 sp held ts vs ds ps → ds.length = ts.length := by
   intro ts
   induction ts with
   | nil => intro vs ds ps h; cases vs <;> cases ds <;> simp [DataW.TrodAll] at h ⊢
   | cons t ts ih =>
    intro vs ds ps h
    obtain ⟨v,vs',d,ds',p,q,rfl,rfl,rfl,h1,h2⟩ := trodAll_cons h
    simp [ih vs' ds' q h2]
  rw [this ts vs ds ps h,hl]
 rw [List.append_nil]
 match ds,hd with
 | [_],_ => rfl
theorem zqp (os : Os) (started : os.Started) (H : Type) (enc : TypeId × Value → H) (F : Stop.Interp) :
  ReturnsInHanded {} Tryz.checked os 6 .any ((Rows.OpenSpec.upto Rows.readerNoneSpec).pre6 enc Tryz.prog Tryz.f6 Rows.readerNoneUptoRow.domain false) (((Rows.OpenSpec.upto Rows.readerNoneSpec).at F).post enc Tryz.prog Tryz.f6 false true false false) := by
 refine returnsInHanded_of_cond (C := Tryz.checked) (s := Rows.OpenSpec.upto Rows.readerNoneSpec) (k := Rows.uptoSmall) rfl own started (by kernel_rfl) Tryz.func6
  (OpenSpec.witness (enc := enc) (C := Tryz.checked) (s := Rows.OpenSpec.upto Rows.readerNoneSpec) (k := Rows.uptoSmall) rfl false ⟨#[], #[(.agg #[(.int .i64 0),(.int .i64 0),(.int .i64 0),(.int .i64 0),(.int .i64 0),(.int .i64 0),(.int .i64 0),(.int .i64 0),(.int .i64 0),(.slice none 0 0),(.int .i64 0),(.int .i64 0),(.slice none 0 0),(.slice none 0 0),(.slice none 0 0),(.slice none 0 0),(.string .empty),(.int .i64 0),(.string .empty),(.int .i64 0),(.slice none 0 0),(.slice none 0 0),(.int .i64 0),(.int .i64 0),(.slice none 0 0),(.int .i64 0),(.int .i64 0),(.slice none 0 0),(.int .i64 0),(.int .i64 0)])], []⟩ 24 (by kernel_rfl) (by kernel_rfl) (by kernel_rfl)
   (x := ([(.agg [(.lit (.int .i64 0)),(.lit (.int .i64 0)),(.lit (.int .i64 0)),(.lit (.int .i64 0)),(.lit (.int .i64 0)),(.lit (.int .i64 0)),(.lit (.int .i64 0)),(.agg [(.lit (.int .i64 0)),(.lit (.int .i64 0))]), .nil,(.agg [(.lit (.int .i64 0)),(.lit (.int .i64 0)), .nil]), .nil, .nil, .nil,(.lit (.string [])),(.lit (.int .i64 0)),(.agg [(.lit (.string [])),(.lit (.int .i64 0)), .nil, .nil,(.lit (.int .i64 0)),(.lit (.int .i64 0)), .nil,(.agg [(.lit (.int .i64 0)),(.lit (.int .i64 0)), .nil])]),(.agg [(.lit (.int .i64 0)),(.lit (.int .i64 0))])])], [], [])) (by kernel_rfl) rfl (by kernel_rfl)) ?_
 intro W base args ds gs before hval hW _ hk _
 have hW0 : DataW.Whole enc Tryz.prog Tryz.f6.params.toList (Rows.readerNoneSpec).vars false W args.toList ds gs before := hW
 have hg : gs = [] := by
  obtain ⟨p,q,hA,hV,_⟩ := hW0
  cases gs with
  | nil => rfl
  | cons => simp [Rows.readerNoneSpec,DataW.TrodVars] at hV
 refine law_calls isBulk hval hW0 (pars := zma) (by kernel_rfl) rfl (by obtain ⟨p,q,hA,_⟩ := hW0; exact zro (by kernel_rfl) hA hg) laidOut mapsLaid slicesFull (by kernel_rfl) (tb := 4) (by kernel_rfl) (by kernel_rfl) fun xs has => ztT xs _ ?_ has
 have := small hk
 rw [hg,List.append_nil] at this
 exact this
theorem readerNone_upto : Rows.ReaderNoneUptoSaid :=
 OpenClaim.holds_of_cond 6 Tryz.f6 rfl rfl rfl rfl rfl rfl rfl ⟨rfl,rfl,rfl,rfl,rfl⟩ rfl rfl rfl rfl rfl (by kernel_rfl) Tryz.func6 (by unfold joinedFacts; rw [any_loops,any_loops] <;> kernel_rfl)
  (of_decide_eq_true (by kernel_rfl)) (by unfold Func.isWrapper; first | (rw [if_pos (by decide +kernel)]; kernel_rfl) | (rw [if_neg (by decide +kernel)]; exact ⟨rfl,rfl⟩))
  (fun os started H enc _ F => zqp os started H enc F)
end Go.Proofs.YtfgbofkdhfjegaaGreat
