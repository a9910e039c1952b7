/- Contracts: the program's topics: names, groups, what was committed, what a client was told last. -/
import Derived.Test.YtaocmalhjfakdaaKs1
import Derived.Test.YtaocmalhjfakdaaTq8
import Derived.Test.YtaocmalhjfakdaaTp1
import Derived.Test.YtaocmalhjfakdaaPr3
set_option linter.all false
set_option maxRecDepth 100000
set_option linter.unusedSimpArgs false
set_option linter.unusedVariables false
namespace Go.Proofs.Ytaocmalhjfakdaa
open Go.AW

theorem ziw {α : Type} {l m : List α} (h1 : l.Nodup) (h2 : m.Nodup) (h : ∀ a, a ∈ l ↔ a ∈ m) : l.Perm m := (List.perm_ext_iff_of_nodup h1 h2).2 h
theorem rel_names {X : List zcG} {T : List zC} (h : Rel X T) : (X.map zcG.name).Perm (T.map zC.name) := by
  refine ziw h.nod h.sort.nodup fun a => ?_
  constructor
  · intro ha
    obtain ⟨p, hp, rfl⟩ := List.mem_map.1 ha
    obtain ⟨y, hy, hr⟩ := h.fw p hp
    exact List.mem_map.2 ⟨y, hy, hr.name.symm⟩
  · intro ha
    obtain ⟨y, hy, rfl⟩ := List.mem_map.1 ha
    obtain ⟨p, hp, hr⟩ := h.bw y hy
    exact List.mem_map.2 ⟨p, hp, hr.name⟩
theorem gr_names {G L : List (List UInt8 × Int)} (h : GR G L) : (G.map Prod.fst).Perm (L.map Prod.fst) := by
  refine ziw h.nod h.sort.nodup fun a => ?_
  simp only [List.mem_map, h.mem]
def zkt (T : zO) (n : List UInt8) : Option zC := match atF n T.l 0 with
  | none => none
  | some k => T.l[k]?
def zkT (T : zO) (n : List UInt8) : List (List UInt8 × Int) := match zkt T n with
  | none => []
  | some x => x.groups
theorem zkA {X : List zcG} {T : zO} (h : Rel X T.l) (n : List UInt8) : (zeV n X 0 = none ∧ zkt T n = none) ∨ ∃ i p y, zeV n X 0 = some (i, p) ∧ X[i]? = some p ∧ p.x.name = n ∧ zkt T n = some y ∧ y ∈ T.l ∧ TR p.x y := by
  cases hx : zeV n X 0 with
  | none => exact .inl ⟨rfl, by rw [zkt, h.no hx]⟩
  | some q =>
    obtain ⟨i, p⟩ := q
    obtain ⟨h1, h2, k, y, h3, h4, h5⟩ := h.yes hx
    refine .inr ⟨i, p, y, rfl, h1, h2, ?_, List.mem_of_getElem? h4, h5⟩
    rw [zkt, h3]; exact h4
abbrev strsE (l : List (List UInt8)) : List (List D) := l.map fun x => [.str x]
section

variable {σ : List zc} {id m : Nat} {X : List zcG} {T : zO} {O : Nat → Prop} {K : AV → List zc → Prop}

theorem c_KeysTop {m : Nat} (hK : K (.fn (.func zm) [] [.box σ.length 0]) (σ ++ [.box [.map m]])) : zt Try.prog zE [.map m] σ K := by
  refine zat zad.is rfl fun hl _ => zad.goes ?_
  simp only [zaf, iN, bT, bF, eN]
  refine gq1 ?_
  exact zaR hK
theorem c_KeysGrp {m : Nat} (hK : K (.fn (.func zH) [] [.box σ.length 0]) (σ ++ [.box [.map m]])) : zt Try.prog zah [.map m] σ K := by
  refine zat zaM.is rfl fun hl _ => zaM.goes ?_
  simp only [zaN, iN, bT, bF, eN]
  refine gq1 ?_
  exact zaR hK
theorem hf_top : F2 Try.prog zm zgj := zaT
theorem hf_grp : F2 Try.prog zH zgj := zbO
theorem c_tpNames (h : zda σ id T O) (hI : zdn T) (hK : K (.d (.slice (strsE (T.l.map zC.name)))) σ) : zt Try.prog zcf [.box id 0] σ K := by
  obtain ⟨m, X, hP, hR, hO⟩ := h
  refine acE1 zgM fun hl => ?_
  have hb := hP.box
  have hlen : X.length ≤ 8 := by rw [hR.len]; exact hI.len
  simp only [zdY, iN, bT, bF, eN]
  refine gq1 ?_
  refine ziP hb ?_
  refine gq2 hb ?_
  refine c_KeysTop ?_
  refine gq1 ?_
  refine zjR (names := X.map zcG.name) (L := T.l.map zC.name) hf_top (by simp [topM, zhn]) (by simp; omega) (by rw [zi]; rfl) (zf hP.map) (rel_names hR) hR.sort ?_
  refine gq1 ?_
  refine zgk hl ?_
  exact hK
theorem c_tpGroups {n : List UInt8} (h : zda σ id T O) (hI : zdn T) (hK : K (.d (.slice (strsE ((zkT T n).map Prod.fst)))) σ) : zt Try.prog zbV [.box id 0, .d (.str n)] σ K := by
  obtain ⟨m, X, hP, hR, hO⟩ := h
  refine acE2 zgy fun hl => ?_
  simp only [zdA, iN, bT, bF, eN]
  refine gq1 ?_
  refine zmU hP ?_
  rcases zkA hR n with ⟨h1, h2⟩ | ⟨i, p, y, h1, h2, h3, h4, h5, h6⟩
  · rw [h1]
    rw [zkT, h2] at hK
    refine gq2 (show ((4 : Int) != 0) = true from rfl) ?_
    refine zgk hl ?_
    exact hK
  · rw [h1]
    rw [zkT, h4] at hK
    have hp := hP.tops p (List.mem_of_getElem? h2)
    have hb := hp.b
    have hlen : p.x.groups.length ≤ 8 := by rw [h6.gr.len]; exact (hI.tops y h5).groups
    refine gq2 hb ?_
    refine c_KeysGrp ?_
    refine gq1 ?_
    refine zjR (names := p.x.groups.map Prod.fst) (L := y.groups.map Prod.fst) hf_grp (by simp [grpM, zhn]) (by simp; omega) (by rw [zi]; rfl) (zf hp.g) (gr_names h6.gr) h6.gr.sort ?_
    refine gq1 ?_
    refine zgk hl ?_
    exact hK
end



theorem topsB_len {T : zO} (hI : zdn T) (hL : zlA T.last) (h8 : T.last.length = 8) : (zeO T).length ≤ 1000000 := by
  have h1 := zlC hI.tops
  have h2 := zlT hL
  have h3 := hI.len
  have h4 := zaq (n := T.l.length) (by omega)
  simp only [zeO, List.length_append]
  omega

section
variable {σ : List zc} {id t g : Nat} {T : zO} {K : AV → List zc → Prop}
theorem gq23 {A P Q : Prop} (a : A) (h : Q) (e : A → Hd Q → P := by intro a h; (repeat' first | simp -dsimp only [↓zhM, ↓zbc, ↓zcw, ↓zhN, ↓zhF, ↓zhD, ↓zhG, ↓zhE, ↓zcB, ↓zcx, ↓zcC, ↓zcy, ↓zhH, ↓zcv, ↓zcD, ↓zcz, ↓zcE, ↓zcA, ↓zhC, ↓zhK, ↓zcu, ↓zcF, ↓zhu, ↓zht, ↓zhA, iN, bT, bF, eN, ↓zdW, ↓unC, ↓zW, ↓zP, ↓zQ, ↓zZ, ↓zax, ↓zbx, ↓zdD, ↓zan, ↓zcV, ↓zaD, ↓zn, ↓zp, ↓zca, ↓zh, ↓zak, ↓zN, ↓zbf, ↓zba, ↓ze, ↓zD, ↓zl, ↓zA, ↓zas, ↓zeB, ↓zeQ, ↓zaC, ↓zaP, ↓zaS, ↓zbs, ↓zbW, ↓zx, ↓zap, ↓zK, ↓zr, ↓zaw, zeM, zcl, zcd, unA, zeK, bnd, zfK, zae, zaj, zfy, dm, dm1, zV, zbo, zgx, zgw, keepO, Q0, Q1, Q2, Q3, Q4, Q5, zaz, zG, zi, zau, zY, Q6, Q7, Q8, Q9, Q10, Q11, Q12, Q13, Q14, Nat.reduceAdd, Q15, Int.reduceToNat, Q16, Q17, Q18, Q19, Q20, reduceIte, Q21, Q22, zu, rep, zR, zfV, toD, zab, Q23, Q24, Q25, Q26, Q27, Q28, Nat.reduceLeDiff, Q29, Nat.reduceSub, Q30, Q31, Q32, sc, Q33, Q34, Q35, Q36, Q37, Q26, Q38, Q39, n0gt, n1gt, n2gt, n0eq, zhW, n1eq, n2eq, n0ne, n1ne, zhV, zhX, i0ne, i0eq, Bool.not_true, Bool.not_false, List.length_map, Bool.and_false, Bool.and_self, Bool.false_and, Bool.not_false, Bool.not_true, Bool.true_and, Int.toNat_natCast, Int.toNat_zero, List.drop_zero, List.length_map, List.length_nil, List.nil_append, List.take_length, Nat.sub_zero, Nat.zero_add, Option.isSome_none, Option.isSome_some, Option.map_none, Option.map_some, zbg, beq_self_eq_true, bne_self_eq_false, a] | with_reducible refine andA ?_ | fail); exact h.go) : P := e a ⟨h⟩
theorem gq24 {A P Q : Prop} (a : A) (h : Q) (e : A → Hd Q → P := by intro a h; (repeat' first | simp -dsimp only [↓zhM, ↓zbc, ↓zcw, ↓zhN, ↓zhF, ↓zhD, ↓zhG, ↓zhE, ↓zcB, ↓zcx, ↓zcC, ↓zcy, ↓zhH, ↓zcv, ↓zcD, ↓zcz, ↓zcE, ↓zcA, ↓zhC, ↓zhK, ↓zcu, ↓zcF, ↓zhu, ↓zht, ↓zhA, iN, bT, bF, eN, ↓zdW, ↓unC, ↓zW, ↓zP, ↓zQ, ↓zZ, ↓zax, ↓zbx, ↓zdD, ↓zan, ↓zcV, ↓zaD, ↓zn, ↓zp, ↓zca, ↓zh, ↓zak, ↓zN, ↓zbf, ↓zba, ↓ze, ↓zD, ↓zl, ↓zA, ↓zas, ↓zeB, ↓zeQ, ↓zaC, ↓zaP, ↓zaS, ↓zbs, ↓zbW, ↓zx, ↓zap, ↓zK, ↓zr, ↓zaw, zeM, zcl, zcd, unA, zeK, bnd, zfK, zae, zaj, zfy, dm, dm1, zV, zbo, zgx, zgw, keepO, Q0, Q1, Q2, Q3, Q4, Q5, zaz, zG, zi, zau, zY, Q6, Q7, Q8, Q9, Q10, Q11, Q12, Q13, Q14, Nat.reduceAdd, Q15, Int.reduceToNat, Q16, Q17, Q18, Q19, Q20, reduceIte, Q21, Q22, zu, rep, zR, zfV, toD, zab, Q23, Q24, Q25, Q26, Q27, Q28, Nat.reduceLeDiff, Q29, Nat.reduceSub, Q30, Q31, Q32, sc, Q33, Q34, Q35, Q36, Q37, Q26, Q38, Q39, n0gt, n1gt, n2gt, n0eq, zhW, n1eq, n2eq, n0ne, n1ne, zhV, zhX, i0ne, i0eq, Bool.not_true, Bool.not_false, List.length_map, zge, zkD, a] | with_reducible refine andA ?_ | fail); exact h.go) : P := e a ⟨h⟩
theorem zlx {l : List zfd} (hl0 : l.length ≤ 1073741824) (hK : K (.d (.bool true)) σ) : zt Try.prog zee [.d (.slice (zdb l)), .d (.slice (zdb l))] σ K := by
  refine acE2 zkc fun hl => ?_
  have hll : (zdb l).length = l.length := List.length_map ..
  simp only [zgq, iN, bT, bF, eN]
  refine gq23 hll ?_
  refine zai l.length (fun k vs s => vs = [.d (.int .i64 k)] ∧ s = σ) ⟨rfl, rfl⟩ ?_
  rintro k vs s hk ⟨rfl, rfl⟩
  by_cases hlt : k < l.length
  · have hd : decide ((k : Int) < (l.length : Int)) = true := by simp; omega
    have hx : l[k]? = some l[k] := by simp [hlt]
    obtain ⟨x, hxe⟩ : ∃ x, l[k] = x := ⟨_, rfl⟩
    rw [hxe] at hx
    have hgx := zjl (f := zkD) hx
    have s1 : (x.topic == x.topic) = true := by simp
    have s2 : (x.offset != x.offset) = false := by simp
    have s3 : (x.rec_ == x.rec_) = true := by simp
    refine gq24 (zb hd (zb hll (zb hgx (zb s1 (zb s2 (zb s3 (wkc k (by omega)))))))) ?_
    exact zds.next hlt ⟨rfl, rfl⟩
  · have hd : decide ((k : Int) < (l.length : Int)) = false := by simp; omega
    refine gq2 (zb hd hll) ?_
    refine zgk hl ?_
    exact hK
end


theorem ziQ {σ : List zc} {b : List UInt8} {n : Nat} (hn : n < 18446744073709551616) (hb : b.length ≤ 1073741824) {K : AV → List zc → Prop} (hK : K (.d (.slice (bcs (b ++ zci n)))) σ) :
    zt Try.prog zag [.d (.slice (bcs b)), .d (.int .u64 n)] σ K :=
  zt.frz 0 (c_PutNum hn hb ⟨_, rfl, by simp, hK⟩)
theorem zgQ {σ : List zc} {b : List UInt8} {n : Int} (h0 : 0 ≤ n) (hn : n < 18446744073709551616) (hb : b.length ≤ 1073741824) {K : AV → List zc → Prop} (hK : K (.d (.slice (bcs (b ++ zci n.toNat)))) σ) :
    zt Try.prog zag [.d (.slice (bcs b)), .d (.int .u64 n)] σ K := by
  have := ziQ (σ := σ) (b := b) (n := n.toNat) (by omega) hb (K := K) hK
  rwa [show ((n.toNat : Nat) : Int) = n by omega] at this
theorem zik {σ : List zc} {b x : List UInt8} (hx : x.length ≤ 1073741824) (hb : b.length ≤ 1073741800) {K : AV → List zc → Prop} (hK : K (.d (.slice (bcs (b ++ zlm x)))) σ) :
    zt Try.prog zbp [.d (.slice (bcs b)), .d (.slice (bcs x))] σ K :=
  zt.frz 0 (c_PutBytes hx hb ⟨_, rfl, by simp, hK⟩)
def recsQ (T : zO) (n : List UInt8) : List (List UInt8) := match zkt T n with
  | none => []
  | some x => x.recs
def baseQ (T : zO) (n : List UInt8) : Int := match zkt T n with
  | none => 0
  | some x => x.base
def ANx (T : zO) (n : List UInt8) (i : Nat) (x : List AV) (i' : Nat) : Prop := ∃ r, (recsQ T n)[i]? = some r ∧ x = [.d (.int .i64 (baseQ T n + i)), .d (.slice (bcs r))] ∧ i' = i + 1
def AFin (T : zO) (n : List UInt8) (i : Nat) : Prop := i = (recsQ T n).length
section

variable {σ : List zc} {id : Nat} {T : zO} {O : Nat → Prop} {K : AV → List zc → Prop}

theorem c_tpAll {n : List UInt8} (hK : K (.fn (.func zbq) [] [.box σ.length 0, .box (σ.length + 1) 0]) (σ ++ [.box [.box id 0], .box [.d (.str n)]])) : zt Try.prog zcM [.box id 0, .d (.str n)] σ K := by
  refine zat zfa.is rfl fun hl _ => zfa.goes ?_
  simp only [zfh, iN, bT, bF, eN]
  refine gq1 ?_
  exact zaR hK
theorem c_allRun {l ba bb m : Nat} {X : List zcG} {n : List UInt8} (hI : zdn T) (hR : Rel X T.l) (J : Nat → List zc → Prop) (happ : ∀ i s τ, J i s → J i (s ++ τ)) (hT : ∀ i s, J i s → zek s id m X T.last ∧ s[ba]? = some (.box [.box id 0]) ∧ s[bb]? = some (.box [.d (.str n)]))
    (hY : ∀ i x i' s, ANx T n i x i' → J i s → znb Try.prog l x s fun v s' => v = .d (.bool true) ∧ J i' s') (h0 : J 0 σ) :
    zt Try.prog zbq [.fn (.yield l) [] [], .box ba 0, .box bb 0] σ fun _ s => ∃ i, AFin T n i ∧ J i s := by
  obtain ⟨hP, g1, g2⟩ := hT 0 σ h0
  refine zat zdT.is rfl fun hl _ => zdT.goes ?_
  simp only [zeb, iN, bT, bF, eN]
  refine gq2 (zb g1 g2) ?_
  refine zmU hP ?_
  rcases zkA hR n with ⟨h1, h2⟩ | ⟨i, p, y, h1, h2, h3, h4, h5, h6⟩
  · rw [h1]
    have hf : AFin T n 0 := by rw [AFin, recsQ, h2]; rfl
    refine gq2 (show ((4 : Int) != 0) = true from rfl) ?_
    exact zaR ⟨0, hf, h0⟩
  · rw [h1]
    have hy := hI.tops y h5
    have hr : recsQ T n = p.x.recs := by rw [recsQ, h4, h6.recs]
    have hbq : baseQ T n = p.x.base := by rw [baseQ, h4, h6.base]
    have hb := (hP.tops p (List.mem_of_getElem? h2)).b
    have hlen := zu p.x.recs
    have b1 := hy.recs; have b2 := hy.base; have b3 := hy.next; have b4 := hy.each
    have hnx : y.next = y.base + y.recs.length := rfl
    rw [← h6.base, ← h6.recs] at hnx
    rw [← h6.recs] at b1 b4
    rw [← h6.base] at b2
    refine gq2 (zb hb (zb hlen (show ((0 : Int) != 0) = false from rfl))) ?_
    refine zai p.x.recs.length (fun k vs s => vs = [.d (.int .i64 k)] ∧ J k s) ⟨rfl, h0⟩ ?_
    rintro k vs s hk ⟨rfl, hJ⟩
    by_cases hlt : k < p.x.recs.length
    · have hd : decide ((k : Int) < (p.x.recs.length : Int)) = true := by simp; omega
      have hx : p.x.recs[k]? = some p.x.recs[k] := by simp [hlt]
      obtain ⟨r, hre⟩ : ∃ r, p.x.recs[k] = r := ⟨_, rfl⟩
      rw [hre] at hx
      have hg : (zbz p.x.recs)[k]? = some [.slice (bcs r)] := zjl (f := fun r => [D.slice (bcs r)]) hx
      have hrl := b4 r (List.mem_of_getElem? hx)
      have hb' := ((hT k s hJ).1.tops p (List.mem_of_getElem? h2)).b
      have hw : IntKind.i64.wrap (p.x.base + (k : Int)) = p.x.base + k := zbJ (by omega) (by omega)
      refine gq2 (zb hd (zb hg (zb hb' (zb hlen hw)))) ?_
      refine zmX (by omega) ?_
      refine gq2 (zb hb' (wkc k (by omega))) ?_
      refine (hY k _ (k + 1) s ⟨r, by rw [hr]; exact hx, by rw [hbq], rfl⟩ hJ).mono ?_
      rintro v s' ⟨rfl, hJ'⟩
      refine gq2 (wkc k (by omega)) ?_
      exact zds.next hlt ⟨rfl, hJ'⟩
    · have hd : decide ((k : Int) < (p.x.recs.length : Int)) = false := by simp; omega
      have hko : k = p.x.recs.length := by omega
      refine gq2 (zb hd hlen) ?_
      exact zaR ⟨k, by rw [AFin, hr]; exact hko, hJ⟩
end

end Go.Proofs.Ytaocmalhjfakdaa
