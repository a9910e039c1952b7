/- Contracts: the document's topics: where one stands; one is made. -/
import Derived.Test.YtaocmalhjfakdaaGreatPo1
import Derived.Test.YtaocmalhjfakdaaGreatAwEnd
import Derived.Test.YtaocmalhjfakdaaGreatSpNum
set_option linter.all false
set_option maxRecDepth 100000
set_option linter.unusedSimpArgs false
set_option linter.unusedVariables false
namespace Go.Proofs.YtaocmalhjfakdaaGreat
open Go.AW

def zbB : List (Int × Int × Int) → List AV
  | [] => []
  | a :: r => .d (.int .i64 a.1) :: .d (.int .i64 a.2.1) :: .d (.int .i64 a.2.2) :: zbB r
structure zbT (σ : List zc) (id t g : Nat) (T : zak) : Prop where
  box : σ[id]? = some (.box (.rsl t g 4 0 T.l.length :: zbB T.last))
  row : σ[t]? = some (.row g 4 (zT (zaE T.l)))
  last : T.last.length = 8
structure ziP (σ S : List zc) (id : Nat) : Prop where
  len : σ.length ≤ S.length
  get : ∀ (j : Nat) (x : zc), σ[j]? = some x → j ≠ id → (∀ g sz cs, x ≠ .row g sz cs) → S[j]? = some x
theorem ziP.app (σ τ : List zc) (id : Nat) : ziP σ (σ ++ τ) id := ⟨by simp, fun _ _ h _ _ => zf h⟩
theorem ziP.trans {σ S R : List zc} {id : Nat} (h : ziP σ S id) (h' : ziP S R id) : ziP σ R id := ⟨Nat.le_trans h.len h'.len, fun j x hx hj hr => h'.get j x (h.get j x hx hj hr) hj hr⟩
theorem zbT.app {σ : List zc} {id t g : Nat} {T : zak} (h : zbT σ id t g T) (τ : List zc) : zbT (σ ++ τ) id t g T := ⟨zf h.box, zf h.row, h.last⟩
theorem zcS {σ : List zc} {e : Int} {K : KT} (hK : K (.agg [.d (.int .i64 e), .d (.int .i64 0)]) σ) : zn Tryz.prog zcY [.d (.int .i64 e)] σ K := by
  refine zmx e_r07_bad fun hl => ?_
  simp only [S_r07_bad, iN, bT, bF, eN]
  refine zby ?_
  refine zdv hl ?_
  exact hK
theorem zev {σ : List zc} {x : zu} (hb : -9223372036854775808 ≤ x.next ∧ x.next ≤ 9223372036854775807) {K : KT} (hK : K (.d (.int .i64 x.next)) σ) : zn Tryz.prog zas [.agg [.d (.str x.name), .d (.int .i64 x.base), .d (.slice (zK x.recs)), .d (.slice (zW x.groups))]] σ K := by
  refine zmx zmt fun hl => ?_
  have hlen := zo x.recs
  have hw : IntKind.i64.wrap (x.base + (x.recs.length : Int)) = x.next := zam hb.1 hb.2
  simp only [zhY, iN, bT, bF, eN]
  refine zt (zb hlen hw) ?_
  refine zdv hl ?_
  exact hK
theorem zmq {A P Q : Prop} (a : A) (h : Q) (e : A → Hd Q → P := by intro a h; (repeat' first | simp -dsimp only [↓zhB, ↓zbf, ↓zcv, ↓zhC, ↓zhx, ↓zhv, ↓zhy, ↓zhw, ↓zcA, ↓zcw, ↓zcB, ↓zcx, ↓zhz, ↓zcu, ↓zcC, ↓zcy, ↓zcD, ↓zcz, ↓zhu, ↓zhA, ↓zct, ↓zcE, ↓zhs, ↓zhr, ↓zht, iN, bT, bF, eN, ↓zea, ↓unC, ↓zad, ↓zN, ↓zO, ↓zU, ↓zaw, ↓zbe, ↓zdk, ↓zaa, ↓zcX, ↓zai, ↓zk, ↓zi, ↓zbE, ↓zh, ↓zar, ↓zC, ↓zbb, ↓zbp, ↓ze, ↓zy, ↓zq, ↓zr, ↓zaA, ↓zeC, ↓zeS, ↓zaI, ↓zaT, ↓zbd, ↓zbF, ↓zbU, ↓zx, ↓zav, ↓zL, ↓zA, ↓zau, zeH, zcn, zcf, unA, zeV, bnd, zfP, zah, zX, zft, dm, dm1, zp, zaG, zgx, zgw, zS, Q0, Q1, Q2, Q3, Q4, Q5, zap, zE, zj, zat, zP, Q6, Q7, Q8, Q9, Q10, Q11, Q12, Q13, Q14, Nat.reduceAdd, Q15, Int.reduceToNat, Q16, Q17, Q18, Q19, Q20, reduceIte, Q21, Q22, zo, rep, zab, zgT, toD, zao, Q23, Q24, Q25, Q26, Q27, Q28, Nat.reduceLeDiff, Q29, Nat.reduceSub, Q30, Q31, Q32, sc, Q33, Q34, Q35, Q36, Q37, Q26, Q38, Q39, n0gt, n1gt, n2gt, n0eq, zjQ, n1eq, n2eq, n0ne, n1ne, zjP, zjR, i0ne, i0eq, Bool.not_true, Bool.not_false, List.length_map, Bool.and_false, Bool.and_self, Bool.false_and, Bool.not_false, Bool.not_true, Bool.true_and, Int.toNat_natCast, Int.toNat_zero, List.drop_zero, List.length_map, List.length_nil, List.nil_append, List.take_length, Nat.sub_zero, Nat.zero_add, Option.isSome_none, Option.isSome_some, Option.map_none, Option.map_some, zbM, beq_self_eq_true, bne_self_eq_false, a] | with_reducible refine andA ?_ | fail); exact h.go) : P := e a ⟨h⟩
theorem c_r7at {σ : List zc} {id t g : Nat} {T : zak} {n : List UInt8} (hT : zbT σ id t g T) (hn : T.l.length ≤ 1073741824) {K : KT}
    (hK : K (.d (.int .i64 (match atF n T.l 0 with | some k => (k : Int) | none => -1))) σ) : zn Tryz.prog zbO [.box id 0, .d (.str n)] σ K := by
  refine znT znr fun hl => ?_
  have hb := hT.box
  have hr := hT.row
  simp only [ziQ, iN, bT, bF, eN]
  refine zby ?_
  refine zF T.l.length (fun k vs s => vs = [.d (.int .i64 k)] ∧ s = σ ∧ atF n T.l 0 = atF n (T.l.drop k) k) ⟨rfl, rfl, by simp⟩ ?_
  rintro k vs s hk ⟨rfl, hs, hpf⟩
  rw [hs]
  by_cases hlt : k < T.l.length
  · have hd : decide ((k : Int) < (T.l.length : Int)) = true := by simp; omega
    have hx : T.l[k]? = some T.l[k] := by simp [hlt]
    obtain ⟨x, hxe⟩ : ∃ x, T.l[k] = x := ⟨_, rfl⟩
    rw [hxe] at hx
    have e2 : (zT (zaE T.l))[k * 4]? = some (.d (.str x.name)) := zeU (i := 0) (zbL T.l) (zbo hx) (by omega)
    rw [atF_step hx] at hpf
    cases h1 : (x.name == n)
    · rw [if_neg (by simp [h1])] at hpf
      refine zmq (zb hb (zb hr (zb hd (zb e2 (zb h1 (wkc k (by omega))))))) ?_
      exact zbC.next hlt ⟨rfl, rfl, hpf⟩
    · rw [if_pos h1] at hpf
      rw [hpf] at hK
      refine zmq (zb hb (zb hr (zb hd (zb e2 h1)))) ?_
      refine zdv hl ?_
      exact hK
  · have hd : decide ((k : Int) < (T.l.length : Int)) = false := by simp; omega
    rw [List.drop_eq_nil_of_le (by omega)] at hpf
    rw [hpf] at hK
    refine zmq (zb hb hd) ?_
    refine zdv hl ?_
    exact hK
theorem gq22 {A P Q : Prop} (a : A) (h : Q) (e : A → Hd Q → P := by intro a h; (repeat' first | simp -dsimp only [↓zhB, ↓zbf, ↓zcv, ↓zhC, ↓zhx, ↓zhv, ↓zhy, ↓zhw, ↓zcA, ↓zcw, ↓zcB, ↓zcx, ↓zhz, ↓zcu, ↓zcC, ↓zcy, ↓zcD, ↓zcz, ↓zhu, ↓zhA, ↓zct, ↓zcE, ↓zhs, ↓zhr, ↓zht, iN, bT, bF, eN, ↓zea, ↓unC, ↓zad, ↓zN, ↓zO, ↓zU, ↓zaw, ↓zbe, ↓zdk, ↓zaa, ↓zcX, ↓zai, ↓zk, ↓zi, ↓zbE, ↓zh, ↓zar, ↓zC, ↓zbb, ↓zbp, ↓ze, ↓zy, ↓zq, ↓zr, ↓zaA, ↓zeC, ↓zeS, ↓zaI, ↓zaT, ↓zbd, ↓zbF, ↓zbU, ↓zx, ↓zav, ↓zL, ↓zA, ↓zau, zeH, zcn, zcf, unA, zeV, bnd, zfP, zah, zX, zft, dm, dm1, zp, zaG, zgx, zgw, zS, Q0, Q1, Q2, Q3, Q4, Q5, zap, zE, zj, zat, zP, Q6, Q7, Q8, Q9, Q10, Q11, Q12, Q13, Q14, Nat.reduceAdd, Q15, Int.reduceToNat, Q16, Q17, Q18, Q19, Q20, reduceIte, Q21, Q22, zo, rep, zab, zgT, toD, zao, Q23, Q24, Q25, Q26, Q27, Q28, Nat.reduceLeDiff, Q29, Nat.reduceSub, Q30, Q31, Q32, sc, Q33, Q34, Q35, Q36, Q37, Q26, Q38, Q39, n0gt, n1gt, n2gt, n0eq, zjQ, n1eq, n2eq, n0ne, n1ne, zjP, zjR, i0ne, i0eq, Bool.not_true, Bool.not_false, List.length_map, List.drop_zero, Nat.sub_zero, Nat.zero_add, Nat.zero_mul, ↓zdx, ↓zlx, a] | with_reducible refine andA ?_ | fail); exact h.go) : P := e a ⟨h⟩
theorem c_r7create {σ : List zc} {id t g : Nat} {T : zak} {n : List UInt8} (hT : zbT σ id t g T) (hn : T.l.length ≤ 8) {K : KT}
    (hK : ∀ S t' g', zbT S id t' g' (zaY T n).2 → ziP σ S id → K (.agg [.d (.int .i64 (zaY T n).1.1), .d (.int .i64 (zaY T n).1.2)]) S) : zn Tryz.prog zdO [.box id 0, .d (.str n)] σ K := by
  refine zaj zfu.is rfl fun hl _ => zfu.goes ?_
  have hb := hT.box
  have hr := hT.row
  have xb : ∀ τ, (σ ++ τ)[id]? = _ := fun τ => zf hb
  have xr : ∀ τ, (σ ++ τ)[t]? = _ := fun τ => zf hr
  simp only [zfC, iN, bT, bF, eN]
  refine zby ?_
  refine c_r7at (hT.app _) (by omega) ?_
  cases h1 : atF n T.l 0 with
  | some k =>
    have hd : decide ((k : Int) ≥ 0) = true := by simp
    have hF : zaY T n = ((5, 0), T) := by rw [zaY, h1]; rfl
    rw [hF] at hK
    simp only []
    refine zt hd ?_
    refine zcS ?_
    refine zby ?_
    exact zaO (hK _ t g (hT.app _) (.app _ _ _))
  | none =>
    simp only []
    cases h2 : decide ((T.l.length : Int) ≥ 8)
    rotate_left
    · have hF : zaY T n = ((6, 0), T) := by
        rw [zaY, h1, if_neg (by simp), if_pos (by simp at h2; omega)]
      rw [hF] at hK
      refine zmq (zb (show decide ((-1 : Int) ≥ 0) = false from rfl) (zb xb h2)) ?_
      refine zcS ?_
      refine zby ?_
      exact zaO (hK _ t g (hT.app _) (.app _ _ _))
    have hF : zaY T n = ((0, 0), { T with l := T.l.take (zix n T.l) ++ ⟨n, 0, [], []⟩ :: T.l.drop (zix n T.l) }) := by
      rw [zaY, h1, if_neg (by simp), if_neg (by simp at h2; omega)]
    rw [hF] at hK
    refine zmq (zb (show decide ((-1 : Int) ≥ 0) = false from rfl) (zb xb h2)) ?_
    refine zF T.l.length (fun k vs s => vs = [.d (.int .i64 k)] ∧ s = σ ++ [.box [.d (.int .i64 0), .d (.int .i64 0)]] ∧ zix n T.l = k + zix n (T.l.drop k)) ⟨rfl, rfl, by simp⟩ ?_
    rintro k vs s hk ⟨rfl, rfl, hpf⟩
    have f4 := zbL T.l
    have hid := zg hb
    have xs : ∀ Y τ, (σ ++ τ).set id Y = σ.set id Y ++ τ := fun Y τ => List.set_append_left _ _ hid
    have ys : ∀ Y a τ, (σ.set id Y ++ a :: τ)[σ.length]? = some a := fun Y a τ => by rw [List.getElem?_append_right (by simp)]; simp
    have zs : ∀ Y a τ b, (σ.set id Y ++ a :: τ).set σ.length b = σ.set id Y ++ b :: τ := fun Y a τ b => by rw [List.set_append_right _ _ (by simp)]; simp
    have f4t := zbL (T.l.take k)
    have ht : List.take (k * 4) (zT (zaE T.l)) = zT (zaE (T.l.take k)) := by rw [zor f4, ← List.map_take]
    have hdp : List.take ((T.l.length - k) * 4) (List.drop (k * 4) (zT (zaE T.l))) = zT (zaE (T.l.drop k)) := by
      rw [zlz f4, ← List.map_drop, List.take_of_length_le]
      rw [zdp (zbL _)]; simp
    have hl1 : (zT (zaE (T.l.take k))).length = k * 4 := by rw [zdp f4t]; simp [hk]
    by_cases hlt : k < T.l.length ∧ (T.l[k]?.map fun x => Op.bytesLess x.name n) = some true
    · obtain ⟨hlt, hx3⟩ := hlt
      have hd : decide ((k : Int) < (T.l.length : Int)) = true := by simp; omega
      have hx : T.l[k]? = some T.l[k] := by simp [hlt]
      obtain ⟨x, hxe⟩ : ∃ x, T.l[k] = x := ⟨_, rfl⟩
      rw [hxe] at hx
      have e2 : (zT (zaE T.l))[k * 4]? = some (.d (.str x.name)) := zeU (i := 0) (zbL T.l) (zbo hx) (by omega)
      rw [zol hx] at hpf
      have h3 : Op.bytesLess x.name n = true := by rw [hx] at hx3; simpa using hx3
      rw [if_pos h3] at hpf
      refine zmq (zb xb (zb xr (zb hd (zb e2 (zb h3 (wkc k (by omega))))))) ?_
      exact zbC.next hlt ⟨rfl, rfl, by omega⟩
    · have hk0 : zix n T.l = k := by
        by_cases h : k < T.l.length
        · have hx : T.l[k]? = some T.l[k] := by simp [h]
          rw [hpf, zol hx, if_neg]
          · rfl
          · intro h3; exact hlt ⟨h, by rw [hx]; simp [h3]⟩
        · rw [hpf, List.drop_eq_nil_of_le (by omega)]; rfl
      rw [hk0] at hK
      rcases Nat.lt_or_ge k T.l.length with h | h
      case' inl =>
        have hd : decide ((k : Int) < (T.l.length : Int)) = true := by simp; omega
        have hx : T.l[k]? = some T.l[k] := by simp [h]
        obtain ⟨x, hxe⟩ : ∃ x, T.l[k] = x := ⟨_, rfl⟩
        rw [hxe] at hx
        have e2 : (zT (zaE T.l))[k * 4]? = some (.d (.str x.name)) := zeU (i := 0) (zbL T.l) (zbo hx) (by omega)
        have h3 : Op.bytesLess x.name n = false := by
          cases h3 : Op.bytesLess x.name n
          · rfl
          · exact (hlt ⟨h, by rw [hx]; simp [h3]⟩).elim
        refine gq22 (zb xb (zb xr (zb hd (zb e2 (zb h3 (zb ht (zb hdp (zb hl1 (zb xs (zb ys zs)))))))))) ?_
      case' inr =>
        have hd : decide ((k : Int) < (T.l.length : Int)) = false := by simp; omega
        refine gq22 (zb xb (zb xr (zb hd (zb ht (zb hdp (zb hl1 (zb xs (zb ys zs)))))))) ?_
      all_goals
        have hlen1 : (zaE (T.l.take k)).length = k := by simp [hk]
        have c1 : (zT (zaE (T.l.take k)) ++ AV.d (.str n) :: AV.d (.int .i64 0) :: AV.exact [] :: AV.exact [] :: zT (zaE (T.l.drop k)))[k * 4 + 2]? = some (.exact []) := by
          rw [List.getElem?_append_right (by omega), hl1, Nat.add_sub_cancel_left]; rfl
        have c2 : ((zT (zaE (T.l.take k)) ++ AV.d (.str n) :: AV.d (.int .i64 0) :: AV.exact [] :: AV.exact [] :: zT (zaE (T.l.drop k))).set (k * 4 + 2) (.d (.slice [])))[k * 4 + 3]? = some (.exact []) := by
          rw [List.getElem?_set_ne (by omega), List.getElem?_append_right (by omega), hl1, Nat.add_sub_cancel_left]; rfl
        have c3 : ((zT (zaE (T.l.take k)) ++ AV.d (.str n) :: AV.d (.int .i64 0) :: AV.exact [] :: AV.exact [] :: zT (zaE (T.l.drop k))).set (k * 4 + 2) (.d (.slice []))).set (k * 4 + 3) (.d (.slice [])) = zT (zaE (T.l.take k ++ ⟨n, 0, [], []⟩ :: T.l.drop k)) := by
          rw [List.set_append_right _ _ (by omega), List.set_append_right _ _ (by omega), hl1, Nat.add_sub_cancel_left, Nat.add_sub_cancel_left]
          simp [zT, zK]
        have g1 : ∀ X Y, (σ.set id X ++ [zc.box [.d (.int .i64 0), .d (.int .i64 0)], Y, .row 0 4 [AV.d (.str n), AV.d (.int .i64 0), AV.exact [], AV.exact []]])[σ.length + 1]? = some Y := fun X Y => by
          rw [List.getElem?_append_right (by simp)]; simp
        have g2 : ∀ X Y Z, (σ.set id X ++ [zc.box [.d (.int .i64 0), .d (.int .i64 0)], Y, .row 0 4 [AV.d (.str n), AV.d (.int .i64 0), AV.exact [], AV.exact []]]).set (σ.length + 1) Z = σ.set id X ++ [zc.box [.d (.int .i64 0), .d (.int .i64 0)], Z, .row 0 4 [AV.d (.str n), AV.d (.int .i64 0), AV.exact [], AV.exact []]] := fun X Y Z => by
          rw [List.set_append_right _ _ (by simp)]; simp
        refine ⟨_, .dataR (σ.length + 1) (k * 4 + 2) 2 4 _ (.exact []) [] (g1 _ _) c1 rfl (.dataR (σ.length + 1) (k * 4 + 3) 2 4 _ (.exact []) [] (by rw [g2]; exact g1 _ _) c2 rfl (.refl _ _)), ?_⟩
        rw [g2, g2, c3]
        refine hK _ (σ.length + 1) 2 ⟨?_, g1 _ _, hT.last⟩ ⟨by simp, fun j x hx hj hr => ?_⟩
        · rw [List.getElem?_append_left (by simpa using hid)]
          simp [hid]
          omega
        · rw [List.getElem?_append_left (by simpa using zg hx), List.getElem?_set_ne (Ne.symm hj)]
          exact hx
end Go.Proofs.YtaocmalhjfakdaaGreat
