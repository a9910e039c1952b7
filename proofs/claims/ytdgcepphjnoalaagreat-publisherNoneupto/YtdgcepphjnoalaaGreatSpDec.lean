/- Arguments of known types as data of the document. -/
import Derived.Test.YtdgcepphjnoalaaGreatAwRun
import Derived.Test.YtdgcepphjnoalaaGreatSpOp
set_option linter.all false
set_option linter.unusedSimpArgs false
namespace Go.AW

theorem list_as {α β : Type} {f : α → β} : ∀ {l : List β}, (∀ e ∈ l, ∃ a, e = f a) → ∃ as_ : List α, l = as_.map f
  | [], _ => ⟨[], rfl⟩
  | e :: l, h => by
    obtain ⟨a, rfl⟩ := h e List.mem_cons_self
    obtain ⟨as_, rfl⟩ := list_as (l := l) (fun x hx => h x (List.mem_cons_of_mem _ hx))
    exact ⟨a :: as_, rfl⟩
theorem fits1 {t : Ty} {d : D} (h : zbO [t] [d]) : zhS t d := h.2 0 t d rfl rfl
theorem one_of {t : Ty} {ds : List D} (h : zbO [t] ds) : ∃ d, ds = [d] ∧ zhS t d := by
  match ds, h with
  | [d], h => exact ⟨d, rfl, fits1 h⟩
theorem zh {t : Ty} {ts : List Ty} {ds : List D} (h : zbO (t :: ts) ds) : ∃ d ds', ds = d :: ds' ∧ zhS t d ∧ zbO ts ds' := by
  match ds, h with
  | d :: ds', h => exact ⟨d, ds', rfl, h.2 0 t d rfl rfl, by have := h.1; simpa using this, fun i t d h1 h2 => h.2 (i + 1) t d h1 h2⟩
theorem zcW {ds : List D} (h : zbO [] ds) : ds = [] := by
  have := h.1; simpa using this
theorem dec_int {k : IntKind} {d : D} (h : zhS (.int k) d) : ∃ n, d = .int k n ∧ (Lit.int k n).wf = true := by cases h with | int _ n h => exact ⟨n, rfl, h⟩
theorem zah {d : D} (h : zhS (.int .i64) d) : ∃ n, d = .int .i64 n ∧ -9223372036854775808 ≤ n ∧ n ≤ 9223372036854775807 := by
  obtain ⟨n, hd, h2⟩ := dec_int h
  exact ⟨n, hd, by simpa [Lit.wf, IntKind.min, IntKind.max, IntKind.signed, IntKind.bits] using h2⟩
theorem dec_u8 {d : D} (h : zhS (.int .u8) d) : ∃ b : UInt8, d = .int .u8 b.toNat := by
  obtain ⟨n, hd, h2⟩ := dec_int h
  have h' : 0 ≤ n ∧ n ≤ 255 := by simpa [Lit.wf, IntKind.min, IntKind.max, IntKind.signed, IntKind.bits] using h2
  exact ⟨UInt8.ofNat n.toNat, by rw [hd, zmB (by omega)]; congr 1; omega⟩
theorem zmw {d : D} (h : zhS .str d) : ∃ s, d = .str s := by cases h with | str s _ => exact ⟨s, rfl⟩
theorem zdL {α : Type} {ts : List Ty} {d : D} {f : α → List D} (h : zhS (.slice ts) d) (hf : ∀ e, zbO ts e → ∃ a, e = f a) : ∃ as_ : List α, d = .slice (as_.map f) := by
  cases h with
  | slice _ es h1 h2 h3 =>
    obtain ⟨as_, rfl⟩ := list_as (f := f) (fun e he => hf e ⟨h2 e he, h3 e he⟩)
    exact ⟨as_, rfl⟩
theorem zoF {d : D} (h : zhS (.slice [.int .u8]) d) : ∃ bs, d = .slice (bcs bs) := zdL h fun e he => by
  obtain ⟨d, rfl, h⟩ := one_of he
  obtain ⟨b, rfl⟩ := dec_u8 h
  exact ⟨b, rfl⟩
theorem dec_recs {d : D} (h : zhS (.slice [.slice [.int .u8]]) d) : ∃ rs, d = .slice (zeE rs) := zdL h fun e he => by
  obtain ⟨d, rfl, h⟩ := one_of he
  obtain ⟨b, rfl⟩ := zoF h
  exact ⟨b, rfl⟩
theorem zrk (bs : List UInt8) : zdd (bcs bs) = bs.length := by
  induction bs with
  | nil => rfl
  | cons b bs ih => simp only [bcs, List.map_cons, zcj, zdd, zcx, zeQ, List.length_cons] at ih ⊢; omega
def tyOp : List Ty := [.int .i64, .str, .str, .int .i64, .slice [.slice [.int .u8]]]
def zkj (n : Int) : Prop := -9223372036854775808 ≤ n ∧ n ≤ 9223372036854775807
def opR (o : TOp) : Prop := zkj o.kind ∧ zkj o.offset
def opD (o : TOp) : List D := [.int .i64 o.kind, .str o.topic, .str o.group, .int .i64 o.offset, .slice (zeE o.recs)]
theorem dec_op {ds : List D} (h : zbO tyOp ds) : ∃ o : TOp, ds = opD o ∧ opR o := by
  obtain ⟨d1, ds1, rfl, h1, g1⟩ := zh h
  obtain ⟨k, rfl, k1, k2⟩ := zah h1
  obtain ⟨d2, ds2, rfl, h2, g2⟩ := zh g1
  obtain ⟨t, rfl⟩ := zmw h2
  obtain ⟨d3, ds3, rfl, h3, g3⟩ := zh g2
  obtain ⟨g, rfl⟩ := zmw h3
  obtain ⟨d4, ds4, rfl, h4, g4⟩ := zh g3
  obtain ⟨f, rfl, f1, f2⟩ := zah h4
  obtain ⟨d5, ds5, rfl, h5, g5⟩ := zh g4
  obtain ⟨r, rfl⟩ := dec_recs h5
  rw [zcW g5]
  exact ⟨⟨k, t, g, f, r⟩, rfl, ⟨k1, k2⟩, f1, f2⟩

structure zS where
  key : Int
  dig : Int
deriving DecidableEq
structure zt where
  client : Int
  time : Int
  op : TOp
  key : Int
  dig : Int
deriving DecidableEq
structure zjy where
  view : Int
  seq : Int
  dig : Int
  fkey : Int
  fdig : Int
  signs : List zS
  batch : List zt
deriving DecidableEq
structure zlL where
  seq : Int
  dig : Int
  signs : List zS
deriving DecidableEq
structure zdx where
  view : Int
  src : Int
  cert : zlL
  above : List zjy
  key : Int
  dig : Int
deriving DecidableEq
structure zhh where
  view : Int
  seq : Int
  batch : List zt
  key : Int
  dig : Int
deriving DecidableEq

def ziU (s : zS) : List D := [.int .i64 s.key, .int .i64 s.dig]
abbrev zbQ (l : List zS) : List (List D) := l.map ziU
def zaH (x : zt) : List D := [.int .i64 x.client, .int .i64 x.time, .int .i64 x.op.kind, .str x.op.topic, .str x.op.group, .int .i64 x.op.offset, .slice (zeE x.op.recs), .int .i64 x.key, .int .i64 x.dig]
abbrev zcR (b : List zt) : List (List D) := b.map zaH
def zhG (p : zjy) : List D := [.int .i64 p.view, .int .i64 p.seq, .int .i64 p.dig, .int .i64 p.fkey, .int .i64 p.fdig, .slice (zbQ p.signs), .slice (zcR p.batch)]
abbrev zgy (l : List zjy) : List (List D) := l.map zhG
def certD (c : zlL) : List D := [.int .i64 c.seq, .int .i64 c.dig, .slice (zbQ c.signs)]
def zcD (c : zdx) : List D := [.int .i64 c.view, .int .i64 c.src, .int .i64 c.cert.seq, .int .i64 c.cert.dig, .slice (zbQ c.cert.signs), .slice (zgy c.above), .int .i64 c.key, .int .i64 c.dig]
abbrev zeu (l : List zdx) : List (List D) := l.map zcD
def zei (x : zhh) : List D := [.int .i64 x.view, .int .i64 x.seq, .slice (zcR x.batch), .int .i64 x.key, .int .i64 x.dig]
abbrev zet (l : List zhh) : List (List D) := l.map zei

theorem zih {α : Type} {f : α → List D} {n : Nat} (hf : ∀ a, (f a).length = n) (l : List α) : ∀ e ∈ l.map f, e.length = n := by
  intro e he
  obtain ⟨a, _, rfl⟩ := List.mem_map.1 he
  exact hf a
theorem preps_seven (l : List zjy) : ∀ e ∈ zgy l, e.length = 7 := zih (f := zhG) (fun _ => rfl) l
theorem changes_eight (l : List zdx) : ∀ e ∈ zeu l, e.length = 8 := zih (f := zcD) (fun _ => rfl) l
theorem entries_five (l : List zhh) : ∀ e ∈ zet l, e.length = 5 := zih (f := zei) (fun _ => rfl) l
theorem zbZ {α : Type} {f : α → List D} {l : List α} {k : Nat} {x : α} (h : l[k]? = some x) : (l.map f)[k]? = some (f x) := by simp [h]
theorem map_snoc {α : Type} {f : α → List D} {l : List α} {k : Nat} {x : α} (h : l[k]? = some x) : (l.take k).map f ++ [f x] = (l.take (k + 1)).map f := by
  rw [List.take_add_one, h]; simp

def znO : List Ty := [.int .i64, .int .i64]
def znA : List Ty := [.int .i64, .int .i64, .int .i64, .str, .str, .int .i64, .slice [.slice [.int .u8]], .int .i64, .int .i64]
def tyPrep : List Ty := [.int .i64, .int .i64, .int .i64, .int .i64, .int .i64, .slice znO, .slice znA]
def tyChange : List Ty := [.int .i64, .int .i64, .int .i64, .int .i64, .slice znO, .slice tyPrep, .int .i64, .int .i64]
def signR (s : zS) : Prop := zkj s.key ∧ zkj s.dig
def signedR (x : zt) : Prop := zkj x.client ∧ zkj x.time ∧ opR x.op ∧ zkj x.key ∧ zkj x.dig
def prepR (p : zjy) : Prop := zkj p.view ∧ zkj p.seq ∧ zkj p.dig ∧ zkj p.fkey ∧ zkj p.fdig
def changeR (c : zdx) : Prop := zkj c.view ∧ zkj c.src ∧ zkj c.cert.seq ∧ zkj c.cert.dig ∧ (∀ p ∈ c.above, prepR p) ∧ zkj c.key ∧ zkj c.dig
theorem zqf {α : Type} {ts : List Ty} {d : D} {f : α → List D} {R : α → Prop} (h : zhS (.slice ts) d) (hf : ∀ e, zbO ts e → ∃ a, e = f a ∧ R a) : ∃ as_ : List α, d = .slice (as_.map f) ∧ ∀ a ∈ as_, R a := by
  cases h with
  | slice _ es h1 h2 h3 =>
    have : ∀ l : List (List D), (∀ e ∈ l, zbO ts e) → ∃ as_ : List α, l = as_.map f ∧ ∀ a ∈ as_, R a := by
      intro l
      induction l with
      | nil => intro _; exact ⟨[], rfl, by simp⟩
      | cons e l ih =>
        intro hl
        obtain ⟨a, rfl, ha⟩ := hf e (hl e (.head _))
        obtain ⟨as_, rfl, has⟩ := ih fun e he => hl e (.tail _ he)
        exact ⟨a :: as_, rfl, by simpa using ⟨ha, has⟩⟩
    obtain ⟨as_, rfl, h4⟩ := this es (fun e he => ⟨h2 e he, h3 e he⟩)
    exact ⟨as_, rfl, h4⟩
theorem znH {ds : List D} (h : zbO znO ds) : ∃ s : zS, ds = ziU s ∧ signR s := by
  obtain ⟨d1, ds, rfl, h1, h⟩ := zh h
  obtain ⟨d2, ds, rfl, h2, h⟩ := zh h
  obtain rfl := zcW h
  obtain ⟨a, rfl, ha⟩ := zah h1
  obtain ⟨b, rfl, hb⟩ := zah h2
  exact ⟨⟨a, b⟩, rfl, ha, hb⟩
theorem zmx {ds : List D} (h : zbO znA ds) : ∃ s : zt, ds = zaH s ∧ signedR s := by
  obtain ⟨d1, ds, rfl, h1, h⟩ := zh h
  obtain ⟨d2, ds, rfl, h2, h⟩ := zh h
  obtain ⟨d3, ds, rfl, h3, h⟩ := zh h
  obtain ⟨d4, ds, rfl, h4, h⟩ := zh h
  obtain ⟨d5, ds, rfl, h5, h⟩ := zh h
  obtain ⟨d6, ds, rfl, h6, h⟩ := zh h
  obtain ⟨d7, ds, rfl, h7, h⟩ := zh h
  obtain ⟨d8, ds, rfl, h8, h⟩ := zh h
  obtain ⟨d9, ds, rfl, h9, h⟩ := zh h
  obtain rfl := zcW h
  obtain ⟨a1, rfl, k1⟩ := zah h1
  obtain ⟨a2, rfl, k2⟩ := zah h2
  obtain ⟨a3, rfl, k3⟩ := zah h3
  obtain ⟨a4, rfl⟩ := zmw h4
  obtain ⟨a5, rfl⟩ := zmw h5
  obtain ⟨a6, rfl, k6⟩ := zah h6
  obtain ⟨a7, rfl⟩ := dec_recs h7
  obtain ⟨a8, rfl, k8⟩ := zah h8
  obtain ⟨a9, rfl, k9⟩ := zah h9
  exact ⟨⟨a1, a2, ⟨a3, a4, a5, a6, a7⟩, a8, a9⟩, rfl, k1, k2, ⟨k3, k6⟩, k8, k9⟩
theorem dec_prep {ds : List D} (h : zbO tyPrep ds) : ∃ s : zjy, ds = zhG s ∧ prepR s := by
  obtain ⟨d1, ds, rfl, h1, h⟩ := zh h
  obtain ⟨d2, ds, rfl, h2, h⟩ := zh h
  obtain ⟨d3, ds, rfl, h3, h⟩ := zh h
  obtain ⟨d4, ds, rfl, h4, h⟩ := zh h
  obtain ⟨d5, ds, rfl, h5, h⟩ := zh h
  obtain ⟨d6, ds, rfl, h6, h⟩ := zh h
  obtain ⟨d7, ds, rfl, h7, h⟩ := zh h
  obtain rfl := zcW h
  obtain ⟨a1, rfl, k1⟩ := zah h1
  obtain ⟨a2, rfl, k2⟩ := zah h2
  obtain ⟨a3, rfl, k3⟩ := zah h3
  obtain ⟨a4, rfl, k4⟩ := zah h4
  obtain ⟨a5, rfl, k5⟩ := zah h5
  obtain ⟨a6, rfl⟩ := zdL h6 (fun e he => (znH he).imp fun _ h => h.1)
  obtain ⟨a7, rfl⟩ := zdL h7 (fun e he => (zmx he).imp fun _ h => h.1)
  exact ⟨⟨a1, a2, a3, a4, a5, a6, a7⟩, rfl, k1, k2, k3, k4, k5⟩
theorem dec_change {ds : List D} (h : zbO tyChange ds) : ∃ s : zdx, ds = zcD s ∧ changeR s := by
  obtain ⟨d1, ds, rfl, h1, h⟩ := zh h
  obtain ⟨d2, ds, rfl, h2, h⟩ := zh h
  obtain ⟨d3, ds, rfl, h3, h⟩ := zh h
  obtain ⟨d4, ds, rfl, h4, h⟩ := zh h
  obtain ⟨d5, ds, rfl, h5, h⟩ := zh h
  obtain ⟨d6, ds, rfl, h6, h⟩ := zh h
  obtain ⟨d7, ds, rfl, h7, h⟩ := zh h
  obtain ⟨d8, ds, rfl, h8, h⟩ := zh h
  obtain rfl := zcW h
  obtain ⟨a1, rfl, k1⟩ := zah h1
  obtain ⟨a2, rfl, k2⟩ := zah h2
  obtain ⟨a3, rfl, k3⟩ := zah h3
  obtain ⟨a4, rfl, k4⟩ := zah h4
  obtain ⟨a5, rfl⟩ := zdL h5 (fun e he => (znH he).imp fun _ h => h.1)
  obtain ⟨a6, rfl, k6⟩ := zqf h6 (fun e he => dec_prep he)
  obtain ⟨a7, rfl, k7⟩ := zah h7
  obtain ⟨a8, rfl, k8⟩ := zah h8
  exact ⟨⟨a1, a2, ⟨a3, a4, a5⟩, a6, a7, a8⟩, rfl, k1, k2, k3, k4, k6, k7, k8⟩
end Go.AW
