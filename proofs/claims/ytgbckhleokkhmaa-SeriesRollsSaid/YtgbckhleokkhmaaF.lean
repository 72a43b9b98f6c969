/- Part of the proof of a law of this seat: the texts Tys L1 Bn S1 S2 S3 S4 S5a S5 S6 S7 S8 S9, in this order. -/
import Derived.Test.YtgbckhleokkhmaaProg
import Derived.KernelRfl
import Derived.Test.YtgbckhleokkhmaaE
import Derived.Test.YtgbckhleokkhmaaC
namespace Go.Proofs
open Go Go.Av
set_option maxRecDepth 100000 in
theorem tys :
    tyI Try.prog 1 = some { size := 1, bytes := 8, zero := some (.v (.nilFunc)) } ∧
    tyI Try.prog 2 = some { size := 1, bytes := 8, zero := some (.v (.int .i64 0)) } ∧
    tyI Try.prog 3 = some { size := 1, bytes := 8, zero := some (.v (.int .i64 0)) } ∧
    tyI Try.prog 4 = some { size := 1, bytes := 1, zero := some (.v (.bool false)) } ∧
    tyI Try.prog 5 = some { size := 1, bytes := 1, zero := some (.v (.int .u8 0)) } ∧
    tyI Try.prog 6 = some { size := 1, bytes := 1, zero := some (.v (.int .u8 0)) } ∧
    tyI Try.prog 7 = some { size := 4, bytes := 24, zero := some (.agg [.v (.int .i64 0), .v (.int .i64 0), .v (.bool false), .v (.int .u8 0)]) } ∧
    tyI Try.prog 8 = some { size := 4, bytes := 24, zero := some (.agg [.v (.int .i64 0), .v (.int .i64 0), .v (.bool false), .v (.int .u8 0)]) } ∧
    tyI Try.prog 9 = some { size := 1, bytes := 16, zero := some (.v (.string ⟨#[]⟩)) } ∧
    tyI Try.prog 10 = some { size := 1, bytes := 16, zero := some (.v (.string ⟨#[]⟩)) } ∧
    tyI Try.prog 11 = some { size := 1, bytes := 16, zero := some (.v (.string ⟨#[]⟩)) } ∧
    tyI Try.prog 12 = some { size := 1, bytes := 8, zero := some (.v (.int .u64 0)) } ∧
    tyI Try.prog 13 = some { size := 2, bytes := 24, zero := some (.agg [.v (.string ⟨#[]⟩), .v (.int .u64 0)]) } ∧
    tyI Try.prog 14 = some { size := 2, bytes := 24, zero := some (.agg [.v (.string ⟨#[]⟩), .v (.int .u64 0)]) } ∧
    tyI Try.prog 15 = some { size := 1, bytes := 8, zero := some (.v (.pointer none)) } ∧
    tyI Try.prog 16 = some { size := 1, bytes := 8, zero := some (.v (.pointer none)) } ∧
    tyI Try.prog 17 = some { size := 1, bytes := 8, zero := some (.v (.pointer none)) } ∧
    tyI Try.prog 18 = some { size := 1, bytes := 8, zero := some (.agg [.v (.pointer none)]) } ∧
    tyI Try.prog 19 = some { size := 1, bytes := 8, zero := some (.agg [.v (.pointer none)]) } ∧
    tyI Try.prog 20 = some { size := 1, bytes := 16, zero := some (.v (.nilIface)) } ∧
    tyI Try.prog 21 = some { size := 1, bytes := 4, zero := some (.v (.int .i32 0)) } ∧
    tyI Try.prog 22 = some { size := 1, bytes := 24, zero := some (.v (.slice none 0 0)) } ∧
    tyI Try.prog 23 = some { size := 1, bytes := 24, zero := some (.v (.slice none 0 0)) } ∧
    tyI Try.prog 24 = some { size := 1, bytes := 8, zero := some (.v (.nilFunc)) } ∧
    tyI Try.prog 25 = some { size := 1, bytes := 8, zero := some (.v (.nilFunc)) } ∧
    tyI Try.prog 26 = some { size := 1, bytes := 8, zero := some (.v (.pointer none)) } ∧
    tyI Try.prog 27 = some { size := 1, bytes := 8, zero := some (.v (.pointer none)) } ∧
    tyI Try.prog 28 = some { size := 1, bytes := 8, zero := some (.v (.pointer none)) } ∧
    tyI Try.prog 30 = some { size := 1, bytes := 8, zero := some (.v (.nilFunc)) } ∧
    tyI Try.prog 31 = some { size := 1, bytes := 24, zero := some (.v (.slice none 0 0)) } ∧
    tyI Try.prog 32 = some { size := 1, bytes := 8, zero := some (.v (.nilFunc)) } ∧
    tyI Try.prog 33 = some { size := 1, bytes := 8, zero := some (.v (.nilFunc)) } ∧
    tyI Try.prog 34 = some { size := 2, bytes := 16, zero := some (.agg [.v (.int .i64 0), .v (.int .i64 0)]) } ∧
    tyI Try.prog 35 = some { size := 2, bytes := 16, zero := some (.agg [.v (.int .i64 0), .v (.int .i64 0)]) } ∧
    tyI Try.prog 36 = some { size := 6, bytes := 48, zero := some (.agg [.v (.int .i64 0), .v (.int .i64 0), .v (.int .i64 0), .v (.int .i64 0), .v (.int .i64 0), .v (.bool false)]) } ∧
    tyI Try.prog 37 = some { size := 6, bytes := 48, zero := some (.agg [.v (.int .i64 0), .v (.int .i64 0), .v (.int .i64 0), .v (.int .i64 0), .v (.int .i64 0), .v (.bool false)]) } ∧
    tyI Try.prog 39 = some { size := 1, bytes := 8, zero := some (.v (.nilFunc)) } ∧
    tyI Try.prog 40 = some { size := 1, bytes := 8, zero := some (.v (.nilFunc)) } ∧
    tyI Try.prog 41 = some { size := 1, bytes := 8, zero := some (.v (.nilFunc)) } ∧
    tyI Try.prog 42 = some { size := 1, bytes := 24, zero := some (.v (.slice none 0 0)) } ∧
    tyI Try.prog 43 = some { size := 1, bytes := 8, zero := some (.v (.nilFunc)) } ∧
    tyI Try.prog 44 = some { size := 1, bytes := 24, zero := some (.v (.slice none 0 0)) } ∧
    tyI Try.prog 45 = some { size := 1, bytes := 8, zero := some (.v (.int .i64 0)) } ∧
    tyI Try.prog 47 = some { size := 1, bytes := 8, zero := some (.v (.nilFunc)) } ∧
    tyI Try.prog 48 = some { size := 1, bytes := 8, zero := some (.v (.nilFunc)) } ∧
    tyI Try.prog 50 = some { size := 1, bytes := 8, zero := some (.v (.nilFunc)) } ∧
    tyI Try.prog 51 = some { size := 1, bytes := 8, zero := some (.v (.nilFunc)) } ∧
    tyI Try.prog 52 = some { size := 1, bytes := 8, zero := some (.v (.nilFunc)) } ∧
    tyI Try.prog 53 = some { size := 1, bytes := 24, zero := some (.v (.slice none 0 0)) } ∧
    tyI Try.prog 54 = some { size := 1, bytes := 24, zero := some (.v (.slice none 0 0)) } ∧
    tyI Try.prog 55 = some { size := 1, bytes := 8, zero := some (.v (.nilFunc)) } ∧
    tyI Try.prog 57 = some { size := 1, bytes := 8, zero := some (.v (.nilFunc)) } ∧
    tyI Try.prog 59 = some { size := 1, bytes := 8, zero := some (.v (.nilFunc)) } ∧
    tyI Try.prog 60 = some { size := 1, bytes := 8, zero := some (.v (.nilFunc)) } ∧
    tyI Try.prog 61 = some { size := 1, bytes := 8, zero := some (.v (.nilFunc)) } ∧
    tyI Try.prog 62 = some { size := 1, bytes := 8, zero := some (.v (.nilFunc)) } ∧
    tyI Try.prog 63 = some { size := 1, bytes := 24, zero := some (.v (.slice none 0 0)) } ∧
    tyI Try.prog 65 = some { size := 1, bytes := 8, zero := some (.v (.nilFunc)) } ∧
    tyI Try.prog 66 = some { size := 1, bytes := 8, zero := some (.v (.nilFunc)) } ∧
    tyI Try.prog 67 = some { size := 1, bytes := 8, zero := some (.v (.nilFunc)) } ∧
    tyI Try.prog 68 = some { size := 1, bytes := 24, zero := some (.v (.slice none 0 0)) } ∧
    tyI Try.prog 70 = some { size := 1, bytes := 8, zero := some (.v (.nilFunc)) } ∧
    tyI Try.prog 71 = some { size := 1, bytes := 24, zero := some (.v (.slice none 0 0)) } ∧
    tyI Try.prog 73 = some { size := 1, bytes := 8, zero := some (.v (.nilFunc)) } ∧
    tyI Try.prog 74 = some { size := 1, bytes := 8, zero := some (.v (.nilFunc)) } ∧
    tyI Try.prog 75 = some { size := 1, bytes := 8, zero := some (.v (.nilFunc)) } ∧
    tyI Try.prog 76 = some { size := 1, bytes := 8, zero := some (.v (.nilFunc)) } ∧
    tyI Try.prog 77 = some { size := 1, bytes := 8, zero := some (.v (.nilFunc)) } ∧
    tyI Try.prog 78 = some { size := 4, bytes := 32, zero := some (.agg [.v (.int .i64 0), .v (.int .i64 0), .v (.int .i64 0), .v (.int .i64 0)]) } ∧
    tyI Try.prog 79 = some { size := 4, bytes := 32, zero := some (.agg [.v (.int .i64 0), .v (.int .i64 0), .v (.int .i64 0), .v (.int .i64 0)]) } ∧
    tyI Try.prog 80 = some { size := 4, bytes := 64, zero := some (.agg [.v (.string ⟨#[]⟩), .v (.string ⟨#[]⟩), .v (.string ⟨#[]⟩), .v (.string ⟨#[]⟩)]) } ∧
    tyI Try.prog 81 = some { size := 5, bytes := 72, zero := some (.agg [.v (.int .i64 0), .v (.string ⟨#[]⟩), .v (.string ⟨#[]⟩), .v (.string ⟨#[]⟩), .v (.string ⟨#[]⟩)]) } ∧
    tyI Try.prog 82 = some { size := 5, bytes := 72, zero := some (.agg [.v (.int .i64 0), .v (.string ⟨#[]⟩), .v (.string ⟨#[]⟩), .v (.string ⟨#[]⟩), .v (.string ⟨#[]⟩)]) } ∧
    tyI Try.prog 83 = some { size := 9, bytes := 104, zero := some (.agg [.v (.int .i64 0), .v (.string ⟨#[]⟩), .v (.string ⟨#[]⟩), .v (.string ⟨#[]⟩), .v (.string ⟨#[]⟩), .v (.int .i64 0), .v (.int .i64 0), .v (.int .i64 0), .v (.int .i64 0)]) } ∧
    tyI Try.prog 84 = some { size := 9, bytes := 104, zero := some (.agg [.v (.int .i64 0), .v (.string ⟨#[]⟩), .v (.string ⟨#[]⟩), .v (.string ⟨#[]⟩), .v (.string ⟨#[]⟩), .v (.int .i64 0), .v (.int .i64 0), .v (.int .i64 0), .v (.int .i64 0)]) } ∧
    tyI Try.prog 85 = some { size := 6, bytes := 48, zero := some (.agg [.v (.int .i64 0), .v (.int .i64 0), .v (.int .i64 0), .v (.int .i64 0), .v (.int .i64 0), .v (.int .i64 0)]) } ∧
    tyI Try.prog 86 = some { size := 6, bytes := 48, zero := some (.agg [.v (.int .i64 0), .v (.int .i64 0), .v (.int .i64 0), .v (.int .i64 0), .v (.int .i64 0), .v (.int .i64 0)]) } ∧
    tyI Try.prog 87 = some { size := 1, bytes := 8, zero := some (.v (.nilFunc)) } ∧
    tyI Try.prog 88 = some { size := 1, bytes := 24, zero := some (.v (.slice none 0 0)) } ∧
    tyI Try.prog 89 = some { size := 1, bytes := 8, zero := some (.v (.nilFunc)) } ∧
    tyI Try.prog 90 = some { size := 1, bytes := 8, zero := some (.v (.pointer none)) } ∧
    tyI Try.prog 91 = some { size := 1, bytes := 8, zero := some (.v (.nilFunc)) } ∧
    tyI Try.prog 92 = some { size := 9, bytes := 72, zero := some (.agg [.v (.int .i64 0), .v (.int .i64 0), .v (.int .i64 0), .v (.int .i64 0), .v (.int .i64 0), .v (.int .i64 0), .v (.int .i64 0), .v (.int .i64 0), .v (.int .i64 0)]) } ∧
    tyI Try.prog 93 = some { size := 9, bytes := 72, zero := some (.agg [.v (.int .i64 0), .v (.int .i64 0), .v (.int .i64 0), .v (.int .i64 0), .v (.int .i64 0), .v (.int .i64 0), .v (.int .i64 0), .v (.int .i64 0), .v (.int .i64 0)]) } ∧
    tyI Try.prog 94 = some { size := 15, bytes := 120, zero := some (.agg [.v (.int .i64 0), .v (.int .i64 0), .v (.int .i64 0), .v (.int .i64 0), .v (.int .i64 0), .v (.int .i64 0), .v (.int .i64 0), .v (.int .i64 0), .v (.int .i64 0), .v (.int .i64 0), .v (.int .i64 0), .v (.int .i64 0), .v (.int .i64 0), .v (.int .i64 0), .v (.pointer none)]) } ∧
    tyI Try.prog 95 = some { size := 15, bytes := 120, zero := some (.agg [.v (.int .i64 0), .v (.int .i64 0), .v (.int .i64 0), .v (.int .i64 0), .v (.int .i64 0), .v (.int .i64 0), .v (.int .i64 0), .v (.int .i64 0), .v (.int .i64 0), .v (.int .i64 0), .v (.int .i64 0), .v (.int .i64 0), .v (.int .i64 0), .v (.int .i64 0), .v (.pointer none)]) } ∧
    tyI Try.prog 96 = some { size := 1, bytes := 8, zero := some (.v (.nilFunc)) } ∧
    tyI Try.prog 97 = some { size := 1, bytes := 8, zero := some (.v (.nilFunc)) } ∧
    tyI Try.prog 98 = some { size := 1, bytes := 24, zero := some (.v (.slice none 0 0)) } ∧
    tyI Try.prog 99 = some { size := 2, bytes := 48, zero := some (.agg [.v (.slice none 0 0), .v (.slice none 0 0)]) } ∧
    tyI Try.prog 100 = some { size := 2, bytes := 48, zero := some (.agg [.v (.slice none 0 0), .v (.slice none 0 0)]) } ∧
    tyI Try.prog 101 = some { size := 17, bytes := 168, zero := some (.agg [.v (.bool false), .v (.int .i64 0), .v (.int .i64 0), .v (.int .i64 0), .v (.int .i64 0), .v (.int .i64 0), .v (.int .i64 0), .v (.int .i64 0), .v (.int .i64 0), .v (.int .i64 0), .v (.int .i64 0), .v (.int .i64 0), .v (.int .i64 0), .v (.int .i64 0), .v (.int .i64 0), .v (.slice none 0 0), .v (.slice none 0 0)]) } ∧
    tyI Try.prog 102 = some { size := 17, bytes := 168, zero := some (.agg [.v (.bool false), .v (.int .i64 0), .v (.int .i64 0), .v (.int .i64 0), .v (.int .i64 0), .v (.int .i64 0), .v (.int .i64 0), .v (.int .i64 0), .v (.int .i64 0), .v (.int .i64 0), .v (.int .i64 0), .v (.int .i64 0), .v (.int .i64 0), .v (.int .i64 0), .v (.int .i64 0), .v (.slice none 0 0), .v (.slice none 0 0)]) } ∧
    tyI Try.prog 103 = some { size := 1, bytes := 8, zero := some (.v (.nilFunc)) } ∧
    tyI Try.prog 104 = some { size := 1, bytes := 24, zero := some (.v (.slice none 0 0)) } ∧
    tyI Try.prog 105 = some { size := 1, bytes := 24, zero := some (.v (.slice none 0 0)) } ∧
    tyI Try.prog 106 = some { size := 1, bytes := 8, zero := some (.v (.nilFunc)) } ∧
    tyI Try.prog 107 = some { size := 17, bytes := 168, zero := some (.agg [.v (.bool false), .v (.int .i64 0), .v (.int .i64 0), .v (.int .i64 0), .v (.int .i64 0), .v (.int .i64 0), .v (.int .i64 0), .v (.int .i64 0), .v (.int .i64 0), .v (.int .i64 0), .v (.int .i64 0), .v (.int .i64 0), .v (.int .i64 0), .v (.int .i64 0), .v (.int .i64 0), .v (.slice none 0 0), .v (.slice none 0 0)]) } ∧
    tyI Try.prog 108 = some { size := 17, bytes := 168, zero := some (.agg [.v (.bool false), .v (.int .i64 0), .v (.int .i64 0), .v (.int .i64 0), .v (.int .i64 0), .v (.int .i64 0), .v (.int .i64 0), .v (.int .i64 0), .v (.int .i64 0), .v (.int .i64 0), .v (.int .i64 0), .v (.int .i64 0), .v (.int .i64 0), .v (.int .i64 0), .v (.int .i64 0), .v (.slice none 0 0), .v (.slice none 0 0)]) } ∧
    tyI Try.prog 109 = some { size := 15, bytes := 136, zero := some (.agg [.v (.int .i64 0), .v (.int .i64 0), .v (.int .i64 0), .v (.int .i64 0), .v (.int .i64 0), .v (.int .i64 0), .v (.int .i64 0), .v (.int .i64 0), .v (.int .i64 0), .v (.int .i64 0), .v (.int .i64 0), .v (.int .i64 0), .v (.int .i64 0), .v (.int .i64 0), .v (.slice none 0 0)]) } ∧
    tyI Try.prog 110 = some { size := 15, bytes := 136, zero := some (.agg [.v (.int .i64 0), .v (.int .i64 0), .v (.int .i64 0), .v (.int .i64 0), .v (.int .i64 0), .v (.int .i64 0), .v (.int .i64 0), .v (.int .i64 0), .v (.int .i64 0), .v (.int .i64 0), .v (.int .i64 0), .v (.int .i64 0), .v (.int .i64 0), .v (.int .i64 0), .v (.slice none 0 0)]) } ∧
    tyI Try.prog 111 = some { size := 1, bytes := 8, zero := some (.v (.nilFunc)) } ∧
    tyI Try.prog 113 = some { size := 1, bytes := 8, zero := some (.v (.nilFunc)) } ∧
    tyI Try.prog 114 = some { size := 1, bytes := 8, zero := some (.v (.nilFunc)) } ∧
    tyI Try.prog 115 = some { size := 1, bytes := 8, zero := some (.v (.nilFunc)) } ∧
    tyI Try.prog 116 = some { size := 1, bytes := 8, zero := some (.v (.nilFunc)) } ∧
    tyI Try.prog 117 = some { size := 1, bytes := 8, zero := some (.v (.nilFunc)) } ∧
    tyI Try.prog 118 = some { size := 1, bytes := 24, zero := some (.v (.slice none 0 0)) } ∧
    tyI Try.prog 119 = some { size := 4, bytes := 48, zero := some (.agg [.v (.int .i64 0), .v (.int .i64 0), .v (.int .i64 0), .v (.slice none 0 0)]) } ∧
    tyI Try.prog 120 = some { size := 4, bytes := 48, zero := some (.agg [.v (.int .i64 0), .v (.int .i64 0), .v (.int .i64 0), .v (.slice none 0 0)]) } ∧
    tyI Try.prog 121 = some { size := 1, bytes := 8, zero := some (.v (.nilFunc)) } ∧
    tyI Try.prog 122 = some { size := 9, bytes := 72, zero := some (.agg [.v (.int .i64 0), .v (.int .i64 0), .v (.int .i64 0), .v (.int .i64 0), .v (.int .i64 0), .v (.int .i64 0), .v (.int .i64 0), .v (.bool false), .v (.bool false)]) } ∧
    tyI Try.prog 123 = some { size := 9, bytes := 72, zero := some (.agg [.v (.int .i64 0), .v (.int .i64 0), .v (.int .i64 0), .v (.int .i64 0), .v (.int .i64 0), .v (.int .i64 0), .v (.int .i64 0), .v (.bool false), .v (.bool false)]) } ∧
    tyI Try.prog 125 = some { size := 1, bytes := 8, zero := some (.v (.nilFunc)) } ∧
    tyI Try.prog 127 = some { size := 1, bytes := 8, zero := some (.v (.nilFunc)) } ∧
    tyI Try.prog 129 = some { size := 1, bytes := 8, zero := some (.v (.nilFunc)) } ∧
    tyI Try.prog 130 = some { size := 1, bytes := 8, zero := some (.v (.nilFunc)) } ∧
    tyI Try.prog 131 = some { size := 4, bytes := 48, zero := some (.agg [.v (.int .i64 0), .v (.int .i64 0), .v (.int .i64 0), .v (.slice none 0 0)]) } ∧
    tyI Try.prog 132 = some { size := 1, bytes := 8, zero := some (.v (.nilFunc)) } ∧
    tyI Try.prog 133 = some { size := 1, bytes := 8, zero := some (.v (.nilFunc)) } ∧
    tyI Try.prog 134 = some { size := 1, bytes := 8, zero := some (.v (.nilFunc)) } ∧
    tyI Try.prog 136 = some { size := 1, bytes := 8, zero := some (.v (.nilFunc)) } ∧
    tyI Try.prog 137 = some { size := 1, bytes := 8, zero := some (.v (.nilFunc)) } ∧
    tyI Try.prog 139 = some { size := 1, bytes := 8, zero := some (.v (.pointer none)) } ∧
    tyI Try.prog 140 = some { size := 1, bytes := 8, zero := some (.agg [.v (.pointer none)]) } ∧
    tyI Try.prog 141 = some { size := 1, bytes := 8, zero := some (.agg [.v (.pointer none)]) } ∧
    tyI Try.prog 142 = some { size := 1, bytes := 8, zero := some (.v (.nilFunc)) } ∧
    tyI Try.prog 143 = some { size := 1, bytes := 8, zero := some (.v (.nilFunc)) } ∧
    tyI Try.prog 144 = some { size := 1, bytes := 8, zero := some (.v (.nilFunc)) } ∧
    tyI Try.prog 145 = some { size := 1, bytes := 8, zero := some (.v (.nilFunc)) } ∧
    tyI Try.prog 146 = some { size := 1, bytes := 8, zero := some (.v (.nilFunc)) } ∧
    tyI Try.prog 147 = some { size := 1, bytes := 8, zero := some (.v (.nilFunc)) } ∧
    tyI Try.prog 148 = some { size := 13, bytes := 136, zero := some (.agg [.v (.int .i64 0), .v (.string ⟨#[]⟩), .v (.string ⟨#[]⟩), .v (.string ⟨#[]⟩), .v (.string ⟨#[]⟩), .v (.int .i64 0), .v (.int .i64 0), .v (.int .i64 0), .v (.int .i64 0), .v (.int .i64 0), .v (.int .i64 0), .v (.int .i64 0), .v (.int .i64 0)]) } ∧
    tyI Try.prog 149 = some { size := 13, bytes := 136, zero := some (.agg [.v (.int .i64 0), .v (.string ⟨#[]⟩), .v (.string ⟨#[]⟩), .v (.string ⟨#[]⟩), .v (.string ⟨#[]⟩), .v (.int .i64 0), .v (.int .i64 0), .v (.int .i64 0), .v (.int .i64 0), .v (.int .i64 0), .v (.int .i64 0), .v (.int .i64 0), .v (.int .i64 0)]) } ∧
    tyI Try.prog 150 = some { size := 1, bytes := 8, zero := some (.v (.nilFunc)) } ∧
    tyI Try.prog 151 = some { size := 13, bytes := 136, zero := some (.agg [.v (.int .i64 0), .v (.string ⟨#[]⟩), .v (.string ⟨#[]⟩), .v (.string ⟨#[]⟩), .v (.string ⟨#[]⟩), .v (.int .i64 0), .v (.int .i64 0), .v (.int .i64 0), .v (.int .i64 0), .v (.int .i64 0), .v (.int .i64 0), .v (.int .i64 0), .v (.int .i64 0)]) } ∧
    tyI Try.prog 152 = some { size := 1, bytes := 8, zero := some (.v (.nilFunc)) } ∧
    tyI Try.prog 153 = some { size := 1, bytes := 8, zero := some (.v (.map none)) } ∧
    tyI Try.prog 155 = some { size := 1, bytes := 8, zero := some (.v (.nilFunc)) } ∧
    tyI Try.prog 156 = some { size := 1, bytes := 8, zero := some (.v (.nilFunc)) } ∧
    tyI Try.prog 157 = some { size := 1, bytes := 8, zero := some (.v (.nilFunc)) } ∧
    tyI Try.prog 159 = some { size := 1, bytes := 8, zero := some (.v (.nilFunc)) } ∧
    tyI Try.prog 160 = some { size := 1, bytes := 8, zero := some (.v (.nilFunc)) } ∧
    tyI Try.prog 161 = some { size := 3, bytes := 40, zero := some (.agg [.v (.int .i64 0), .v (.int .i64 0), .v (.slice none 0 0)]) } ∧
    tyI Try.prog 162 = some { size := 3, bytes := 40, zero := some (.agg [.v (.int .i64 0), .v (.int .i64 0), .v (.slice none 0 0)]) } ∧
    tyI Try.prog 163 = some { size := 1, bytes := 8, zero := some (.v (.nilFunc)) } ∧
    tyI Try.prog 164 = some { size := 4, bytes := 4, zero := some (.agg [.v (.bool false), .v (.bool false), .v (.bool false), .v (.bool false)]) } ∧
    tyI Try.prog 165 = some { size := 14, bytes := 88, zero := some (.agg [.v (.int .i64 0), .v (.int .i64 0), .v (.bool false), .v (.bool false), .v (.bool false), .v (.bool false), .v (.bool false), .v (.bool false), .v (.bool false), .v (.bool false), .v (.string ⟨#[]⟩), .v (.string ⟨#[]⟩), .v (.string ⟨#[]⟩), .v (.string ⟨#[]⟩)]) } ∧
    tyI Try.prog 166 = some { size := 14, bytes := 88, zero := some (.agg [.v (.int .i64 0), .v (.int .i64 0), .v (.bool false), .v (.bool false), .v (.bool false), .v (.bool false), .v (.bool false), .v (.bool false), .v (.bool false), .v (.bool false), .v (.string ⟨#[]⟩), .v (.string ⟨#[]⟩), .v (.string ⟨#[]⟩), .v (.string ⟨#[]⟩)]) } ∧
    tyI Try.prog 167 = some { size := 1, bytes := 24, zero := some (.v (.slice none 0 0)) } ∧
    tyI Try.prog 168 = some { size := 27, bytes := 224, zero := some (.agg [.v (.int .i64 0), .v (.int .i64 0), .v (.slice none 0 0), .v (.int .i64 0), .v (.int .i64 0), .v (.bool false), .v (.bool false), .v (.bool false), .v (.bool false), .v (.bool false), .v (.bool false), .v (.bool false), .v (.bool false), .v (.string ⟨#[]⟩), .v (.string ⟨#[]⟩), .v (.string ⟨#[]⟩), .v (.string ⟨#[]⟩), .v (.int .i64 0), .v (.int .i64 0), .v (.int .i64 0), .v (.int .i64 0), .v (.int .i64 0), .v (.int .i64 0), .v (.int .i64 0), .v (.int .i64 0), .v (.int .i64 0), .v (.slice none 0 0)]) } ∧
    tyI Try.prog 169 = some { size := 27, bytes := 224, zero := some (.agg [.v (.int .i64 0), .v (.int .i64 0), .v (.slice none 0 0), .v (.int .i64 0), .v (.int .i64 0), .v (.bool false), .v (.bool false), .v (.bool false), .v (.bool false), .v (.bool false), .v (.bool false), .v (.bool false), .v (.bool false), .v (.string ⟨#[]⟩), .v (.string ⟨#[]⟩), .v (.string ⟨#[]⟩), .v (.string ⟨#[]⟩), .v (.int .i64 0), .v (.int .i64 0), .v (.int .i64 0), .v (.int .i64 0), .v (.int .i64 0), .v (.int .i64 0), .v (.int .i64 0), .v (.int .i64 0), .v (.int .i64 0), .v (.slice none 0 0)]) } ∧
    tyI Try.prog 170 = some { size := 1, bytes := 24, zero := some (.v (.slice none 0 0)) } ∧
    tyI Try.prog 171 = some { size := 1, bytes := 8, zero := some (.v (.pointer none)) } ∧
    tyI Try.prog 172 = some { size := 1, bytes := 24, zero := some (.agg [.v (.slice none 0 0)]) } ∧
    tyI Try.prog 173 = some { size := 1, bytes := 24, zero := some (.agg [.v (.slice none 0 0)]) } ∧
    tyI Try.prog 174 = some { size := 1, bytes := 8, zero := some (.v (.nilFunc)) } ∧
    tyI Try.prog 175 = some { size := 1, bytes := 8, zero := some (.v (.nilFunc)) } ∧
    tyI Try.prog 176 = some { size := 1, bytes := 8, zero := some (.v (.int .u64 0)) } ∧
    tyI Try.prog 177 = some { size := 1, bytes := 8, zero := some (.v (.nilFunc)) } ∧
    tyI Try.prog 178 = some { size := 1, bytes := 8, zero := some (.v (.nilFunc)) } ∧
    tyI Try.prog 179 = some { size := 3, bytes := 24, zero := some (.agg [.v (.int .i64 0), .v (.int .i64 0), .v (.int .i64 0)]) } ∧
    tyI Try.prog 180 = some { size := 1, bytes := 8, zero := some (.v (.nilFunc)) } ∧
    tyI Try.prog 181 = some { size := 1, bytes := 8, zero := some (.v (.nilFunc)) } ∧
    tyI Try.prog 182 = some { size := 1, bytes := 8, zero := some (.v (.nilFunc)) } ∧
    tyI Try.prog 183 = some { size := 1, bytes := 8, zero := some (.v (.pointer none)) } ∧
    tyI Try.prog 185 = some { size := 1, bytes := 8, zero := some (.v (.nilFunc)) } ∧
    tyI Try.prog 186 = some { size := 1, bytes := 8, zero := some (.v (.pointer none)) } ∧
    tyI Try.prog 187 = some { size := 2, bytes := 16, zero := some (.agg [.v (.pointer none), .v (.bool false)]) } ∧
    tyI Try.prog 188 = some { size := 2, bytes := 16, zero := some (.agg [.v (.pointer none), .v (.bool false)]) } ∧
    tyI Try.prog 189 = some { size := 1, bytes := 8, zero := some (.v (.nilFunc)) } ∧
    tyI Try.prog 190 = some { size := 1, bytes := 8, zero := some (.v (.nilFunc)) } ∧
    tyI Try.prog 191 = some { size := 1, bytes := 8, zero := some (.v (.nilFunc)) } ∧
    tyI Try.prog 192 = some { size := 1, bytes := 8, zero := some (.v (.nilFunc)) } ∧
    tyI Try.prog 193 = some { size := 1, bytes := 8, zero := some (.v (.nilFunc)) } ∧
    tyI Try.prog 194 = some { size := 1, bytes := 8, zero := some (.v (.nilFunc)) } ∧
    tyI Try.prog 196 = some { size := 1, bytes := 8, zero := some (.v (.nilFunc)) } ∧
    tyI Try.prog 197 = some { size := 1, bytes := 8, zero := some (.v (.pointer none)) } ∧
    tyI Try.prog 198 = some { size := 2, bytes := 32, zero := some (.agg [.v (.slice none 0 0), .v (.int .i64 0)]) } ∧
    tyI Try.prog 199 = some { size := 2, bytes := 32, zero := some (.agg [.v (.slice none 0 0), .v (.int .i64 0)]) } ∧
    tyI Try.prog 201 = some { size := 1, bytes := 8, zero := some (.v (.nilFunc)) } ∧
    tyI Try.prog 202 = some { size := 1, bytes := 8, zero := some (.v (.nilFunc)) } ∧
    tyI Try.prog 203 = some { size := 1, bytes := 8, zero := some (.v (.nilFunc)) } ∧
    tyI Try.prog 204 = some { size := 1, bytes := 8, zero := some (.v (.map none)) } ∧
    tyI Try.prog 206 = some { size := 1, bytes := 8, zero := some (.v (.nilFunc)) } ∧
    tyI Try.prog 208 = some { size := 1, bytes := 8, zero := some (.v (.nilFunc)) } ∧
    tyI Try.prog 209 = some { size := 1, bytes := 24, zero := some (.v (.slice none 0 0)) } ∧
    tyI Try.prog 210 = some { size := 1, bytes := 8, zero := some (.v (.nilFunc)) } ∧
    tyI Try.prog 211 = some { size := 1, bytes := 8, zero := some (.v (.nilFunc)) } ∧
    tyI Try.prog 212 = some { size := 1, bytes := 8, zero := some (.v (.nilFunc)) } ∧
    tyI Try.prog 213 = some { size := 1, bytes := 8, zero := some (.v (.nilFunc)) } ∧
    tyI Try.prog 214 = some { size := 1, bytes := 8, zero := some (.v (.nilFunc)) } ∧
    tyI Try.prog 215 = some { size := 1, bytes := 8, zero := some (.v (.pointer none)) } ∧
    tyI Try.prog 216 = some { size := 6, bytes := 48, zero := some (.agg [.v (.int .i64 0), .v (.int .i64 0), .v (.int .i64 0), .v (.int .i64 0), .v (.int .i64 0), .v (.int .i64 0)]) } ∧
    tyI Try.prog 218 = some { size := 1, bytes := 8, zero := some (.v (.nilFunc)) } ∧
    tyI Try.prog 219 = some { size := 1, bytes := 8, zero := some (.v (.nilFunc)) } ∧
    tyI Try.prog 220 = some { size := 1, bytes := 8, zero := some (.v (.nilFunc)) } ∧
    tyI Try.prog 221 = some { size := 1, bytes := 8, zero := some (.v (.nilFunc)) } ∧
    tyI Try.prog 222 = some { size := 1, bytes := 8, zero := some (.v (.nilFunc)) } ∧
    tyI Try.prog 223 = some { size := 1, bytes := 8, zero := some (.v (.nilFunc)) } ∧
    tyI Try.prog 224 = some { size := 1, bytes := 8, zero := some (.v (.nilFunc)) } ∧
    tyI Try.prog 225 = some { size := 1, bytes := 8, zero := some (.v (.nilFunc)) } ∧
    tyI Try.prog 226 = some { size := 1, bytes := 8, zero := some (.v (.nilFunc)) } ∧
    tyI Try.prog 227 = some { size := 1, bytes := 8, zero := some (.v (.nilFunc)) } ∧
    tyI Try.prog 228 = some { size := 1, bytes := 8, zero := some (.v (.nilFunc)) } ∧
    tyI Try.prog 229 = some { size := 1, bytes := 8, zero := some (.v (.nilFunc)) } ∧
    tyI Try.prog 231 = some { size := 1, bytes := 8, zero := some (.v (.nilFunc)) } ∧
    tyI Try.prog 232 = some { size := 1, bytes := 8, zero := some (.v (.nilFunc)) } ∧
    tyI Try.prog 233 = some { size := 1, bytes := 8, zero := some (.v (.nilFunc)) } ∧
    tyI Try.prog 234 = some { size := 1, bytes := 8, zero := some (.v (.nilFunc)) } ∧
    tyI Try.prog 235 = some { size := 1, bytes := 8, zero := some (.v (.nilFunc)) } ∧
    tyI Try.prog 236 = some { size := 1, bytes := 8, zero := some (.v (.nilFunc)) } ∧
    tyI Try.prog 237 = some { size := 6, bytes := 80, zero := some (.agg [.v (.int .i64 0), .v (.string ⟨#[]⟩), .v (.string ⟨#[]⟩), .v (.string ⟨#[]⟩), .v (.string ⟨#[]⟩), .v (.int .i64 0)]) } ∧
    tyI Try.prog 238 = some { size := 6, bytes := 80, zero := some (.agg [.v (.int .i64 0), .v (.string ⟨#[]⟩), .v (.string ⟨#[]⟩), .v (.string ⟨#[]⟩), .v (.string ⟨#[]⟩), .v (.int .i64 0)]) } ∧
    tyI Try.prog 239 = some { size := 1, bytes := 8, zero := some (.v (.nilFunc)) } ∧
    tyI Try.prog 240 = some { size := 1, bytes := 8, zero := some (.v (.nilFunc)) } ∧
    tyI Try.prog 242 = some { size := 1, bytes := 8, zero := some (.v (.nilFunc)) } ∧
    tyI Try.prog 243 = some { size := 1, bytes := 8, zero := some (.v (.nilFunc)) } ∧
    tyI Try.prog 244 = some { size := 1, bytes := 24, zero := some (.v (.slice none 0 0)) } ∧
    tyI Try.prog 245 = some { size := 3, bytes := 40, zero := some (.agg [.v (.int .i64 0), .v (.slice none 0 0), .v (.int .i64 0)]) } ∧
    tyI Try.prog 246 = some { size := 3, bytes := 40, zero := some (.agg [.v (.int .i64 0), .v (.slice none 0 0), .v (.int .i64 0)]) } ∧
    tyI Try.prog 247 = some { size := 1, bytes := 24, zero := some (.v (.slice none 0 0)) } ∧
    tyI Try.prog 248 = some { size := 3, bytes := 40, zero := some (.agg [.v (.int .i64 0), .v (.slice none 0 0), .v (.int .i64 0)]) } ∧
    tyI Try.prog 249 = some { size := 3, bytes := 40, zero := some (.agg [.v (.int .i64 0), .v (.slice none 0 0), .v (.int .i64 0)]) } ∧
    tyI Try.prog 250 = some { size := 1, bytes := 8, zero := some (.v (.nilFunc)) } ∧
    tyI Try.prog 251 = some { size := 1, bytes := 8, zero := some (.v (.nilFunc)) } ∧
    tyI Try.prog 252 = some { size := 1, bytes := 8, zero := some (.v (.nilFunc)) } ∧
    tyI Try.prog 253 = some { size := 9, bytes := 104, zero := some (.agg [.v (.int .i64 0), .v (.int .i64 0), .v (.int .i64 0), .v (.int .i64 0), .v (.string ⟨#[]⟩), .v (.string ⟨#[]⟩), .v (.string ⟨#[]⟩), .v (.string ⟨#[]⟩), .v (.int .i64 0)]) } ∧
    tyI Try.prog 254 = some { size := 9, bytes := 104, zero := some (.agg [.v (.int .i64 0), .v (.int .i64 0), .v (.int .i64 0), .v (.int .i64 0), .v (.string ⟨#[]⟩), .v (.string ⟨#[]⟩), .v (.string ⟨#[]⟩), .v (.string ⟨#[]⟩), .v (.int .i64 0)]) } ∧
    tyI Try.prog 255 = some { size := 1, bytes := 8, zero := some (.v (.nilFunc)) } ∧
    tyI Try.prog 256 = some { size := 1, bytes := 8, zero := some (.v (.nilFunc)) } ∧
    tyI Try.prog 257 = some { size := 1, bytes := 8, zero := some (.v (.nilFunc)) } ∧
    tyI Try.prog 258 = some { size := 1, bytes := 8, zero := some (.v (.nilFunc)) } ∧
    tyI Try.prog 259 = some { size := 1, bytes := 8, zero := some (.v (.nilFunc)) } ∧
    tyI Try.prog 260 = some { size := 1, bytes := 8, zero := some (.v (.nilFunc)) } ∧
    tyI Try.prog 262 = some { size := 1, bytes := 8, zero := some (.v (.nilFunc)) } ∧
    tyI Try.prog 263 = some { size := 7, bytes := 56, zero := some (.agg [.v (.int .i64 0), .v (.int .i64 0), .v (.int .i64 0), .v (.int .i64 0), .v (.int .i64 0), .v (.int .i64 0), .v (.bool false)]) } ∧
    tyI Try.prog 264 = some { size := 7, bytes := 56, zero := some (.agg [.v (.int .i64 0), .v (.int .i64 0), .v (.int .i64 0), .v (.int .i64 0), .v (.int .i64 0), .v (.int .i64 0), .v (.bool false)]) } ∧
    tyI Try.prog 265 = some { size := 1, bytes := 24, zero := some (.v (.slice none 0 0)) } ∧
    tyI Try.prog 266 = some { size := 1, bytes := 24, zero := some (.agg [.v (.slice none 0 0)]) } ∧
    tyI Try.prog 267 = some { size := 1, bytes := 24, zero := some (.agg [.v (.slice none 0 0)]) } ∧
    tyI Try.prog 268 = some { size := 1, bytes := 8, zero := some (.v (.nilFunc)) } ∧
    tyI Try.prog 269 = some { size := 13, bytes := 136, zero := some (.agg [.v (.int .i64 0), .v (.string ⟨#[]⟩), .v (.string ⟨#[]⟩), .v (.string ⟨#[]⟩), .v (.string ⟨#[]⟩), .v (.int .i64 0), .v (.int .i64 0), .v (.int .i64 0), .v (.int .i64 0), .v (.int .i64 0), .v (.int .i64 0), .v (.int .i64 0), .v (.int .i64 0)]) } ∧
    tyI Try.prog 270 = some { size := 13, bytes := 136, zero := some (.agg [.v (.int .i64 0), .v (.string ⟨#[]⟩), .v (.string ⟨#[]⟩), .v (.string ⟨#[]⟩), .v (.string ⟨#[]⟩), .v (.int .i64 0), .v (.int .i64 0), .v (.int .i64 0), .v (.int .i64 0), .v (.int .i64 0), .v (.int .i64 0), .v (.int .i64 0), .v (.int .i64 0)]) } ∧
    tyI Try.prog 271 = some { size := 1, bytes := 8, zero := some (.v (.nilFunc)) } ∧
    tyI Try.prog 272 = some { size := 1, bytes := 8, zero := some (.v (.nilFunc)) } ∧
    tyI Try.prog 273 = some { size := 1, bytes := 8, zero := some (.v (.nilFunc)) } ∧
    tyI Try.prog 274 = some { size := 1, bytes := 8, zero := some (.v (.int .u64 0)) } ∧
    tyI Try.prog 275 = some { size := 1, bytes := 8, zero := some (.v (.nilFunc)) } ∧
    tyI Try.prog 276 = some { size := 1, bytes := 8, zero := some (.v (.nilFunc)) } ∧
    tyI Try.prog 277 = some { size := 1, bytes := 8, zero := some (.v (.nilFunc)) } ∧
    tyI Try.prog 278 = some { size := 1, bytes := 24, zero := some (.v (.slice none 0 0)) } ∧
    tyI Try.prog 279 = some { size := 1, bytes := 8, zero := some (.v (.nilFunc)) } ∧
    tyI Try.prog 280 = some { size := 1, bytes := 8, zero := some (.v (.nilFunc)) } ∧
    tyI Try.prog 281 = some { size := 1, bytes := 8, zero := some (.v (.nilFunc)) } ∧
    tyI Try.prog 282 = some { size := 1, bytes := 8, zero := some (.v (.pointer none)) } ∧
    tyI Try.prog 284 = some { size := 1, bytes := 8, zero := some (.v (.nilFunc)) } ∧
    tyI Try.prog 285 = some { size := 1, bytes := 8, zero := some (.v (.nilFunc)) } ∧
    tyI Try.prog 286 = some { size := 1, bytes := 8, zero := some (.v (.nilFunc)) } ∧
    tyI Try.prog 287 = some { size := 1, bytes := 8, zero := some (.v (.nilFunc)) } ∧
    tyI Try.prog 288 = some { size := 1, bytes := 8, zero := some (.v (.nilFunc)) } ∧
    tyI Try.prog 289 = some { size := 1, bytes := 8, zero := some (.v (.nilFunc)) } ∧
    tyI Try.prog 290 = some { size := 1, bytes := 8, zero := some (.v (.nilFunc)) } ∧
    tyI Try.prog 291 = some { size := 1, bytes := 8, zero := some (.v (.nilFunc)) } ∧
    tyI Try.prog 292 = some { size := 1, bytes := 8, zero := some (.v (.nilFunc)) } ∧
    tyI Try.prog 293 = some { size := 1, bytes := 8, zero := some (.v (.nilFunc)) } ∧
    tyI Try.prog 294 = some { size := 1, bytes := 8, zero := some (.v (.nilFunc)) } ∧
    tyI Try.prog 295 = some { size := 1, bytes := 8, zero := some (.v (.nilFunc)) } ∧
    tyI Try.prog 296 = some { size := 2, bytes := 32, zero := some (.agg [.v (.slice none 0 0), .v (.int .i64 0)]) } ∧
    tyI Try.prog 297 = some { size := 2, bytes := 32, zero := some (.agg [.v (.slice none 0 0), .v (.int .i64 0)]) } ∧
    tyI Try.prog 298 = some { size := 1, bytes := 8, zero := some (.v (.nilFunc)) } ∧
    tyI Try.prog 299 = some { size := 1, bytes := 8, zero := some (.v (.nilFunc)) } ∧
    tyI Try.prog 301 = some { size := 1, bytes := 8, zero := some (.v (.nilFunc)) } ∧
    tyI Try.prog 302 = some { size := 1, bytes := 8, zero := some (.v (.nilFunc)) } ∧
    tyI Try.prog 303 = some { size := 1, bytes := 8, zero := some (.v (.nilFunc)) } ∧
    tyI Try.prog 305 = some { size := 1, bytes := 8, zero := some (.v (.nilFunc)) } ∧
    tyI Try.prog 306 = some { size := 1, bytes := 8, zero := some (.v (.nilFunc)) } ∧
    tyI Try.prog 307 = some { size := 1, bytes := 8, zero := some (.v (.nilFunc)) } ∧
    tyI Try.prog 308 = some { size := 1, bytes := 8, zero := some (.v (.nilFunc)) } ∧
    tyI Try.prog 309 = some { size := 1, bytes := 8, zero := some (.v (.nilFunc)) } ∧
    tyI Try.prog 310 = some { size := 1, bytes := 8, zero := some (.v (.nilFunc)) } ∧
    tyI Try.prog 311 = some { size := 1, bytes := 8, zero := some (.v (.nilFunc)) } ∧
    tyI Try.prog 312 = some { size := 1, bytes := 8, zero := some (.v (.nilFunc)) } ∧
    tyI Try.prog 313 = some { size := 1, bytes := 8, zero := some (.v (.nilFunc)) } ∧
    tyI Try.prog 314 = some { size := 1, bytes := 24, zero := some (.v (.slice none 0 0)) } ∧
    tyI Try.prog 315 = some { size := 9, bytes := 72, zero := some (.agg [.v (.int .i64 0), .v (.int .i64 0), .v (.int .i64 0), .v (.int .i64 0), .v (.int .i64 0), .v (.int .i64 0), .v (.int .i64 0), .v (.int .i64 0), .v (.int .i64 0)]) } ∧
    tyI Try.prog 316 = some { size := 1, bytes := 8, zero := some (.v (.nilFunc)) } ∧
    tyI Try.prog 317 = some { size := 1, bytes := 24, zero := some (.v (.slice none 0 0)) } ∧
    tyI Try.prog 318 = some { size := 1, bytes := 8, zero := some (.v (.nilFunc)) } ∧
    tyI Try.prog 319 = some { size := 1, bytes := 8, zero := some (.v (.nilFunc)) } ∧
    tyI Try.prog 320 = some { size := 1, bytes := 8, zero := some (.v (.pointer none)) } ∧
    tyI Try.prog 321 = some { size := 2, bytes := 16, zero := some (.agg [.v (.pointer none), .v (.bool false)]) } ∧
    tyI Try.prog 322 = some { size := 2, bytes := 16, zero := some (.agg [.v (.pointer none), .v (.bool false)]) } ∧
    tyI Try.prog 324 = some { size := 1, bytes := 8, zero := some (.v (.nilFunc)) } ∧
    tyI Try.prog 325 = some { size := 1, bytes := 8, zero := some (.v (.nilFunc)) } ∧
    tyI Try.prog 326 = some { size := 1, bytes := 8, zero := some (.v (.nilFunc)) } ∧
    tyI Try.prog 327 = some { size := 1, bytes := 8, zero := some (.v (.nilFunc)) } ∧
    tyI Try.prog 328 = some { size := 1, bytes := 8, zero := some (.v (.nilFunc)) } ∧
    tyI Try.prog 329 = some { size := 1, bytes := 8, zero := some (.v (.nilFunc)) } ∧
    tyI Try.prog 330 = some { size := 1, bytes := 8, zero := some (.v (.nilFunc)) } ∧
    tyI Try.prog 331 = some { size := 1, bytes := 8, zero := some (.v (.nilFunc)) } ∧
    tyI Try.prog 333 = some { size := 1, bytes := 8, zero := some (.v (.nilFunc)) } ∧
    tyI Try.prog 334 = some { size := 1, bytes := 8, zero := some (.v (.nilFunc)) } ∧
    tyI Try.prog 335 = some { size := 1, bytes := 8, zero := some (.v (.nilFunc)) } ∧
    tyI Try.prog 336 = some { size := 1, bytes := 8, zero := some (.v (.nilFunc)) } ∧
    tyI Try.prog 337 = some { size := 1, bytes := 8, zero := some (.v (.nilFunc)) } ∧
    tyI Try.prog 338 = some { size := 1, bytes := 8, zero := some (.v (.nilFunc)) } ∧
    tyI Try.prog 339 = some { size := 1, bytes := 8, zero := some (.v (.nilFunc)) } ∧
    tyI Try.prog 340 = some { size := 1, bytes := 8, zero := some (.v (.nilFunc)) } ∧
    tyI Try.prog 341 = some { size := 1, bytes := 8, zero := some (.v (.nilFunc)) } ∧
    tyI Try.prog 342 = some { size := 1, bytes := 8, zero := some (.v (.int .i64 0)) } ∧
    tyI Try.prog 344 = some { size := 1, bytes := 8, zero := some (.v (.nilFunc)) } ∧
    tyI Try.prog 345 = some { size := 1, bytes := 8, zero := some (.v (.nilFunc)) } ∧
    tyI Try.prog 346 = some { size := 1, bytes := 8, zero := some (.v (.nilFunc)) } ∧
    tyI Try.prog 347 = some { size := 1, bytes := 8, zero := some (.v (.nilFunc)) } ∧
    tyI Try.prog 348 = some { size := 1, bytes := 8, zero := some (.v (.nilFunc)) } ∧
    tyI Try.prog 349 = some { size := 1, bytes := 4, zero := some (.v (.int .u32 0)) } ∧
    tyI Try.prog 350 = some { size := 1, bytes := 8, zero := some (.v (.nilFunc)) } ∧
    tyI Try.prog 351 = some { size := 1, bytes := 8, zero := some (.v (.nilFunc)) } ∧
    tyI Try.prog 352 = some { size := 1, bytes := 8, zero := some (.v (.nilFunc)) } ∧
    tyI Try.prog 353 = some { size := 1, bytes := 8, zero := some (.v (.nilFunc)) } ∧
    tyI Try.prog 354 = some { size := 1, bytes := 8, zero := some (.v (.nilFunc)) } ∧
    tyI Try.prog 355 = some { size := 1, bytes := 8, zero := some (.v (.nilFunc)) } ∧
    tyI Try.prog 356 = some { size := 1, bytes := 8, zero := some (.v (.nilFunc)) } ∧
    tyI Try.prog 357 = some { size := 1, bytes := 8, zero := some (.v (.nilFunc)) } ∧
    tyI Try.prog 358 = some { size := 1, bytes := 8, zero := some (.v (.nilFunc)) } ∧
    tyI Try.prog 359 = some { size := 1, bytes := 24, zero := some (.agg [.v (.slice none 0 0)]) } ∧
    tyI Try.prog 360 = some { size := 1, bytes := 24, zero := some (.agg [.v (.slice none 0 0)]) } ∧
    tyI Try.prog 361 = some { size := 1, bytes := 8, zero := some (.v (.nilFunc)) } ∧
    tyI Try.prog 362 = some { size := 1, bytes := 8, zero := some (.v (.nilFunc)) } ∧
    tyI Try.prog 363 = some { size := 1, bytes := 8, zero := some (.v (.nilFunc)) } ∧
    tyI Try.prog 364 = some { size := 1, bytes := 8, zero := some (.v (.nilFunc)) } ∧
    tyI Try.prog 365 = some { size := 1, bytes := 8, zero := some (.v (.nilFunc)) } ∧
    tyI Try.prog 368 = some { size := 1, bytes := 8, zero := some (.v (.nilFunc)) } ∧
    tyI Try.prog 369 = some { size := 1, bytes := 8, zero := some (.v (.nilFunc)) } ∧
    tyI Try.prog 370 = some { size := 1, bytes := 8, zero := some (.v (.nilFunc)) } ∧
    tyI Try.prog 371 = some { size := 1, bytes := 8, zero := some (.v (.nilFunc)) } ∧
    tyI Try.prog 372 = some { size := 2, bytes := 16, zero := some (.agg [.v (.int .i64 0), .v (.int .i64 0)]) } ∧
    tyI Try.prog 373 = some { size := 2, bytes := 16, zero := some (.agg [.v (.int .i64 0), .v (.int .i64 0)]) } ∧
    tyI Try.prog 374 = some { size := 18, bytes := 144, zero := some (.agg [.v (.int .i64 0), .v (.int .i64 0), .v (.int .i64 0), .v (.int .i64 0), .v (.int .i64 0), .v (.int .i64 0), .v (.int .i64 0), .v (.int .i64 0), .v (.int .i64 0), .v (.int .i64 0), .v (.int .i64 0), .v (.int .i64 0), .v (.int .i64 0), .v (.int .i64 0), .v (.int .i64 0), .v (.int .i64 0), .v (.int .i64 0), .v (.int .i64 0)]) } ∧
    tyI Try.prog 375 = some { size := 1, bytes := 8, zero := some (.v (.nilFunc)) } ∧
    tyI Try.prog 376 = some { size := 1, bytes := 8, zero := some (.v (.nilFunc)) } ∧
    tyI Try.prog 377 = some { size := 1, bytes := 8, zero := some (.v (.nilFunc)) } ∧
    tyI Try.prog 378 = some { size := 1, bytes := 8, zero := some (.v (.pointer none)) } ∧
    tyI Try.prog 379 = some { size := 9, bytes := 72, zero := some (.agg [.v (.pointer none), .v (.pointer none), .v (.pointer none), .v (.pointer none), .v (.pointer none), .v (.pointer none), .v (.pointer none), .v (.pointer none), .v (.pointer none)]) } ∧
    tyI Try.prog 380 = some { size := 1, bytes := 8, zero := some (.v (.nilFunc)) } ∧
    tyI Try.prog 381 = some { size := 1, bytes := 8, zero := some (.v (.nilFunc)) } ∧
    tyI Try.prog 382 = some { size := 1, bytes := 8, zero := some (.v (.int .u64 0)) } ∧
    tyI Try.prog 383 = some { size := 1, bytes := 8, zero := some (.v (.nilFunc)) } ∧
    tyI Try.prog 384 = some { size := 1, bytes := 8, zero := some (.v (.nilFunc)) } ∧
    tyI Try.prog 385 = some { size := 1, bytes := 8, zero := some (.v (.pointer none)) } ∧
    tyI Try.prog 386 = some { size := 1, bytes := 8, zero := some (.v (.nilFunc)) } ∧
    tyI Try.prog 387 = some { size := 1, bytes := 8, zero := some (.v (.nilFunc)) } ∧
    tyI Try.prog 388 = some { size := 1, bytes := 8, zero := some (.v (.nilFunc)) } ∧
    tyI Try.prog 389 = some { size := 1, bytes := 8, zero := some (.v (.nilFunc)) } ∧
    tyI Try.prog 390 = some { size := 1, bytes := 8, zero := some (.v (.nilFunc)) } ∧
    tyI Try.prog 391 = some { size := 1, bytes := 8, zero := some (.v (.nilFunc)) } ∧
    tyI Try.prog 392 = some { size := 1, bytes := 8, zero := some (.v (.nilFunc)) } ∧
    tyI Try.prog 393 = some { size := 1, bytes := 8, zero := some (.v (.nilFunc)) } ∧
    tyI Try.prog 394 = some { size := 1, bytes := 8, zero := some (.v (.nilFunc)) } ∧
    tyI Try.prog 395 = some { size := 1, bytes := 8, zero := some (.v (.nilFunc)) } ∧
    tyI Try.prog 396 = some { size := 1, bytes := 8, zero := some (.v (.nilFunc)) } ∧
    tyI Try.prog 397 = some { size := 1, bytes := 8, zero := some (.v (.nilFunc)) } ∧
    tyI Try.prog 398 = some { size := 1, bytes := 8, zero := some (.v (.nilFunc)) } ∧
    tyI Try.prog 399 = some { size := 1, bytes := 8, zero := some (.v (.nilFunc)) } ∧
    tyI Try.prog 400 = some { size := 1, bytes := 8, zero := some (.v (.pointer none)) } ∧
    tyI Try.prog 402 = some { size := 1, bytes := 8, zero := some (.v (.nilFunc)) } ∧
    tyI Try.prog 403 = some { size := 1, bytes := 8, zero := some (.v (.nilFunc)) } ∧
    tyI Try.prog 404 = some { size := 1, bytes := 8, zero := some (.v (.nilFunc)) } ∧
    tyI Try.prog 405 = some { size := 1, bytes := 8, zero := some (.v (.nilFunc)) } ∧
    tyI Try.prog 406 = some { size := 1, bytes := 8, zero := some (.v (.nilFunc)) } ∧
    tyI Try.prog 408 = some { size := 1, bytes := 8, zero := some (.v (.nilFunc)) } ∧
    tyI Try.prog 409 = some { size := 1, bytes := 8, zero := some (.v (.nilFunc)) } ∧
    tyI Try.prog 410 = some { size := 1, bytes := 8, zero := some (.v (.nilFunc)) } ∧
    tyI Try.prog 411 = some { size := 1, bytes := 8, zero := some (.v (.nilFunc)) } ∧
    tyI Try.prog 412 = some { size := 4, bytes := 40, zero := some (.agg [.v (.pointer none), .v (.pointer none), .v (.pointer none), .v (.string ⟨#[]⟩)]) } ∧
    tyI Try.prog 413 = some { size := 4, bytes := 40, zero := some (.agg [.v (.pointer none), .v (.pointer none), .v (.pointer none), .v (.string ⟨#[]⟩)]) } ∧
    tyI Try.prog 417 = some { size := 1, bytes := 1, zero := some (.v (.int .u8 0)) } ∧
    tyI Try.prog 418 = some { size := 1, bytes := 1, zero := some (.v (.int .u8 0)) } ∧
    tyI Try.prog 419 = some { size := 1, bytes := 8, zero := some (.v (.nilFunc)) } ∧
    tyI Try.prog 420 = some { size := 1, bytes := 8, zero := some (.v (.pointer none)) } ∧
    tyI Try.prog 421 = some { size := 1, bytes := 4, zero := some (.v (.int .i32 0)) } ∧
    tyI Try.prog 422 = some { size := 1, bytes := 4, zero := some (.v (.int .i32 0)) } ∧
    tyI Try.prog 423 = some { size := 11, bytes := 48, zero := some (.agg [.v (.int .u64 0), .v (.int .u64 0), .v (.int .u32 0), .v (.int .u8 0), .v (.int .u8 0), .v (.int .u8 0), .v (.int .u8 0), .v (.nilFunc), .v (.pointer none), .v (.int .i32 0), .v (.int .i32 0)]) } ∧
    tyI Try.prog 424 = some { size := 11, bytes := 48, zero := some (.agg [.v (.int .u64 0), .v (.int .u64 0), .v (.int .u32 0), .v (.int .u8 0), .v (.int .u8 0), .v (.int .u8 0), .v (.int .u8 0), .v (.nilFunc), .v (.pointer none), .v (.int .i32 0), .v (.int .i32 0)]) } ∧
    tyI Try.prog 425 = some { size := 1, bytes := 8, zero := some (.v (.pointer none)) } := by
  refine ⟨?_, ?_, ?_, ?_, ?_, ?_, ?_, ?_, ?_, ?_, ?_, ?_, ?_, ?_, ?_, ?_, ?_, ?_, ?_, ?_, ?_, ?_, ?_, ?_, ?_, ?_, ?_, ?_, ?_, ?_, ?_, ?_, ?_, ?_, ?_, ?_, ?_, ?_, ?_, ?_, ?_, ?_, ?_, ?_, ?_, ?_, ?_, ?_, ?_, ?_, ?_, ?_, ?_, ?_, ?_, ?_, ?_, ?_, ?_, ?_, ?_, ?_, ?_, ?_, ?_, ?_, ?_, ?_, ?_, ?_, ?_, ?_, ?_, ?_, ?_, ?_, ?_, ?_, ?_, ?_, ?_, ?_, ?_, ?_, ?_, ?_, ?_, ?_, ?_, ?_, ?_, ?_, ?_, ?_, ?_, ?_, ?_, ?_, ?_, ?_, ?_, ?_, ?_, ?_, ?_, ?_, ?_, ?_, ?_, ?_, ?_, ?_, ?_, ?_, ?_, ?_, ?_, ?_, ?_, ?_, ?_, ?_, ?_, ?_, ?_, ?_, ?_, ?_, ?_, ?_, ?_, ?_, ?_, ?_, ?_, ?_, ?_, ?_, ?_, ?_, ?_, ?_, ?_, ?_, ?_, ?_, ?_, ?_, ?_, ?_, ?_, ?_, ?_, ?_, ?_, ?_, ?_, ?_, ?_, ?_, ?_, ?_, ?_, ?_, ?_, ?_, ?_, ?_, ?_, ?_, ?_, ?_, ?_, ?_, ?_, ?_, ?_, ?_, ?_, ?_, ?_, ?_, ?_, ?_, ?_, ?_, ?_, ?_, ?_, ?_, ?_, ?_, ?_, ?_, ?_, ?_, ?_, ?_, ?_, ?_, ?_, ?_, ?_, ?_, ?_, ?_, ?_, ?_, ?_, ?_, ?_, ?_, ?_, ?_, ?_, ?_, ?_, ?_, ?_, ?_, ?_, ?_, ?_, ?_, ?_, ?_, ?_, ?_, ?_, ?_, ?_, ?_, ?_, ?_, ?_, ?_, ?_, ?_, ?_, ?_, ?_, ?_, ?_, ?_, ?_, ?_, ?_, ?_, ?_, ?_, ?_, ?_, ?_, ?_, ?_, ?_, ?_, ?_, ?_, ?_, ?_, ?_, ?_, ?_, ?_, ?_, ?_, ?_, ?_, ?_, ?_, ?_, ?_, ?_, ?_, ?_, ?_, ?_, ?_, ?_, ?_, ?_, ?_, ?_, ?_, ?_, ?_, ?_, ?_, ?_, ?_, ?_, ?_, ?_, ?_, ?_, ?_, ?_, ?_, ?_, ?_, ?_, ?_, ?_, ?_, ?_, ?_, ?_, ?_, ?_, ?_, ?_, ?_, ?_, ?_, ?_, ?_, ?_, ?_, ?_, ?_, ?_, ?_, ?_, ?_, ?_, ?_, ?_, ?_, ?_, ?_, ?_, ?_, ?_, ?_, ?_, ?_, ?_, ?_, ?_, ?_, ?_, ?_, ?_, ?_, ?_, ?_, ?_, ?_, ?_, ?_, ?_, ?_, ?_, ?_, ?_, ?_, ?_, ?_, ?_, ?_, ?_, ?_, ?_, ?_, ?_, ?_, ?_, ?_, ?_, ?_, ?_, ?_, ?_, ?_, ?_, ?_, ?_, ?_, ?_, ?_, ?_, ?_, ?_, ?_, ?_⟩ <;> kernel_rfl
noncomputable def pkOf (t i : Nat) : String := (((Try.prog.fieldsOf t)[i]?).map (·.pkgPath)).getD ""
set_option maxRecDepth 100000 in
theorem unders :
    Try.prog.underlying 0 = some (TypeDesc.tuple #[]) ∧
    Try.prog.underlying 1 = some (TypeDesc.func #[] #[] false) ∧
    Try.prog.underlying 2 = some (TypeDesc.int IntKind.i64) ∧
    Try.prog.underlying 3 = some (TypeDesc.int IntKind.i64) ∧
    Try.prog.underlying 4 = some TypeDesc.bool ∧
    Try.prog.underlying 5 = some (TypeDesc.int IntKind.u8) ∧
    Try.prog.underlying 6 = some (TypeDesc.int IntKind.u8) ∧
    Try.prog.underlying 7 = some (TypeDesc.struct #[{ name := "x", type := 2, offset := 0, embedded := false, tag := "", pkgPath := "runtime", byteOffset := 0 }, { name := "y", type := 3, offset := 1, embedded := false, tag := "", pkgPath := "runtime", byteOffset := 8 }, { name := "signed", type := 4, offset := 2, embedded := false, tag := "", pkgPath := "runtime", byteOffset := 16 }, { name := "code", type := 6, offset := 3, embedded := false, tag := "", pkgPath := "runtime", byteOffset := 17 }]) ∧
    Try.prog.underlying 8 = some (TypeDesc.struct #[{ name := "x", type := 2, offset := 0, embedded := false, tag := "", pkgPath := "runtime", byteOffset := 0 }, { name := "y", type := 3, offset := 1, embedded := false, tag := "", pkgPath := "runtime", byteOffset := 8 }, { name := "signed", type := 4, offset := 2, embedded := false, tag := "", pkgPath := "runtime", byteOffset := 16 }, { name := "code", type := 6, offset := 3, embedded := false, tag := "", pkgPath := "runtime", byteOffset := 17 }]) ∧
    Try.prog.underlying 9 = some TypeDesc.string ∧
    Try.prog.underlying 10 = some TypeDesc.string ∧
    Try.prog.underlying 11 = some TypeDesc.string ∧
    Try.prog.underlying 12 = some (TypeDesc.int IntKind.u64) ∧
    Try.prog.underlying 13 = some (TypeDesc.struct #[{ name := "msg", type := 9, offset := 0, embedded := false, tag := "", pkgPath := "runtime", byteOffset := 0 }, { name := "addr", type := 12, offset := 1, embedded := false, tag := "", pkgPath := "runtime", byteOffset := 16 }]) ∧
    Try.prog.underlying 14 = some (TypeDesc.struct #[{ name := "msg", type := 9, offset := 0, embedded := false, tag := "", pkgPath := "runtime", byteOffset := 0 }, { name := "addr", type := 12, offset := 1, embedded := false, tag := "", pkgPath := "runtime", byteOffset := 16 }]) ∧
    Try.prog.underlying 15 = some (TypeDesc.pointer 413) ∧
    Try.prog.underlying 16 = some (TypeDesc.pointer 416) ∧
    Try.prog.underlying 17 = some (TypeDesc.pointer 424) ∧
    Try.prog.underlying 18 = some (TypeDesc.struct #[{ name := "typ", type := 17, offset := 0, embedded := false, tag := "", pkgPath := pkOf 18 0, byteOffset := 0 }]) ∧
    Try.prog.underlying 19 = some (TypeDesc.struct #[{ name := "typ", type := 17, offset := 0, embedded := false, tag := "", pkgPath := pkOf 19 0, byteOffset := 0 }]) ∧
    Try.prog.underlying 20 = some (TypeDesc.interface #[]) ∧
    Try.prog.underlying 21 = some (TypeDesc.int IntKind.i32) ∧
    Try.prog.underlying 22 = some (TypeDesc.slice 37) ∧
    Try.prog.underlying 23 = some (TypeDesc.slice 120) ∧
    Try.prog.underlying 24 = some (TypeDesc.func #[23] #[4] false) ∧
    Try.prog.underlying 25 = some (TypeDesc.func #[] #[4] false) ∧
    Try.prog.underlying 26 = some (TypeDesc.pointer 141) ∧
    Try.prog.underlying 27 = some (TypeDesc.pointer 246) ∧
    Try.prog.underlying 28 = some (TypeDesc.pointer 249) ∧
    Try.prog.underlying 29 = some (TypeDesc.tuple #[26, 22, 27, 28]) ∧
    Try.prog.underlying 30 = some (TypeDesc.func #[22, 23] #[26, 22, 27, 28] false) ∧
    Try.prog.underlying 31 = some (TypeDesc.slice 123) ∧
    Try.prog.underlying 32 = some (TypeDesc.func #[26, 27, 2, 2, 2] #[31] false) ∧
    Try.prog.underlying 33 = some (TypeDesc.func #[31, 2, 2] #[4] false) ∧
    Try.prog.underlying 34 = some (TypeDesc.struct #[{ name := "Tier", type := 3, offset := 0, embedded := false, tag := "", pkgPath := "", byteOffset := 0 }, { name := "Index", type := 2, offset := 1, embedded := false, tag := "", pkgPath := "", byteOffset := 8 }]) ∧
    Try.prog.underlying 35 = some (TypeDesc.struct #[{ name := "Tier", type := 3, offset := 0, embedded := false, tag := "", pkgPath := "", byteOffset := 0 }, { name := "Index", type := 2, offset := 1, embedded := false, tag := "", pkgPath := "", byteOffset := 8 }]) ∧
    Try.prog.underlying 36 = some (TypeDesc.struct #[{ name := "Part", type := 35, offset := 0, embedded := false, tag := "", pkgPath := "", byteOffset := 0 }, { name := "Seg", type := 2, offset := 2, embedded := false, tag := "", pkgPath := "", byteOffset := 16 }, { name := "Mark", type := 2, offset := 3, embedded := false, tag := "", pkgPath := "", byteOffset := 24 }, { name := "Rows", type := 2, offset := 4, embedded := false, tag := "", pkgPath := "", byteOffset := 32 }, { name := "Cold", type := 4, offset := 5, embedded := false, tag := "", pkgPath := "", byteOffset := 40 }]) ∧
    Try.prog.underlying 37 = some (TypeDesc.struct #[{ name := "Part", type := 35, offset := 0, embedded := false, tag := "", pkgPath := "", byteOffset := 0 }, { name := "Seg", type := 2, offset := 2, embedded := false, tag := "", pkgPath := "", byteOffset := 16 }, { name := "Mark", type := 2, offset := 3, embedded := false, tag := "", pkgPath := "", byteOffset := 24 }, { name := "Rows", type := 2, offset := 4, embedded := false, tag := "", pkgPath := "", byteOffset := 32 }, { name := "Cold", type := 4, offset := 5, embedded := false, tag := "", pkgPath := "", byteOffset := 40 }]) ∧
    Try.prog.underlying 38 = some (TypeDesc.tuple #[37, 4]) ∧
    Try.prog.underlying 39 = some (TypeDesc.func #[2] #[37, 4] false) ∧
    Try.prog.underlying 40 = some (TypeDesc.func #[31, 2] #[37, 4] false) ∧
    Try.prog.underlying 41 = some (TypeDesc.func #[22, 23, 2, 2, 2, 2] #[4] false) ∧
    Try.prog.underlying 42 = some (TypeDesc.slice 149) ∧
    Try.prog.underlying 43 = some (TypeDesc.func #[42] #[4] false) ∧
    Try.prog.underlying 44 = some (TypeDesc.slice 151) ∧
    Try.prog.underlying 45 = some (TypeDesc.int IntKind.i64) ∧
    Try.prog.underlying 46 = some (TypeDesc.tuple #[44, 45]) ∧
    Try.prog.underlying 47 = some (TypeDesc.func #[44, 44] #[44, 45] false) ∧
    Try.prog.underlying 48 = some (TypeDesc.func #[42] #[44] false) ∧
    Try.prog.underlying 49 = some (TypeDesc.tuple #[42, 45]) ∧
    Try.prog.underlying 50 = some (TypeDesc.func #[42, 42] #[42, 45] false) ∧
    Try.prog.underlying 51 = some (TypeDesc.func #[42, 42] #[4] false) ∧
    Try.prog.underlying 52 = some (TypeDesc.func #[44] #[42] false) ∧
    Try.prog.underlying 53 = some (TypeDesc.slice 162) ∧
    Try.prog.underlying 54 = some (TypeDesc.slice 5) ∧
    Try.prog.underlying 55 = some (TypeDesc.func #[53] #[4] false) ∧
    Try.prog.underlying 56 = some (TypeDesc.tuple #[54, 45]) ∧
    Try.prog.underlying 57 = some (TypeDesc.func #[53] #[54, 45] false) ∧
    Try.prog.underlying 58 = some (TypeDesc.tuple #[53, 45]) ∧
    Try.prog.underlying 59 = some (TypeDesc.func #[54] #[53, 45] false) ∧
    Try.prog.underlying 60 = some (TypeDesc.func #[54, 54] #[4] false) ∧
    Try.prog.underlying 61 = some (TypeDesc.func #[53, 53] #[4] false) ∧
    Try.prog.underlying 62 = some (TypeDesc.func #[53, 54] #[4] false) ∧
    Try.prog.underlying 63 = some (TypeDesc.slice 84) ∧
    Try.prog.underlying 64 = some (TypeDesc.tuple #[63, 45]) ∧
    Try.prog.underlying 65 = some (TypeDesc.func #[63, 3] #[63, 45] false) ∧
    Try.prog.underlying 66 = some (TypeDesc.func #[63, 63] #[4] false) ∧
    Try.prog.underlying 67 = some (TypeDesc.func #[63, 3] #[4] false) ∧
    Try.prog.underlying 68 = some (TypeDesc.slice 86) ∧
    Try.prog.underlying 69 = some (TypeDesc.tuple #[68, 45]) ∧
    Try.prog.underlying 70 = some (TypeDesc.func #[63, 3, 2, 2] #[68, 45] false) ∧
    Try.prog.underlying 71 = some (TypeDesc.slice 216) ∧
    Try.prog.underlying 72 = some (TypeDesc.tuple #[71, 45]) ∧
    Try.prog.underlying 73 = some (TypeDesc.func #[63, 3, 2, 2] #[71, 45] false) ∧
    Try.prog.underlying 74 = some (TypeDesc.func #[71, 71] #[4] false) ∧
    Try.prog.underlying 75 = some (TypeDesc.func #[68] #[71] false) ∧
    Try.prog.underlying 76 = some (TypeDesc.func #[63, 3, 2, 2] #[4] false) ∧
    Try.prog.underlying 77 = some (TypeDesc.func #[63] #[4] false) ∧
    Try.prog.underlying 78 = some (TypeDesc.struct #[{ name := "Count", type := 2, offset := 0, embedded := false, tag := "", pkgPath := "", byteOffset := 0 }, { name := "Sum", type := 2, offset := 1, embedded := false, tag := "", pkgPath := "", byteOffset := 8 }, { name := "Min", type := 2, offset := 2, embedded := false, tag := "", pkgPath := "", byteOffset := 16 }, { name := "Max", type := 2, offset := 3, embedded := false, tag := "", pkgPath := "", byteOffset := 24 }]) ∧
    Try.prog.underlying 79 = some (TypeDesc.struct #[{ name := "Count", type := 2, offset := 0, embedded := false, tag := "", pkgPath := "", byteOffset := 0 }, { name := "Sum", type := 2, offset := 1, embedded := false, tag := "", pkgPath := "", byteOffset := 8 }, { name := "Min", type := 2, offset := 2, embedded := false, tag := "", pkgPath := "", byteOffset := 16 }, { name := "Max", type := 2, offset := 3, embedded := false, tag := "", pkgPath := "", byteOffset := 24 }]) ∧
    Try.prog.underlying 80 = some (TypeDesc.array 4 9) ∧
    Try.prog.underlying 81 = some (TypeDesc.struct #[{ name := "Hour", type := 2, offset := 0, embedded := false, tag := "", pkgPath := "", byteOffset := 0 }, { name := "Dims", type := 80, offset := 1, embedded := false, tag := "", pkgPath := "", byteOffset := 8 }]) ∧
    Try.prog.underlying 82 = some (TypeDesc.struct #[{ name := "Hour", type := 2, offset := 0, embedded := false, tag := "", pkgPath := "", byteOffset := 0 }, { name := "Dims", type := 80, offset := 1, embedded := false, tag := "", pkgPath := "", byteOffset := 8 }]) ∧
    Try.prog.underlying 83 = some (TypeDesc.struct #[{ name := "Key", type := 82, offset := 0, embedded := false, tag := "", pkgPath := "", byteOffset := 0 }, { name := "Cell", type := 79, offset := 5, embedded := false, tag := "", pkgPath := "", byteOffset := 72 }]) ∧
    Try.prog.underlying 84 = some (TypeDesc.struct #[{ name := "Key", type := 82, offset := 0, embedded := false, tag := "", pkgPath := "", byteOffset := 0 }, { name := "Cell", type := 79, offset := 5, embedded := false, tag := "", pkgPath := "", byteOffset := 72 }]) ∧
    Try.prog.underlying 85 = some (TypeDesc.struct #[{ name := "Part", type := 35, offset := 0, embedded := false, tag := "", pkgPath := "", byteOffset := 0 }, { name := "Cell", type := 79, offset := 2, embedded := false, tag := "", pkgPath := "", byteOffset := 16 }]) ∧
    Try.prog.underlying 86 = some (TypeDesc.struct #[{ name := "Part", type := 35, offset := 0, embedded := false, tag := "", pkgPath := "", byteOffset := 0 }, { name := "Cell", type := 79, offset := 2, embedded := false, tag := "", pkgPath := "", byteOffset := 16 }]) ∧
    Try.prog.underlying 87 = some (TypeDesc.func #[63, 2, 2] #[4] false) ∧
    Try.prog.underlying 88 = some (TypeDesc.slice 108) ∧
    Try.prog.underlying 89 = some (TypeDesc.func #[88] #[4] false) ∧
    Try.prog.underlying 90 = some (TypeDesc.pointer 95) ∧
    Try.prog.underlying 91 = some (TypeDesc.func #[] #[26] false) ∧
    Try.prog.underlying 92 = some (TypeDesc.struct #[{ name := "Retain", type := 2, offset := 0, embedded := false, tag := "", pkgPath := "", byteOffset := 0 }, { name := "SealLag", type := 2, offset := 1, embedded := false, tag := "", pkgPath := "", byteOffset := 8 }, { name := "DayLag", type := 2, offset := 2, embedded := false, tag := "", pkgPath := "", byteOffset := 16 }, { name := "MonthLag", type := 2, offset := 3, embedded := false, tag := "", pkgPath := "", byteOffset := 24 }, { name := "ColdLag", type := 2, offset := 4, embedded := false, tag := "", pkgPath := "", byteOffset := 32 }, { name := "Base", type := 2, offset := 5, embedded := false, tag := "", pkgPath := "", byteOffset := 40 }, { name := "Cap", type := 2, offset := 6, embedded := false, tag := "", pkgPath := "", byteOffset := 48 }, { name := "Queue", type := 3, offset := 7, embedded := false, tag := "", pkgPath := "", byteOffset := 56 }, { name := "Wal", type := 2, offset := 8, embedded := false, tag := "", pkgPath := "", byteOffset := 64 }]) ∧
    Try.prog.underlying 93 = some (TypeDesc.struct #[{ name := "Retain", type := 2, offset := 0, embedded := false, tag := "", pkgPath := "", byteOffset := 0 }, { name := "SealLag", type := 2, offset := 1, embedded := false, tag := "", pkgPath := "", byteOffset := 8 }, { name := "DayLag", type := 2, offset := 2, embedded := false, tag := "", pkgPath := "", byteOffset := 16 }, { name := "MonthLag", type := 2, offset := 3, embedded := false, tag := "", pkgPath := "", byteOffset := 24 }, { name := "ColdLag", type := 2, offset := 4, embedded := false, tag := "", pkgPath := "", byteOffset := 32 }, { name := "Base", type := 2, offset := 5, embedded := false, tag := "", pkgPath := "", byteOffset := 40 }, { name := "Cap", type := 2, offset := 6, embedded := false, tag := "", pkgPath := "", byteOffset := 48 }, { name := "Queue", type := 3, offset := 7, embedded := false, tag := "", pkgPath := "", byteOffset := 56 }, { name := "Wal", type := 2, offset := 8, embedded := false, tag := "", pkgPath := "", byteOffset := 64 }]) ∧
    Try.prog.underlying 94 = some (TypeDesc.struct #[{ name := "Seq", type := 2, offset := 0, embedded := false, tag := "", pkgPath := "", byteOffset := 0 }, { name := "Tick", type := 2, offset := 1, embedded := false, tag := "", pkgPath := "", byteOffset := 8 }, { name := "Budget", type := 2, offset := 2, embedded := false, tag := "", pkgPath := "", byteOffset := 16 }, { name := "Floor", type := 2, offset := 3, embedded := false, tag := "", pkgPath := "", byteOffset := 24 }, { name := "Next", type := 2, offset := 4, embedded := false, tag := "", pkgPath := "", byteOffset := 32 }, { name := "Rules", type := 93, offset := 5, embedded := false, tag := "", pkgPath := "", byteOffset := 40 }, { name := "Parts", type := 26, offset := 14, embedded := false, tag := "", pkgPath := "", byteOffset := 112 }]) ∧
    Try.prog.underlying 95 = some (TypeDesc.struct #[{ name := "Seq", type := 2, offset := 0, embedded := false, tag := "", pkgPath := "", byteOffset := 0 }, { name := "Tick", type := 2, offset := 1, embedded := false, tag := "", pkgPath := "", byteOffset := 8 }, { name := "Budget", type := 2, offset := 2, embedded := false, tag := "", pkgPath := "", byteOffset := 16 }, { name := "Floor", type := 2, offset := 3, embedded := false, tag := "", pkgPath := "", byteOffset := 24 }, { name := "Next", type := 2, offset := 4, embedded := false, tag := "", pkgPath := "", byteOffset := 32 }, { name := "Rules", type := 93, offset := 5, embedded := false, tag := "", pkgPath := "", byteOffset := 40 }, { name := "Parts", type := 26, offset := 14, embedded := false, tag := "", pkgPath := "", byteOffset := 112 }]) ∧
    Try.prog.underlying 96 = some (TypeDesc.func #[102] #[54, 45] false) ∧
    Try.prog.underlying 97 = some (TypeDesc.func #[] #[93] false) ∧
    Try.prog.underlying 98 = some (TypeDesc.slice 35) ∧
    Try.prog.underlying 99 = some (TypeDesc.struct #[{ name := "Drop", type := 98, offset := 0, embedded := false, tag := "", pkgPath := "", byteOffset := 0 }, { name := "Put", type := 22, offset := 1, embedded := false, tag := "", pkgPath := "", byteOffset := 24 }]) ∧
    Try.prog.underlying 100 = some (TypeDesc.struct #[{ name := "Drop", type := 98, offset := 0, embedded := false, tag := "", pkgPath := "", byteOffset := 0 }, { name := "Put", type := 22, offset := 1, embedded := false, tag := "", pkgPath := "", byteOffset := 24 }]) ∧
    Try.prog.underlying 101 = some (TypeDesc.struct #[{ name := "Snap", type := 4, offset := 0, embedded := false, tag := "", pkgPath := "", byteOffset := 0 }, { name := "Seq", type := 2, offset := 1, embedded := false, tag := "", pkgPath := "", byteOffset := 8 }, { name := "Tick", type := 2, offset := 2, embedded := false, tag := "", pkgPath := "", byteOffset := 16 }, { name := "Budget", type := 2, offset := 3, embedded := false, tag := "", pkgPath := "", byteOffset := 24 }, { name := "Floor", type := 2, offset := 4, embedded := false, tag := "", pkgPath := "", byteOffset := 32 }, { name := "Next", type := 2, offset := 5, embedded := false, tag := "", pkgPath := "", byteOffset := 40 }, { name := "Rules", type := 93, offset := 6, embedded := false, tag := "", pkgPath := "", byteOffset := 48 }, { name := "Edit", type := 100, offset := 15, embedded := false, tag := "", pkgPath := "", byteOffset := 120 }]) ∧
    Try.prog.underlying 102 = some (TypeDesc.struct #[{ name := "Snap", type := 4, offset := 0, embedded := false, tag := "", pkgPath := "", byteOffset := 0 }, { name := "Seq", type := 2, offset := 1, embedded := false, tag := "", pkgPath := "", byteOffset := 8 }, { name := "Tick", type := 2, offset := 2, embedded := false, tag := "", pkgPath := "", byteOffset := 16 }, { name := "Budget", type := 2, offset := 3, embedded := false, tag := "", pkgPath := "", byteOffset := 24 }, { name := "Floor", type := 2, offset := 4, embedded := false, tag := "", pkgPath := "", byteOffset := 32 }, { name := "Next", type := 2, offset := 5, embedded := false, tag := "", pkgPath := "", byteOffset := 40 }, { name := "Rules", type := 93, offset := 6, embedded := false, tag := "", pkgPath := "", byteOffset := 48 }, { name := "Edit", type := 100, offset := 15, embedded := false, tag := "", pkgPath := "", byteOffset := 120 }]) ∧
    Try.prog.underlying 103 = some (TypeDesc.func #[90, 102] #[45] false) ∧
    Try.prog.underlying 104 = some (TypeDesc.slice 3) ∧
    Try.prog.underlying 105 = some (TypeDesc.slice 110) ∧
    Try.prog.underlying 106 = some (TypeDesc.func #[108] #[102] false) ∧
    Try.prog.underlying 107 = some (TypeDesc.struct #[{ name := "Snap", type := 4, offset := 0, embedded := false, tag := "", pkgPath := "", byteOffset := 0 }, { name := "Seq", type := 2, offset := 1, embedded := false, tag := "", pkgPath := "", byteOffset := 8 }, { name := "Tick", type := 2, offset := 2, embedded := false, tag := "", pkgPath := "", byteOffset := 16 }, { name := "Budget", type := 2, offset := 3, embedded := false, tag := "", pkgPath := "", byteOffset := 24 }, { name := "Floor", type := 2, offset := 4, embedded := false, tag := "", pkgPath := "", byteOffset := 32 }, { name := "Next", type := 2, offset := 5, embedded := false, tag := "", pkgPath := "", byteOffset := 40 }, { name := "Rules", type := 93, offset := 6, embedded := false, tag := "", pkgPath := "", byteOffset := 48 }, { name := "Drop", type := 98, offset := 15, embedded := false, tag := "", pkgPath := "", byteOffset := 120 }, { name := "Put", type := 22, offset := 16, embedded := false, tag := "", pkgPath := "", byteOffset := 144 }]) ∧
    Try.prog.underlying 108 = some (TypeDesc.struct #[{ name := "Snap", type := 4, offset := 0, embedded := false, tag := "", pkgPath := "", byteOffset := 0 }, { name := "Seq", type := 2, offset := 1, embedded := false, tag := "", pkgPath := "", byteOffset := 8 }, { name := "Tick", type := 2, offset := 2, embedded := false, tag := "", pkgPath := "", byteOffset := 16 }, { name := "Budget", type := 2, offset := 3, embedded := false, tag := "", pkgPath := "", byteOffset := 24 }, { name := "Floor", type := 2, offset := 4, embedded := false, tag := "", pkgPath := "", byteOffset := 32 }, { name := "Next", type := 2, offset := 5, embedded := false, tag := "", pkgPath := "", byteOffset := 40 }, { name := "Rules", type := 93, offset := 6, embedded := false, tag := "", pkgPath := "", byteOffset := 48 }, { name := "Drop", type := 98, offset := 15, embedded := false, tag := "", pkgPath := "", byteOffset := 120 }, { name := "Put", type := 22, offset := 16, embedded := false, tag := "", pkgPath := "", byteOffset := 144 }]) ∧
    Try.prog.underlying 109 = some (TypeDesc.struct #[{ name := "Seq", type := 2, offset := 0, embedded := false, tag := "", pkgPath := "", byteOffset := 0 }, { name := "Tick", type := 2, offset := 1, embedded := false, tag := "", pkgPath := "", byteOffset := 8 }, { name := "Budget", type := 2, offset := 2, embedded := false, tag := "", pkgPath := "", byteOffset := 16 }, { name := "Floor", type := 2, offset := 3, embedded := false, tag := "", pkgPath := "", byteOffset := 24 }, { name := "Next", type := 2, offset := 4, embedded := false, tag := "", pkgPath := "", byteOffset := 32 }, { name := "Rules", type := 93, offset := 5, embedded := false, tag := "", pkgPath := "", byteOffset := 40 }, { name := "L", type := 22, offset := 14, embedded := false, tag := "", pkgPath := "", byteOffset := 112 }]) ∧
    Try.prog.underlying 110 = some (TypeDesc.struct #[{ name := "Seq", type := 2, offset := 0, embedded := false, tag := "", pkgPath := "", byteOffset := 0 }, { name := "Tick", type := 2, offset := 1, embedded := false, tag := "", pkgPath := "", byteOffset := 8 }, { name := "Budget", type := 2, offset := 2, embedded := false, tag := "", pkgPath := "", byteOffset := 16 }, { name := "Floor", type := 2, offset := 3, embedded := false, tag := "", pkgPath := "", byteOffset := 24 }, { name := "Next", type := 2, offset := 4, embedded := false, tag := "", pkgPath := "", byteOffset := 32 }, { name := "Rules", type := 93, offset := 5, embedded := false, tag := "", pkgPath := "", byteOffset := 40 }, { name := "L", type := 22, offset := 14, embedded := false, tag := "", pkgPath := "", byteOffset := 112 }]) ∧
    Try.prog.underlying 111 = some (TypeDesc.func #[90] #[110] false) ∧
    Try.prog.underlying 112 = some (TypeDesc.tuple #[90, 3, 45]) ∧
    Try.prog.underlying 113 = some (TypeDesc.func #[54] #[90, 3, 45] false) ∧
    Try.prog.underlying 114 = some (TypeDesc.func #[110, 110] #[4] false) ∧
    Try.prog.underlying 115 = some (TypeDesc.func #[90] #[102] false) ∧
    Try.prog.underlying 116 = some (TypeDesc.func #[88, 3] #[4] false) ∧
    Try.prog.underlying 117 = some (TypeDesc.func #[118] #[4] false) ∧
    Try.prog.underlying 118 = some (TypeDesc.slice 238) ∧
    Try.prog.underlying 119 = some (TypeDesc.struct #[{ name := "Seq", type := 2, offset := 0, embedded := false, tag := "", pkgPath := "", byteOffset := 0 }, { name := "Tick", type := 2, offset := 1, embedded := false, tag := "", pkgPath := "", byteOffset := 8 }, { name := "Budget", type := 2, offset := 2, embedded := false, tag := "", pkgPath := "", byteOffset := 16 }, { name := "Facts", type := 118, offset := 3, embedded := false, tag := "", pkgPath := "", byteOffset := 24 }]) ∧
    Try.prog.underlying 120 = some (TypeDesc.struct #[{ name := "Seq", type := 2, offset := 0, embedded := false, tag := "", pkgPath := "", byteOffset := 0 }, { name := "Tick", type := 2, offset := 1, embedded := false, tag := "", pkgPath := "", byteOffset := 8 }, { name := "Budget", type := 2, offset := 2, embedded := false, tag := "", pkgPath := "", byteOffset := 16 }, { name := "Facts", type := 118, offset := 3, embedded := false, tag := "", pkgPath := "", byteOffset := 24 }]) ∧
    Try.prog.underlying 121 = some (TypeDesc.func #[100] #[45] false) ∧
    Try.prog.underlying 122 = some (TypeDesc.struct #[{ name := "From", type := 2, offset := 0, embedded := false, tag := "", pkgPath := "", byteOffset := 0 }, { name := "To", type := 2, offset := 1, embedded := false, tag := "", pkgPath := "", byteOffset := 8 }, { name := "Entry", type := 37, offset := 2, embedded := false, tag := "", pkgPath := "", byteOffset := 16 }, { name := "Mem", type := 4, offset := 8, embedded := false, tag := "", pkgPath := "", byteOffset := 64 }]) ∧
    Try.prog.underlying 123 = some (TypeDesc.struct #[{ name := "From", type := 2, offset := 0, embedded := false, tag := "", pkgPath := "", byteOffset := 0 }, { name := "To", type := 2, offset := 1, embedded := false, tag := "", pkgPath := "", byteOffset := 8 }, { name := "Entry", type := 37, offset := 2, embedded := false, tag := "", pkgPath := "", byteOffset := 16 }, { name := "Mem", type := 4, offset := 8, embedded := false, tag := "", pkgPath := "", byteOffset := 64 }]) ∧
    Try.prog.underlying 124 = some (TypeDesc.tuple #[22, 45]) ∧
    Try.prog.underlying 125 = some (TypeDesc.func #[22, 98, 22] #[22, 45] false) ∧
    Try.prog.underlying 126 = some (TypeDesc.tuple #[27, 45]) ∧
    Try.prog.underlying 127 = some (TypeDesc.func #[3] #[27, 45] false) ∧
    Try.prog.underlying 128 = some (TypeDesc.tuple #[28, 45]) ∧
    Try.prog.underlying 129 = some (TypeDesc.func #[3] #[28, 45] false) ∧
    Try.prog.underlying 130 = some (TypeDesc.func #[131] #[45] false) ∧
    Try.prog.underlying 131 = some (TypeDesc.struct #[{ name := "Seq", type := 2, offset := 0, embedded := false, tag := "", pkgPath := "", byteOffset := 0 }, { name := "Tick", type := 2, offset := 1, embedded := false, tag := "", pkgPath := "", byteOffset := 8 }, { name := "Budget", type := 2, offset := 2, embedded := false, tag := "", pkgPath := "", byteOffset := 16 }, { name := "Facts", type := 118, offset := 3, embedded := false, tag := "", pkgPath := "", byteOffset := 24 }]) ∧
    Try.prog.underlying 132 = some (TypeDesc.func #[120] #[131] false) ∧
    Try.prog.underlying 133 = some (TypeDesc.func #[120] #[45] false) ∧
    Try.prog.underlying 134 = some (TypeDesc.func #[2, 2] #[22] false) ∧
    Try.prog.underlying 135 = some (TypeDesc.tuple #[2, 2]) ∧
    Try.prog.underlying 136 = some (TypeDesc.func #[35] #[2, 2] false) ∧
    Try.prog.underlying 137 = some (TypeDesc.func #[2, 2] #[4] false) ∧
    Try.prog.underlying 138 = some (TypeDesc.tuple #[2, 37, 4]) ∧
    Try.prog.underlying 139 = some (TypeDesc.pointer 267) ∧
    Try.prog.underlying 140 = some (TypeDesc.struct #[{ name := "l", type := 139, offset := 0, embedded := false, tag := "", pkgPath := pkOf 140 0, byteOffset := 0 }]) ∧
    Try.prog.underlying 141 = some (TypeDesc.struct #[{ name := "l", type := 139, offset := 0, embedded := false, tag := "", pkgPath := pkOf 141 0, byteOffset := 0 }]) ∧
    Try.prog.underlying 142 = some (TypeDesc.func #[2] #[2, 37, 4] false) ∧
    Try.prog.underlying 143 = some (TypeDesc.func #[35, 2] #[4] false) ∧
    Try.prog.underlying 144 = some (TypeDesc.func #[31, 146] #[3] false) ∧
    Try.prog.underlying 145 = some (TypeDesc.func #[2] #[4] false) ∧
    Try.prog.underlying 146 = some (TypeDesc.func #[123] #[4] false) ∧
    Try.prog.underlying 147 = some (TypeDesc.func #[82] #[4] false) ∧
    Try.prog.underlying 148 = some (TypeDesc.struct #[{ name := "Key", type := 82, offset := 0, embedded := false, tag := "", pkgPath := "", byteOffset := 0 }, { name := "Was", type := 79, offset := 5, embedded := false, tag := "", pkgPath := "", byteOffset := 72 }, { name := "Now", type := 79, offset := 9, embedded := false, tag := "", pkgPath := "", byteOffset := 104 }]) ∧
    Try.prog.underlying 149 = some (TypeDesc.struct #[{ name := "Key", type := 82, offset := 0, embedded := false, tag := "", pkgPath := "", byteOffset := 0 }, { name := "Was", type := 79, offset := 5, embedded := false, tag := "", pkgPath := "", byteOffset := 72 }, { name := "Now", type := 79, offset := 9, embedded := false, tag := "", pkgPath := "", byteOffset := 104 }]) ∧
    Try.prog.underlying 150 = some (TypeDesc.func #[63, 63] #[44, 45] false) ∧
    Try.prog.underlying 151 = some (TypeDesc.struct #[{ name := "Key", type := 82, offset := 0, embedded := false, tag := "", pkgPath := "", byteOffset := 0 }, { name := "Was", type := 79, offset := 5, embedded := false, tag := "", pkgPath := "", byteOffset := 72 }, { name := "Now", type := 79, offset := 9, embedded := false, tag := "", pkgPath := "", byteOffset := 104 }]) ∧
    Try.prog.underlying 152 = some (TypeDesc.func #[44] #[4] false) ∧
    Try.prog.underlying 153 = some (TypeDesc.map 82 151) ∧
    Try.prog.underlying 154 = some (TypeDesc.tuple #[151, 4]) ∧
    Try.prog.underlying 155 = some (TypeDesc.func #[44, 157] #[] false) ∧
    Try.prog.underlying 156 = some (TypeDesc.func #[82, 82] #[3] false) ∧
    Try.prog.underlying 157 = some (TypeDesc.func #[151, 151] #[3] false) ∧
    Try.prog.underlying 158 = some (TypeDesc.tuple #[149, 4]) ∧
    Try.prog.underlying 159 = some (TypeDesc.func #[42, 82] #[149, 4] false) ∧
    Try.prog.underlying 160 = some (TypeDesc.func #[42, 149] #[42] false) ∧
    Try.prog.underlying 161 = some (TypeDesc.struct #[{ name := "Fault", type := 45, offset := 0, embedded := false, tag := "", pkgPath := "", byteOffset := 0 }, { name := "N", type := 2, offset := 1, embedded := false, tag := "", pkgPath := "", byteOffset := 8 }, { name := "Rows", type := 63, offset := 2, embedded := false, tag := "", pkgPath := "", byteOffset := 16 }]) ∧
    Try.prog.underlying 162 = some (TypeDesc.struct #[{ name := "Fault", type := 45, offset := 0, embedded := false, tag := "", pkgPath := "", byteOffset := 0 }, { name := "N", type := 2, offset := 1, embedded := false, tag := "", pkgPath := "", byteOffset := 8 }, { name := "Rows", type := 63, offset := 2, embedded := false, tag := "", pkgPath := "", byteOffset := 16 }]) ∧
    Try.prog.underlying 163 = some (TypeDesc.func #[170, 3] #[54, 45] false) ∧
    Try.prog.underlying 164 = some (TypeDesc.array 4 4) ∧
    Try.prog.underlying 165 = some (TypeDesc.struct #[{ name := "From", type := 2, offset := 0, embedded := false, tag := "", pkgPath := "", byteOffset := 0 }, { name := "To", type := 2, offset := 1, embedded := false, tag := "", pkgPath := "", byteOffset := 8 }, { name := "Group", type := 164, offset := 2, embedded := false, tag := "", pkgPath := "", byteOffset := 16 }, { name := "Has", type := 164, offset := 6, embedded := false, tag := "", pkgPath := "", byteOffset := 20 }, { name := "Filter", type := 80, offset := 10, embedded := false, tag := "", pkgPath := "", byteOffset := 24 }]) ∧
    Try.prog.underlying 166 = some (TypeDesc.struct #[{ name := "From", type := 2, offset := 0, embedded := false, tag := "", pkgPath := "", byteOffset := 0 }, { name := "To", type := 2, offset := 1, embedded := false, tag := "", pkgPath := "", byteOffset := 8 }, { name := "Group", type := 164, offset := 2, embedded := false, tag := "", pkgPath := "", byteOffset := 16 }, { name := "Has", type := 164, offset := 6, embedded := false, tag := "", pkgPath := "", byteOffset := 20 }, { name := "Filter", type := 80, offset := 10, embedded := false, tag := "", pkgPath := "", byteOffset := 24 }]) ∧
    Try.prog.underlying 167 = some (TypeDesc.slice 4) ∧
    Try.prog.underlying 168 = some (TypeDesc.struct #[{ name := "Kind", type := 3, offset := 0, embedded := false, tag := "", pkgPath := "", byteOffset := 0 }, { name := "N", type := 2, offset := 1, embedded := false, tag := "", pkgPath := "", byteOffset := 8 }, { name := "Facts", type := 118, offset := 2, embedded := false, tag := "", pkgPath := "", byteOffset := 16 }, { name := "Query", type := 166, offset := 3, embedded := false, tag := "", pkgPath := "", byteOffset := 40 }, { name := "Rules", type := 93, offset := 17, embedded := false, tag := "", pkgPath := "", byteOffset := 128 }, { name := "Fails", type := 167, offset := 26, embedded := false, tag := "", pkgPath := "", byteOffset := 200 }]) ∧
    Try.prog.underlying 169 = some (TypeDesc.struct #[{ name := "Kind", type := 3, offset := 0, embedded := false, tag := "", pkgPath := "", byteOffset := 0 }, { name := "N", type := 2, offset := 1, embedded := false, tag := "", pkgPath := "", byteOffset := 8 }, { name := "Facts", type := 118, offset := 2, embedded := false, tag := "", pkgPath := "", byteOffset := 16 }, { name := "Query", type := 166, offset := 3, embedded := false, tag := "", pkgPath := "", byteOffset := 40 }, { name := "Rules", type := 93, offset := 17, embedded := false, tag := "", pkgPath := "", byteOffset := 128 }, { name := "Fails", type := 167, offset := 26, embedded := false, tag := "", pkgPath := "", byteOffset := 200 }]) ∧
    Try.prog.underlying 170 = some (TypeDesc.slice 169) ∧
    Try.prog.underlying 171 = some (TypeDesc.pointer 173) ∧
    Try.prog.underlying 172 = some (TypeDesc.struct #[{ name := "b", type := 54, offset := 0, embedded := false, tag := "", pkgPath := pkOf 172 0, byteOffset := 0 }]) ∧
    Try.prog.underlying 173 = some (TypeDesc.struct #[{ name := "b", type := 54, offset := 0, embedded := false, tag := "", pkgPath := pkOf 173 0, byteOffset := 0 }]) ∧
    Try.prog.underlying 174 = some (TypeDesc.func #[176] #[171] false) ∧
    Try.prog.underlying 175 = some (TypeDesc.func #[2] #[171] false) ∧
    Try.prog.underlying 176 = some (TypeDesc.int IntKind.u64) ∧
    Try.prog.underlying 177 = some (TypeDesc.func #[162] #[4] false) ∧
    Try.prog.underlying 178 = some (TypeDesc.func #[9] #[171] false) ∧
    Try.prog.underlying 179 = some (TypeDesc.array 3 2) ∧
    Try.prog.underlying 180 = some (TypeDesc.func #[54] #[54] false) ∧
    Try.prog.underlying 181 = some (TypeDesc.func #[] #[54] false) ∧
    Try.prog.underlying 182 = some (TypeDesc.func #[53] #[54] false) ∧
    Try.prog.underlying 183 = some (TypeDesc.pointer 297) ∧
    Try.prog.underlying 184 = some (TypeDesc.tuple #[183, 45]) ∧
    Try.prog.underlying 185 = some (TypeDesc.func #[54] #[183, 45] false) ∧
    Try.prog.underlying 186 = some (TypeDesc.pointer 188) ∧
    Try.prog.underlying 187 = some (TypeDesc.struct #[{ name := "Reader", type := 183, offset := 0, embedded := true, tag := "", pkgPath := "", byteOffset := 0 }, { name := "wrong", type := 4, offset := 1, embedded := false, tag := "", pkgPath := pkOf 187 1, byteOffset := 8 }]) ∧
    Try.prog.underlying 188 = some (TypeDesc.struct #[{ name := "Reader", type := 183, offset := 0, embedded := true, tag := "", pkgPath := "", byteOffset := 0 }, { name := "wrong", type := 4, offset := 1, embedded := false, tag := "", pkgPath := pkOf 188 1, byteOffset := 8 }]) ∧
    Try.prog.underlying 189 = some (TypeDesc.func #[3] #[3] false) ∧
    Try.prog.underlying 190 = some (TypeDesc.func #[176] #[2] false) ∧
    Try.prog.underlying 191 = some (TypeDesc.func #[] #[2] false) ∧
    Try.prog.underlying 192 = some (TypeDesc.func #[] #[84] false) ∧
    Try.prog.underlying 193 = some (TypeDesc.func #[] #[45] false) ∧
    Try.prog.underlying 194 = some (TypeDesc.func #[] #[3] false) ∧
    Try.prog.underlying 195 = some (TypeDesc.tuple #[54, 3, 45]) ∧
    Try.prog.underlying 196 = some (TypeDesc.func #[54] #[54, 3, 45] false) ∧
    Try.prog.underlying 197 = some (TypeDesc.pointer 199) ∧
    Try.prog.underlying 198 = some (TypeDesc.struct #[{ name := "B", type := 54, offset := 0, embedded := false, tag := "", pkgPath := "", byteOffset := 0 }, { name := "F", type := 45, offset := 1, embedded := false, tag := "", pkgPath := "", byteOffset := 24 }]) ∧
    Try.prog.underlying 199 = some (TypeDesc.struct #[{ name := "B", type := 54, offset := 0, embedded := false, tag := "", pkgPath := "", byteOffset := 0 }, { name := "F", type := 45, offset := 1, embedded := false, tag := "", pkgPath := "", byteOffset := 24 }]) ∧
    Try.prog.underlying 200 = some (TypeDesc.tuple #[162, 4]) ∧
    Try.prog.underlying 201 = some (TypeDesc.func #[197] #[162, 4] false) ∧
    Try.prog.underlying 202 = some (TypeDesc.func #[35] #[9] false) ∧
    Try.prog.underlying 203 = some (TypeDesc.func #[63, 3] #[45] false) ∧
    Try.prog.underlying 204 = some (TypeDesc.map 82 79) ∧
    Try.prog.underlying 205 = some (TypeDesc.tuple #[35, 4]) ∧
    Try.prog.underlying 206 = some (TypeDesc.func #[3, 2] #[35, 4] false) ∧
    Try.prog.underlying 207 = some (TypeDesc.tuple #[79, 4]) ∧
    Try.prog.underlying 208 = some (TypeDesc.func #[79, 79] #[79, 4] false) ∧
    Try.prog.underlying 209 = some (TypeDesc.slice 82) ∧
    Try.prog.underlying 210 = some (TypeDesc.func #[212, 156] #[209] false) ∧
    Try.prog.underlying 211 = some (TypeDesc.func #[147] #[] false) ∧
    Try.prog.underlying 212 = some (TypeDesc.func #[147] #[] false) ∧
    Try.prog.underlying 213 = some (TypeDesc.func #[204] #[212] false) ∧
    Try.prog.underlying 214 = some (TypeDesc.func #[63, 84] #[63, 45] false) ∧
    Try.prog.underlying 215 = some (TypeDesc.pointer 86) ∧
    Try.prog.underlying 216 = some (TypeDesc.struct #[{ name := "Part", type := 35, offset := 0, embedded := false, tag := "", pkgPath := "", byteOffset := 0 }, { name := "Cell", type := 79, offset := 2, embedded := false, tag := "", pkgPath := "", byteOffset := 16 }]) ∧
    Try.prog.underlying 217 = some (TypeDesc.tuple #[216, 4]) ∧
    Try.prog.underlying 218 = some (TypeDesc.func #[63, 35, 2, 2] #[216, 4] false) ∧
    Try.prog.underlying 219 = some (TypeDesc.func #[79] #[4] false) ∧
    Try.prog.underlying 220 = some (TypeDesc.func #[] #[139] false) ∧
    Try.prog.underlying 221 = some (TypeDesc.func #[102] #[45] false) ∧
    Try.prog.underlying 222 = some (TypeDesc.func #[4] #[171] false) ∧
    Try.prog.underlying 223 = some (TypeDesc.func #[171, 314] #[] true) ∧
    Try.prog.underlying 224 = some (TypeDesc.func #[93] #[54, 45] false) ∧
    Try.prog.underlying 225 = some (TypeDesc.func #[317] #[54] true) ∧
    Try.prog.underlying 226 = some (TypeDesc.func #[26] #[22] false) ∧
    Try.prog.underlying 227 = some (TypeDesc.func #[319] #[] false) ∧
    Try.prog.underlying 228 = some (TypeDesc.func #[319] #[] false) ∧
    Try.prog.underlying 229 = some (TypeDesc.func #[54] #[228] false) ∧
    Try.prog.underlying 230 = some (TypeDesc.tuple #[102, 45]) ∧
    Try.prog.underlying 231 = some (TypeDesc.func #[54] #[102, 45] false) ∧
    Try.prog.underlying 232 = some (TypeDesc.func #[22, 22] #[4] false) ∧
    Try.prog.underlying 233 = some (TypeDesc.func #[235] #[22] false) ∧
    Try.prog.underlying 234 = some (TypeDesc.func #[313] #[] false) ∧
    Try.prog.underlying 235 = some (TypeDesc.func #[313] #[] false) ∧
    Try.prog.underlying 236 = some (TypeDesc.func #[] #[235] false) ∧
    Try.prog.underlying 237 = some (TypeDesc.struct #[{ name := "Key", type := 82, offset := 0, embedded := false, tag := "", pkgPath := "", byteOffset := 0 }, { name := "Value", type := 2, offset := 5, embedded := false, tag := "", pkgPath := "", byteOffset := 72 }]) ∧
    Try.prog.underlying 238 = some (TypeDesc.struct #[{ name := "Key", type := 82, offset := 0, embedded := false, tag := "", pkgPath := "", byteOffset := 0 }, { name := "Value", type := 2, offset := 5, embedded := false, tag := "", pkgPath := "", byteOffset := 72 }]) ∧
    Try.prog.underlying 239 = some (TypeDesc.func #[35] #[37, 4] false) ∧
    Try.prog.underlying 240 = some (TypeDesc.func #[37] #[45] false) ∧
    Try.prog.underlying 241 = some (TypeDesc.tuple #[22, 4]) ∧
    Try.prog.underlying 242 = some (TypeDesc.func #[22, 35] #[22, 4] false) ∧
    Try.prog.underlying 243 = some (TypeDesc.func #[22, 37] #[22, 45] false) ∧
    Try.prog.underlying 244 = some (TypeDesc.slice 131) ∧
    Try.prog.underlying 245 = some (TypeDesc.struct #[{ name := "dims", type := 3, offset := 0, embedded := false, tag := "", pkgPath := pkOf 245 0, byteOffset := 0 }, { name := "l", type := 244, offset := 1, embedded := false, tag := "", pkgPath := pkOf 245 1, byteOffset := 8 }, { name := "last", type := 2, offset := 2, embedded := false, tag := "", pkgPath := pkOf 245 2, byteOffset := 32 }]) ∧
    Try.prog.underlying 246 = some (TypeDesc.struct #[{ name := "dims", type := 3, offset := 0, embedded := false, tag := "", pkgPath := pkOf 246 0, byteOffset := 0 }, { name := "l", type := 244, offset := 1, embedded := false, tag := "", pkgPath := pkOf 246 1, byteOffset := 8 }, { name := "last", type := 2, offset := 2, embedded := false, tag := "", pkgPath := pkOf 246 2, byteOffset := 32 }]) ∧
    Try.prog.underlying 247 = some (TypeDesc.slice 254) ∧
    Try.prog.underlying 248 = some (TypeDesc.struct #[{ name := "Dims", type := 3, offset := 0, embedded := false, tag := "", pkgPath := "", byteOffset := 0 }, { name := "L", type := 247, offset := 1, embedded := false, tag := "", pkgPath := "", byteOffset := 8 }, { name := "Last", type := 2, offset := 2, embedded := false, tag := "", pkgPath := "", byteOffset := 32 }]) ∧
    Try.prog.underlying 249 = some (TypeDesc.struct #[{ name := "Dims", type := 3, offset := 0, embedded := false, tag := "", pkgPath := "", byteOffset := 0 }, { name := "L", type := 247, offset := 1, embedded := false, tag := "", pkgPath := "", byteOffset := 8 }, { name := "Last", type := 2, offset := 2, embedded := false, tag := "", pkgPath := "", byteOffset := 32 }]) ∧
    Try.prog.underlying 250 = some (TypeDesc.func #[131, 3] #[4] false) ∧
    Try.prog.underlying 251 = some (TypeDesc.func #[118] #[118] false) ∧
    Try.prog.underlying 252 = some (TypeDesc.func #[120, 3] #[4] false) ∧
    Try.prog.underlying 253 = some (TypeDesc.struct #[{ name := "Seq", type := 2, offset := 0, embedded := false, tag := "", pkgPath := "", byteOffset := 0 }, { name := "Tick", type := 2, offset := 1, embedded := false, tag := "", pkgPath := "", byteOffset := 8 }, { name := "Budget", type := 2, offset := 2, embedded := false, tag := "", pkgPath := "", byteOffset := 16 }, { name := "F", type := 238, offset := 3, embedded := false, tag := "", pkgPath := "", byteOffset := 24 }]) ∧
    Try.prog.underlying 254 = some (TypeDesc.struct #[{ name := "Seq", type := 2, offset := 0, embedded := false, tag := "", pkgPath := "", byteOffset := 0 }, { name := "Tick", type := 2, offset := 1, embedded := false, tag := "", pkgPath := "", byteOffset := 8 }, { name := "Budget", type := 2, offset := 2, embedded := false, tag := "", pkgPath := "", byteOffset := 16 }, { name := "F", type := 238, offset := 3, embedded := false, tag := "", pkgPath := "", byteOffset := 24 }]) ∧
    Try.prog.underlying 255 = some (TypeDesc.func #[330] #[] false) ∧
    Try.prog.underlying 256 = some (TypeDesc.func #[330] #[] false) ∧
    Try.prog.underlying 257 = some (TypeDesc.func #[2, 2] #[256] false) ∧
    Try.prog.underlying 258 = some (TypeDesc.func #[35] #[4] false) ∧
    Try.prog.underlying 259 = some (TypeDesc.func #[2] #[2, 2] false) ∧
    Try.prog.underlying 260 = some (TypeDesc.func #[2, 2] #[118] false) ∧
    Try.prog.underlying 261 = some (TypeDesc.tuple #[3, 4]) ∧
    Try.prog.underlying 262 = some (TypeDesc.func #[2] #[3, 4] false) ∧
    Try.prog.underlying 263 = some (TypeDesc.struct #[{ name := "k", type := 2, offset := 0, embedded := false, tag := "", pkgPath := pkOf 263 0, byteOffset := 0 }, { name := "v", type := 37, offset := 1, embedded := false, tag := "", pkgPath := pkOf 263 1, byteOffset := 8 }]) ∧
    Try.prog.underlying 264 = some (TypeDesc.struct #[{ name := "k", type := 2, offset := 0, embedded := false, tag := "", pkgPath := pkOf 264 0, byteOffset := 0 }, { name := "v", type := 37, offset := 1, embedded := false, tag := "", pkgPath := pkOf 264 1, byteOffset := 8 }]) ∧
    Try.prog.underlying 265 = some (TypeDesc.slice 264) ∧
    Try.prog.underlying 266 = some (TypeDesc.struct #[{ name := "l", type := 265, offset := 0, embedded := false, tag := "", pkgPath := pkOf 266 0, byteOffset := 0 }]) ∧
    Try.prog.underlying 267 = some (TypeDesc.struct #[{ name := "l", type := 265, offset := 0, embedded := false, tag := "", pkgPath := pkOf 267 0, byteOffset := 0 }]) ∧
    Try.prog.underlying 268 = some (TypeDesc.func #[63, 63, 271] #[] false) ∧
    Try.prog.underlying 269 = some (TypeDesc.struct #[{ name := "k", type := 82, offset := 0, embedded := false, tag := "", pkgPath := pkOf 269 0, byteOffset := 0 }, { name := "a", type := 79, offset := 5, embedded := false, tag := "", pkgPath := pkOf 269 1, byteOffset := 72 }, { name := "b", type := 79, offset := 9, embedded := false, tag := "", pkgPath := pkOf 269 2, byteOffset := 104 }]) ∧
    Try.prog.underlying 270 = some (TypeDesc.struct #[{ name := "k", type := 82, offset := 0, embedded := false, tag := "", pkgPath := pkOf 270 0, byteOffset := 0 }, { name := "a", type := 79, offset := 5, embedded := false, tag := "", pkgPath := pkOf 270 1, byteOffset := 72 }, { name := "b", type := 79, offset := 9, embedded := false, tag := "", pkgPath := pkOf 270 2, byteOffset := 104 }]) ∧
    Try.prog.underlying 271 = some (TypeDesc.func #[270] #[] false) ∧
    Try.prog.underlying 272 = some (TypeDesc.func #[44, 3, 3, 3, 157] #[] false) ∧
    Try.prog.underlying 273 = some (TypeDesc.func #[274] #[3] false) ∧
    Try.prog.underlying 274 = some (TypeDesc.int IntKind.u64) ∧
    Try.prog.underlying 275 = some (TypeDesc.func #[104] #[3] true) ∧
    Try.prog.underlying 276 = some (TypeDesc.func #[2, 2] #[3] false) ∧
    Try.prog.underlying 277 = some (TypeDesc.func #[278, 278] #[3] false) ∧
    Try.prog.underlying 278 = some (TypeDesc.slice 9) ∧
    Try.prog.underlying 279 = some (TypeDesc.func #[3] #[4] false) ∧
    Try.prog.underlying 280 = some (TypeDesc.func #[169, 3] #[4] false) ∧
    Try.prog.underlying 281 = some (TypeDesc.func #[171, 169, 3] #[54] false) ∧
    Try.prog.underlying 282 = some (TypeDesc.pointer 360) ∧
    Try.prog.underlying 283 = some (TypeDesc.tuple #[282, 45]) ∧
    Try.prog.underlying 284 = some (TypeDesc.func #[63] #[282, 45] false) ∧
    Try.prog.underlying 285 = some (TypeDesc.func #[63, 288] #[4] false) ∧
    Try.prog.underlying 286 = some (TypeDesc.func #[278, 287] #[4] false) ∧
    Try.prog.underlying 287 = some (TypeDesc.func #[9] #[4] false) ∧
    Try.prog.underlying 288 = some (TypeDesc.func #[84] #[4] false) ∧
    Try.prog.underlying 289 = some (TypeDesc.func #[176] #[54] false) ∧
    Try.prog.underlying 290 = some (TypeDesc.func #[2] #[54] false) ∧
    Try.prog.underlying 291 = some (TypeDesc.func #[9] #[54] false) ∧
    Try.prog.underlying 292 = some (TypeDesc.func #[54] #[183] false) ∧
    Try.prog.underlying 293 = some (TypeDesc.func #[3] #[176] false) ∧
    Try.prog.underlying 294 = some (TypeDesc.func #[] #[176] false) ∧
    Try.prog.underlying 295 = some (TypeDesc.func #[3] #[9] false) ∧
    Try.prog.underlying 296 = some (TypeDesc.struct #[{ name := "b", type := 54, offset := 0, embedded := false, tag := "", pkgPath := pkOf 296 0, byteOffset := 0 }, { name := "f", type := 45, offset := 1, embedded := false, tag := "", pkgPath := pkOf 296 1, byteOffset := 24 }]) ∧
    Try.prog.underlying 297 = some (TypeDesc.struct #[{ name := "b", type := 54, offset := 0, embedded := false, tag := "", pkgPath := pkOf 297 0, byteOffset := 0 }, { name := "f", type := 45, offset := 1, embedded := false, tag := "", pkgPath := pkOf 297 1, byteOffset := 24 }]) ∧
    Try.prog.underlying 298 = some (TypeDesc.func #[54] #[54, 45] false) ∧
    Try.prog.underlying 299 = some (TypeDesc.func #[2] #[9] false) ∧
    Try.prog.underlying 300 = some (TypeDesc.tuple #[9, 9, 4]) ∧
    Try.prog.underlying 301 = some (TypeDesc.func #[9, 9] #[9, 9, 4] false) ∧
    Try.prog.underlying 302 = some (TypeDesc.func #[9, 5] #[3] false) ∧
    Try.prog.underlying 303 = some (TypeDesc.func #[2] #[2] false) ∧
    Try.prog.underlying 304 = some (TypeDesc.tuple #[2, 4]) ∧
    Try.prog.underlying 305 = some (TypeDesc.func #[2, 2] #[2, 4] false) ∧
    Try.prog.underlying 306 = some (TypeDesc.func #[212] #[209] false) ∧
    Try.prog.underlying 307 = some (TypeDesc.func #[209, 156] #[] false) ∧
    Try.prog.underlying 308 = some (TypeDesc.func #[3] #[2] false) ∧
    Try.prog.underlying 309 = some (TypeDesc.func #[2, 2, 2] #[4] false) ∧
    Try.prog.underlying 310 = some (TypeDesc.func #[93] #[45] false) ∧
    Try.prog.underlying 311 = some (TypeDesc.func #[98, 258] #[4] false) ∧
    Try.prog.underlying 312 = some (TypeDesc.func #[22, 313] #[4] false) ∧
    Try.prog.underlying 313 = some (TypeDesc.func #[37] #[4] false) ∧
    Try.prog.underlying 314 = some (TypeDesc.slice 2) ∧
    Try.prog.underlying 315 = some (TypeDesc.array 9 2) ∧
    Try.prog.underlying 316 = some (TypeDesc.func #[93] #[315] false) ∧
    Try.prog.underlying 317 = some (TypeDesc.slice 54) ∧
    Try.prog.underlying 318 = some (TypeDesc.func #[54, 3] #[54] false) ∧
    Try.prog.underlying 319 = some (TypeDesc.func #[3, 54] #[4] false) ∧
    Try.prog.underlying 320 = some (TypeDesc.pointer 322) ∧
    Try.prog.underlying 321 = some (TypeDesc.struct #[{ name := "Reader", type := 183, offset := 0, embedded := true, tag := "", pkgPath := "", byteOffset := 0 }, { name := "wrong", type := 4, offset := 1, embedded := false, tag := "", pkgPath := pkOf 321 1, byteOffset := 8 }]) ∧
    Try.prog.underlying 322 = some (TypeDesc.struct #[{ name := "Reader", type := 183, offset := 0, embedded := true, tag := "", pkgPath := "", byteOffset := 0 }, { name := "wrong", type := 4, offset := 1, embedded := false, tag := "", pkgPath := pkOf 322 1, byteOffset := 8 }]) ∧
    Try.prog.underlying 323 = some (TypeDesc.tuple #[93, 45]) ∧
    Try.prog.underlying 324 = some (TypeDesc.func #[183] #[93, 45] false) ∧
    Try.prog.underlying 325 = some (TypeDesc.func #[] #[35] false) ∧
    Try.prog.underlying 326 = some (TypeDesc.func #[] #[37] false) ∧
    Try.prog.underlying 327 = some (TypeDesc.func #[22, 235] #[22] false) ∧
    Try.prog.underlying 328 = some (TypeDesc.func #[] #[256] false) ∧
    Try.prog.underlying 329 = some (TypeDesc.func #[265, 3, 3] #[265] false) ∧
    Try.prog.underlying 330 = some (TypeDesc.func #[2, 37] #[4] false) ∧
    Try.prog.underlying 331 = some (TypeDesc.func #[35, 35] #[4] false) ∧
    Try.prog.underlying 332 = some (TypeDesc.tuple #[45, 3]) ∧
    Try.prog.underlying 333 = some (TypeDesc.func #[118, 3] #[45, 3] false) ∧
    Try.prog.underlying 334 = some (TypeDesc.func #[176, 176, 176] #[4] false) ∧
    Try.prog.underlying 335 = some (TypeDesc.func #[265] #[256] false) ∧
    Try.prog.underlying 336 = some (TypeDesc.func #[2, 2, 2] #[2] false) ∧
    Try.prog.underlying 337 = some (TypeDesc.func #[244, 2, 2] #[118] false) ∧
    Try.prog.underlying 338 = some (TypeDesc.func #[] #[244] false) ∧
    Try.prog.underlying 339 = some (TypeDesc.func #[3, 279] #[3] false) ∧
    Try.prog.underlying 340 = some (TypeDesc.func #[2] #[79] false) ∧
    Try.prog.underlying 341 = some (TypeDesc.func #[44, 3, 3, 157] #[] false) ∧
    Try.prog.underlying 342 = some (TypeDesc.int IntKind.i64) ∧
    Try.prog.underlying 343 = some (TypeDesc.tuple #[3, 342]) ∧
    Try.prog.underlying 344 = some (TypeDesc.func #[44, 3, 3, 157] #[3, 342] false) ∧
    Try.prog.underlying 345 = some (TypeDesc.func #[44, 3, 3, 157] #[4] false) ∧
    Try.prog.underlying 346 = some (TypeDesc.func #[44, 3, 3, 3, 157] #[3] false) ∧
    Try.prog.underlying 347 = some (TypeDesc.func #[44, 3, 3, 3, 157] #[3, 4] false) ∧
    Try.prog.underlying 348 = some (TypeDesc.func #[349] #[3] false) ∧
    Try.prog.underlying 349 = some (TypeDesc.int IntKind.u32) ∧
    Try.prog.underlying 350 = some (TypeDesc.func #[176] #[3] false) ∧
    Try.prog.underlying 351 = some (TypeDesc.func #[9, 9] #[3] false) ∧
    Try.prog.underlying 352 = some (TypeDesc.func #[169] #[169] false) ∧
    Try.prog.underlying 353 = some (TypeDesc.func #[170, 170] #[4] false) ∧
    Try.prog.underlying 354 = some (TypeDesc.func #[166, 3] #[45] false) ∧
    Try.prog.underlying 355 = some (TypeDesc.func #[54, 45] #[9] false) ∧
    Try.prog.underlying 356 = some (TypeDesc.func #[118, 3] #[54, 45] false) ∧
    Try.prog.underlying 357 = some (TypeDesc.func #[166, 3] #[54, 45] false) ∧
    Try.prog.underlying 358 = some (TypeDesc.func #[63] #[63] false) ∧
    Try.prog.underlying 359 = some (TypeDesc.struct #[{ name := "l", type := 63, offset := 0, embedded := false, tag := "", pkgPath := pkOf 359 0, byteOffset := 0 }]) ∧
    Try.prog.underlying 360 = some (TypeDesc.struct #[{ name := "l", type := 63, offset := 0, embedded := false, tag := "", pkgPath := pkOf 360 0, byteOffset := 0 }]) ∧
    Try.prog.underlying 361 = some (TypeDesc.func #[63, 288] #[3] false) ∧
    Try.prog.underlying 362 = some (TypeDesc.func #[278, 287] #[3] false) ∧
    Try.prog.underlying 363 = some (TypeDesc.func #[54] #[349] false) ∧
    Try.prog.underlying 364 = some (TypeDesc.func #[349] #[54] false) ∧
    Try.prog.underlying 365 = some (TypeDesc.func #[176] #[54, 4] false) ∧
    Try.prog.underlying 366 = some (TypeDesc.tuple #[54, 4]) ∧
    Try.prog.underlying 367 = some (TypeDesc.tuple #[2, 3, 3]) ∧
    Try.prog.underlying 368 = some (TypeDesc.func #[2] #[2, 3, 3] false) ∧
    Try.prog.underlying 369 = some (TypeDesc.func #[2, 3] #[] false) ∧
    Try.prog.underlying 370 = some (TypeDesc.func #[209, 212] #[209] false) ∧
    Try.prog.underlying 371 = some (TypeDesc.func #[209, 3, 3, 3, 156] #[] false) ∧
    Try.prog.underlying 372 = some (TypeDesc.struct #[{ name := "lo", type := 2, offset := 0, embedded := false, tag := "", pkgPath := pkOf 372 0, byteOffset := 0 }, { name := "hi", type := 2, offset := 1, embedded := false, tag := "", pkgPath := pkOf 372 1, byteOffset := 8 }]) ∧
    Try.prog.underlying 373 = some (TypeDesc.struct #[{ name := "lo", type := 2, offset := 0, embedded := false, tag := "", pkgPath := pkOf 373 0, byteOffset := 0 }, { name := "hi", type := 2, offset := 1, embedded := false, tag := "", pkgPath := pkOf 373 1, byteOffset := 8 }]) ∧
    Try.prog.underlying 374 = some (TypeDesc.array 9 373) ∧
    Try.prog.underlying 375 = some (TypeDesc.func #[] #[374] false) ∧
    Try.prog.underlying 376 = some (TypeDesc.func #[98, 258] #[3] false) ∧
    Try.prog.underlying 377 = some (TypeDesc.func #[22, 313] #[3] false) ∧
    Try.prog.underlying 378 = some (TypeDesc.pointer 2) ∧
    Try.prog.underlying 379 = some (TypeDesc.array 9 378) ∧
    Try.prog.underlying 380 = some (TypeDesc.func #[265, 3, 265] #[265] true) ∧
    Try.prog.underlying 381 = some (TypeDesc.func #[238, 3] #[45] false) ∧
    Try.prog.underlying 382 = some (TypeDesc.int IntKind.u64) ∧
    Try.prog.underlying 383 = some (TypeDesc.func #[3] #[274] false) ∧
    Try.prog.underlying 384 = some (TypeDesc.func #[44, 3, 385, 157] #[3] false) ∧
    Try.prog.underlying 385 = some (TypeDesc.pointer 3) ∧
    Try.prog.underlying 386 = some (TypeDesc.func #[44, 3, 3, 3, 385, 157] #[3] false) ∧
    Try.prog.underlying 387 = some (TypeDesc.func #[170, 170, 390] #[4] false) ∧
    Try.prog.underlying 388 = some (TypeDesc.func #[118, 118] #[4] false) ∧
    Try.prog.underlying 389 = some (TypeDesc.func #[167, 167] #[4] false) ∧
    Try.prog.underlying 390 = some (TypeDesc.func #[169, 169] #[4] false) ∧
    Try.prog.underlying 391 = some (TypeDesc.func #[349, 54] #[349] false) ∧
    Try.prog.underlying 392 = some (TypeDesc.func #[209, 3, 3, 156] #[] false) ∧
    Try.prog.underlying 393 = some (TypeDesc.func #[209, 3, 3, 156] #[3, 342] false) ∧
    Try.prog.underlying 394 = some (TypeDesc.func #[209, 3, 3, 156] #[4] false) ∧
    Try.prog.underlying 395 = some (TypeDesc.func #[209, 3, 3, 3, 156] #[3] false) ∧
    Try.prog.underlying 396 = some (TypeDesc.func #[209, 3, 3, 3, 156] #[3, 4] false) ∧
    Try.prog.underlying 397 = some (TypeDesc.func #[2, 3] #[3] false) ∧
    Try.prog.underlying 398 = some (TypeDesc.func #[265, 265] #[4] false) ∧
    Try.prog.underlying 399 = some (TypeDesc.func #[265, 3] #[] false) ∧
    Try.prog.underlying 400 = some (TypeDesc.pointer 382) ∧
    Try.prog.underlying 401 = some (TypeDesc.tuple #[3, 3]) ∧
    Try.prog.underlying 402 = some (TypeDesc.func #[44, 3, 3, 385, 157] #[3, 3] false) ∧
    Try.prog.underlying 403 = some (TypeDesc.func #[349] #[349] false) ∧
    Try.prog.underlying 404 = some (TypeDesc.func #[209, 3, 385, 156] #[3] false) ∧
    Try.prog.underlying 405 = some (TypeDesc.func #[209, 3, 3, 3, 385, 156] #[3] false) ∧
    Try.prog.underlying 406 = some (TypeDesc.func #[2, 3, 3] #[2, 4] false) ∧
    Try.prog.underlying 407 = some (TypeDesc.tuple #[349, 349]) ∧
    Try.prog.underlying 408 = some (TypeDesc.func #[9] #[349, 349] false) ∧
    Try.prog.underlying 409 = some (TypeDesc.func #[209, 3, 3, 385, 156] #[3, 3] false) ∧
    Try.prog.underlying 410 = some (TypeDesc.func #[265] #[] false) ∧
    Try.prog.underlying 411 = some (TypeDesc.func #[] #[9] false) ∧
    Try.prog.underlying 412 = some (TypeDesc.struct #[{ name := "_interface", type := 17, offset := 0, embedded := false, tag := "", pkgPath := "runtime", byteOffset := 0 }, { name := "concrete", type := 17, offset := 1, embedded := false, tag := "", pkgPath := "runtime", byteOffset := 8 }, { name := "asserted", type := 17, offset := 2, embedded := false, tag := "", pkgPath := "runtime", byteOffset := 16 }, { name := "missingMethod", type := 9, offset := 3, embedded := false, tag := "", pkgPath := "runtime", byteOffset := 24 }]) ∧
    Try.prog.underlying 413 = some (TypeDesc.struct #[{ name := "_interface", type := 17, offset := 0, embedded := false, tag := "", pkgPath := "runtime", byteOffset := 0 }, { name := "concrete", type := 17, offset := 1, embedded := false, tag := "", pkgPath := "runtime", byteOffset := 8 }, { name := "asserted", type := 17, offset := 2, embedded := false, tag := "", pkgPath := "runtime", byteOffset := 16 }, { name := "missingMethod", type := 9, offset := 3, embedded := false, tag := "", pkgPath := "runtime", byteOffset := 24 }]) ∧
    Try.prog.underlying 414 = some (TypeDesc.array 0 16) ∧
    Try.prog.underlying 415 = some (TypeDesc.struct #[{ name := "_", type := 414, offset := 0, embedded := false, tag := "", pkgPath := "runtime", byteOffset := 0 }]) ∧
    Try.prog.underlying 416 = some (TypeDesc.struct #[{ name := "_", type := 414, offset := 0, embedded := false, tag := "", pkgPath := "runtime", byteOffset := 0 }]) ∧
    Try.prog.underlying 417 = some (TypeDesc.int IntKind.u8) ∧
    Try.prog.underlying 418 = some (TypeDesc.int IntKind.u8) ∧
    Try.prog.underlying 419 = some (TypeDesc.func #[425, 425] #[4] false) ∧
    Try.prog.underlying 420 = some (TypeDesc.pointer 5) ∧
    Try.prog.underlying 421 = some (TypeDesc.int IntKind.i32) ∧
    Try.prog.underlying 422 = some (TypeDesc.int IntKind.i32) ∧
    Try.prog.underlying 423 = some (TypeDesc.struct #[{ name := "Size_", type := 12, offset := 0, embedded := false, tag := "", pkgPath := "", byteOffset := 0 }, { name := "PtrBytes", type := 12, offset := 1, embedded := false, tag := "", pkgPath := "", byteOffset := 8 }, { name := "Hash", type := 349, offset := 2, embedded := false, tag := "", pkgPath := "", byteOffset := 16 }, { name := "TFlag", type := 417, offset := 3, embedded := false, tag := "", pkgPath := "", byteOffset := 20 }, { name := "Align_", type := 5, offset := 4, embedded := false, tag := "", pkgPath := "", byteOffset := 21 }, { name := "FieldAlign_", type := 5, offset := 5, embedded := false, tag := "", pkgPath := "", byteOffset := 22 }, { name := "Kind_", type := 418, offset := 6, embedded := false, tag := "", pkgPath := "", byteOffset := 23 }, { name := "Equal", type := 419, offset := 7, embedded := false, tag := "", pkgPath := "", byteOffset := 24 }, { name := "GCData", type := 420, offset := 8, embedded := false, tag := "", pkgPath := "", byteOffset := 32 }, { name := "Str", type := 421, offset := 9, embedded := false, tag := "", pkgPath := "", byteOffset := 40 }, { name := "PtrToThis", type := 422, offset := 10, embedded := false, tag := "", pkgPath := "", byteOffset := 44 }]) ∧
    Try.prog.underlying 424 = some (TypeDesc.struct #[{ name := "Size_", type := 12, offset := 0, embedded := false, tag := "", pkgPath := "", byteOffset := 0 }, { name := "PtrBytes", type := 12, offset := 1, embedded := false, tag := "", pkgPath := "", byteOffset := 8 }, { name := "Hash", type := 349, offset := 2, embedded := false, tag := "", pkgPath := "", byteOffset := 16 }, { name := "TFlag", type := 417, offset := 3, embedded := false, tag := "", pkgPath := "", byteOffset := 20 }, { name := "Align_", type := 5, offset := 4, embedded := false, tag := "", pkgPath := "", byteOffset := 21 }, { name := "FieldAlign_", type := 5, offset := 5, embedded := false, tag := "", pkgPath := "", byteOffset := 22 }, { name := "Kind_", type := 418, offset := 6, embedded := false, tag := "", pkgPath := "", byteOffset := 23 }, { name := "Equal", type := 419, offset := 7, embedded := false, tag := "", pkgPath := "", byteOffset := 24 }, { name := "GCData", type := 420, offset := 8, embedded := false, tag := "", pkgPath := "", byteOffset := 32 }, { name := "Str", type := 421, offset := 9, embedded := false, tag := "", pkgPath := "", byteOffset := 40 }, { name := "PtrToThis", type := 422, offset := 10, embedded := false, tag := "", pkgPath := "", byteOffset := 44 }]) ∧
    Try.prog.underlying 425 = some TypeDesc.unsafePointer := by
  refine ⟨Try.underlying0, Try.underlying1, Try.underlying2, Try.underlying3, Try.underlying4, Try.underlying5, Try.underlying6, Try.underlying7, Try.underlying8, Try.underlying9, Try.underlying10, Try.underlying11, Try.underlying12, Try.underlying13, Try.underlying14, Try.underlying15, Try.underlying16, Try.underlying17, by kernel_rfl, by kernel_rfl, Try.underlying20, Try.underlying21, Try.underlying22, Try.underlying23, Try.underlying24, Try.underlying25, Try.underlying26, Try.underlying27, Try.underlying28, Try.underlying29, Try.underlying30, Try.underlying31, Try.underlying32, Try.underlying33, Try.underlying34, Try.underlying35, Try.underlying36, Try.underlying37, Try.underlying38, Try.underlying39, Try.underlying40, Try.underlying41, Try.underlying42, Try.underlying43, Try.underlying44, Try.underlying45, Try.underlying46, Try.underlying47, Try.underlying48, Try.underlying49, Try.underlying50, Try.underlying51, Try.underlying52, Try.underlying53, Try.underlying54, Try.underlying55, Try.underlying56, Try.underlying57, Try.underlying58, Try.underlying59, Try.underlying60, Try.underlying61, Try.underlying62, Try.underlying63, Try.underlying64, Try.underlying65, Try.underlying66, Try.underlying67, Try.underlying68, Try.underlying69, Try.underlying70, Try.underlying71, Try.underlying72, Try.underlying73, Try.underlying74, Try.underlying75, Try.underlying76, Try.underlying77, Try.underlying78, Try.underlying79, Try.underlying80, Try.underlying81, Try.underlying82, Try.underlying83, Try.underlying84, Try.underlying85, Try.underlying86, Try.underlying87, Try.underlying88, Try.underlying89, Try.underlying90, Try.underlying91, Try.underlying92, Try.underlying93, Try.underlying94, Try.underlying95, Try.underlying96, Try.underlying97, Try.underlying98, Try.underlying99, Try.underlying100, Try.underlying101, Try.underlying102, Try.underlying103, Try.underlying104, Try.underlying105, Try.underlying106, Try.underlying107, Try.underlying108, Try.underlying109, Try.underlying110, Try.underlying111, Try.underlying112, Try.underlying113, Try.underlying114, Try.underlying115, Try.underlying116, Try.underlying117, Try.underlying118, Try.underlying119, Try.underlying120, Try.underlying121, Try.underlying122, Try.underlying123, Try.underlying124, Try.underlying125, Try.underlying126, Try.underlying127, Try.underlying128, Try.underlying129, Try.underlying130, Try.underlying131, Try.underlying132, Try.underlying133, Try.underlying134, Try.underlying135, Try.underlying136, Try.underlying137, Try.underlying138, Try.underlying139, by kernel_rfl, by kernel_rfl, Try.underlying142, Try.underlying143, Try.underlying144, Try.underlying145, Try.underlying146, Try.underlying147, Try.underlying148, Try.underlying149, Try.underlying150, Try.underlying151, Try.underlying152, Try.underlying153, Try.underlying154, Try.underlying155, Try.underlying156, Try.underlying157, Try.underlying158, Try.underlying159, Try.underlying160, Try.underlying161, Try.underlying162, Try.underlying163, Try.underlying164, Try.underlying165, Try.underlying166, Try.underlying167, Try.underlying168, Try.underlying169, Try.underlying170, Try.underlying171, by kernel_rfl, by kernel_rfl, Try.underlying174, Try.underlying175, Try.underlying176, Try.underlying177, Try.underlying178, Try.underlying179, Try.underlying180, Try.underlying181, Try.underlying182, Try.underlying183, Try.underlying184, Try.underlying185, Try.underlying186, by kernel_rfl, by kernel_rfl, Try.underlying189, Try.underlying190, Try.underlying191, Try.underlying192, Try.underlying193, Try.underlying194, Try.underlying195, Try.underlying196, Try.underlying197, Try.underlying198, Try.underlying199, Try.underlying200, Try.underlying201, Try.underlying202, Try.underlying203, Try.underlying204, Try.underlying205, Try.underlying206, Try.underlying207, Try.underlying208, Try.underlying209, Try.underlying210, Try.underlying211, Try.underlying212, Try.underlying213, Try.underlying214, Try.underlying215, Try.underlying216, Try.underlying217, Try.underlying218, Try.underlying219, Try.underlying220, Try.underlying221, Try.underlying222, Try.underlying223, Try.underlying224, Try.underlying225, Try.underlying226, Try.underlying227, Try.underlying228, Try.underlying229, Try.underlying230, Try.underlying231, Try.underlying232, Try.underlying233, Try.underlying234, Try.underlying235, Try.underlying236, Try.underlying237, Try.underlying238, Try.underlying239, Try.underlying240, Try.underlying241, Try.underlying242, Try.underlying243, Try.underlying244, by kernel_rfl, by kernel_rfl, Try.underlying247, Try.underlying248, Try.underlying249, Try.underlying250, Try.underlying251, Try.underlying252, Try.underlying253, Try.underlying254, Try.underlying255, Try.underlying256, Try.underlying257, Try.underlying258, Try.underlying259, Try.underlying260, Try.underlying261, Try.underlying262, by kernel_rfl, by kernel_rfl, Try.underlying265, by kernel_rfl, by kernel_rfl, Try.underlying268, by kernel_rfl, by kernel_rfl, Try.underlying271, Try.underlying272, Try.underlying273, Try.underlying274, Try.underlying275, Try.underlying276, Try.underlying277, Try.underlying278, Try.underlying279, Try.underlying280, Try.underlying281, Try.underlying282, Try.underlying283, Try.underlying284, Try.underlying285, Try.underlying286, Try.underlying287, Try.underlying288, Try.underlying289, Try.underlying290, Try.underlying291, Try.underlying292, Try.underlying293, Try.underlying294, Try.underlying295, by kernel_rfl, by kernel_rfl, Try.underlying298, Try.underlying299, Try.underlying300, Try.underlying301, Try.underlying302, Try.underlying303, Try.underlying304, Try.underlying305, Try.underlying306, Try.underlying307, Try.underlying308, Try.underlying309, Try.underlying310, Try.underlying311, Try.underlying312, Try.underlying313, Try.underlying314, Try.underlying315, Try.underlying316, Try.underlying317, Try.underlying318, Try.underlying319, Try.underlying320, by kernel_rfl, by kernel_rfl, Try.underlying323, Try.underlying324, Try.underlying325, Try.underlying326, Try.underlying327, Try.underlying328, Try.underlying329, Try.underlying330, Try.underlying331, Try.underlying332, Try.underlying333, Try.underlying334, Try.underlying335, Try.underlying336, Try.underlying337, Try.underlying338, Try.underlying339, Try.underlying340, Try.underlying341, Try.underlying342, Try.underlying343, Try.underlying344, Try.underlying345, Try.underlying346, Try.underlying347, Try.underlying348, Try.underlying349, Try.underlying350, Try.underlying351, Try.underlying352, Try.underlying353, Try.underlying354, Try.underlying355, Try.underlying356, Try.underlying357, Try.underlying358, by kernel_rfl, by kernel_rfl, Try.underlying361, Try.underlying362, Try.underlying363, Try.underlying364, Try.underlying365, Try.underlying366, Try.underlying367, Try.underlying368, Try.underlying369, Try.underlying370, Try.underlying371, by kernel_rfl, by kernel_rfl, Try.underlying374, Try.underlying375, Try.underlying376, Try.underlying377, Try.underlying378, Try.underlying379, Try.underlying380, Try.underlying381, Try.underlying382, Try.underlying383, Try.underlying384, Try.underlying385, Try.underlying386, Try.underlying387, Try.underlying388, Try.underlying389, Try.underlying390, Try.underlying391, Try.underlying392, Try.underlying393, Try.underlying394, Try.underlying395, Try.underlying396, Try.underlying397, Try.underlying398, Try.underlying399, Try.underlying400, Try.underlying401, Try.underlying402, Try.underlying403, Try.underlying404, Try.underlying405, Try.underlying406, Try.underlying407, Try.underlying408, Try.underlying409, Try.underlying410, Try.underlying411, Try.underlying412, Try.underlying413, Try.underlying414, Try.underlying415, Try.underlying416, Try.underlying417, Try.underlying418, Try.underlying419, Try.underlying420, Try.underlying421, Try.underlying422, Try.underlying423, Try.underlying424, Try.underlying425⟩
theorem mixed : Try.prog.follows .mixedOrders = true := by kernel_rfl
end Go.Proofs

namespace Go.Proofs
open Go Go.Av

theorem i64r (a : Int64) : -9223372036854775808 ≤ a.toInt ∧ a.toInt ≤ 9223372036854775807 := by
  have h1 := Int64.le_toInt a
  have h2 := Int64.toInt_lt a
  omega

theorem wrap_i64 (x : Int) : IntKind.i64.wrap x = x.bmod (2 ^ 64) := by
  have e1 : (2:Int) ^ 64 = 18446744073709551616 := by decide
  have e2 : ((2 ^ 64 : Nat) : Int) = 18446744073709551616 := by decide
  have e3 : (2:Int) ^ (64 - 1) = 9223372036854775808 := by decide
  rw [Int.bmod_def]
  simp only [IntKind.wrap, IntKind.signed, IntKind.bits, Bool.true_and, decide_eq_true_eq, e1, e2, e3]
  split <;> split <;> omega

theorem wrap_add (a b : Int64) : IntKind.i64.wrap (a.toInt + b.toInt) = (a + b).toInt := by
  rw [Int64.toInt_add, wrap_i64]

theorem wrap_in {x : Int} (h1 : -9223372036854775808 ≤ x) (h2 : x ≤ 9223372036854775807) : IntKind.i64.wrap x = x := by
  rw [wrap_i64, Int.bmod_def]
  have e2 : ((2 ^ 64 : Nat) : Int) = 18446744073709551616 := by decide
  simp only [e2]
  split <;> omega

theorem wrap_nat (v : BitVec 64) : IntKind.i64.wrap (v.toNat : Int) = v.toInt := by
  rw [wrap_i64, BitVec.toInt_eq_toNat_bmod]

theorem ite_toInt (c : Prop) [Decidable c] (a b : Int64) : (if c then a else b).toInt = if c then a.toInt else b.toInt := by split <;> rfl

def addOk (a b : Int64) : Bool := decide (-9223372036854775808 ≤ a.toInt + b.toInt ∧ a.toInt + b.toInt ≤ 9223372036854775807)

theorem bv_of (a : Int) : BitVec.ofInt IntKind.i64.bits a = BitVec.ofInt 64 a := rfl

theorem fdiv_sign (v : BitVec 64) : decide (v.toInt.fdiv (2 ^ min 63 IntKind.i64.bits) = 0) = !v.msb := by
  have h1 := BitVec.le_toInt v
  have h2 := BitVec.toInt_lt (x := v)
  rw [BitVec.msb_eq_toInt]
  have e : (2 : Int) ^ min 63 IntKind.i64.bits = 9223372036854775808 := by decide
  rw [e, Int.fdiv_eq_ediv_of_nonneg _ (by omega)]
  simp only [Nat.reduceSub, Int.reducePow] at h1 h2
  by_cases h : v.toInt < 0
  · simp [h]; omega
  · simp [h]; omega

theorem plus_law (a b : Int64) :
    decide ((IntKind.i64.wrap ((BitVec.ofInt IntKind.i64.bits (IntKind.i64.wrap ((BitVec.ofInt IntKind.i64.bits a.toInt ^^^ BitVec.ofInt IntKind.i64.bits (IntKind.i64.wrap (a.toInt + b.toInt))).toNat : Int)) &&&
      BitVec.ofInt IntKind.i64.bits (IntKind.i64.wrap ((BitVec.ofInt IntKind.i64.bits b.toInt ^^^ BitVec.ofInt IntKind.i64.bits (IntKind.i64.wrap (a.toInt + b.toInt))).toNat : Int))).toNat : Int)).fdiv (2 ^ min 63 IntKind.i64.bits) = 0) = addOk a b := by
  have w : ∀ (v : BitVec IntKind.i64.bits), IntKind.i64.wrap (v.toNat : Int) = v.toInt := fun v => wrap_nat v
  have o : ∀ (v : BitVec IntKind.i64.bits), BitVec.ofInt IntKind.i64.bits v.toInt = v := fun v => BitVec.ofInt_toInt
  have f : ∀ (v : BitVec IntKind.i64.bits), decide (v.toInt.fdiv (2 ^ min 63 IntKind.i64.bits) = 0) = !v.msb := fun v => fdiv_sign v
  rw [w, w, w, f, o, o, wrap_add]
  have m : ∀ x : Int64, (BitVec.ofInt IntKind.i64.bits x.toInt).msb = decide (x.toInt < 0) := by
    intro x
    show BitVec.msb (BitVec.ofInt 64 x.toInt) = _
    rw [BitVec.msb_eq_toInt]
    show decide ((BitVec.ofInt 64 x.toBitVec.toInt).toInt < 0) = _
    rw [BitVec.ofInt_toInt]; rfl
  rw [BitVec.msb_and, BitVec.msb_xor, BitVec.msb_xor, m, m, m, Int64.toInt_add]
  have ha := i64r a
  have hb := i64r b
  unfold addOk
  rw [Int.bmod_def]
  have e2 : ((2 ^ 64 : Nat) : Int) = 18446744073709551616 := by decide
  simp only [e2]
  generalize hr : (if (a.toInt + b.toInt) % 18446744073709551616 < (18446744073709551616 + 1) / 2 then (a.toInt + b.toInt) % 18446744073709551616 else (a.toInt + b.toInt) % 18446744073709551616 - 18446744073709551616) = r
  have hr' : (r = a.toInt + b.toInt ∧ -9223372036854775808 ≤ a.toInt + b.toInt ∧ a.toInt + b.toInt ≤ 9223372036854775807) ∨ (r = a.toInt + b.toInt - 18446744073709551616 ∧ 9223372036854775808 ≤ a.toInt + b.toInt) ∨ (r = a.toInt + b.toInt + 18446744073709551616 ∧ a.toInt + b.toInt < -9223372036854775808) := by
    subst hr; split <;> omega
  clear hr m w o f e2
  by_cases h1 : a.toInt < 0 <;> by_cases h2 : b.toInt < 0 <;> by_cases h3 : r < 0 <;> by_cases h4 : -9223372036854775808 ≤ a.toInt + b.toInt ∧ a.toInt + b.toInt ≤ 9223372036854775807 <;> simp only [h1, h2, h3, h4] <;> first | rfl | (exfalso; omega)

end Go.Proofs

/- The data's words, and what simp is to know. -/
set_option maxRecDepth 30000
set_option linter.defProp false
namespace Go.Proofs
open Go Go.Av

abbrev i64 (n : Int) : AV := .v (.int .i64 n)
abbrev i6 (n : Int64) : AV := .v (.int .i64 n.toInt)
abbrev str (b : ByteArray) : AV := .v (.string b)
abbrev boo (b : Bool) : AV := .v (.bool b)

structure Key where
  h : Int64
  a : ByteArray
  b : ByteArray
  c : ByteArray
  d : ByteArray
  deriving DecidableEq

structure Cell where
  n : Int64
  s : Int64
  lo : Int64
  hi : Int64
  deriving DecidableEq

structure Fact where
  k : Key
  v : Int64
  deriving DecidableEq

structure Row where
  k : Key
  c : Cell
  deriving DecidableEq

def Key.av (k : Key) : List AV := [i6 k.h, str k.a, str k.b, str k.c, str k.d]
def Cell.av (c : Cell) : List AV := [i6 c.n, i6 c.s, i6 c.lo, i6 c.hi]
def Fact.av (f : Fact) : List AV := [i6 f.k.h, str f.k.a, str f.k.b, str f.k.c, str f.k.d, i6 f.v]
def Row.av (r : Row) : List AV := [i6 r.k.h, str r.k.a, str r.k.b, str r.k.c, str r.k.d, i6 r.c.n, i6 r.c.s, i6 r.c.lo, i6 r.c.hi]

theorem Bel_yl {n id : Nat} : Bel n (.yl id) ↔ id < n := ⟨fun h => by cases h with | yl h => exact h, .yl⟩
attribute [push_cast] Bel_mp Bel_ptr Bel_ms Bel_yl Bel_fn Bel_v List.forall_mem_append Bel_tup Bel_agg Bel_sl Bel_ep tokBel ite_toInt ER EW EA EL EO EE EB tys unders EVL Wv_nil i6 i64 str boo Key.av Cell.av Fact.av Row.av binK pickK loadK storeK rowsOf bnd fillL two ldAV aggT szOf zeroAV chunks spliceL Cfg.ro detOp gval resAll resOne packAV exists_const implies_true decide_true decide_false if_true if_false
theorem roomI : ((room : Nat) : Int) = 140737488355328 := rfl
def EPM := And.intro (@EP) <| And.intro (@EC) <| And.intro (@EK) <| And.intro (@opt_some) <| And.intro (@opt_none) <| And.intro (@roomI) <| And.intro (@aBuiltin.eq_1) <| And.intro (@aBuiltin.eq_2) <| And.intro (@aBuiltin.eq_3) <| And.intro (@aBuiltin.eq_4) <| And.intro (@aAppend.eq_1) <| And.intro (@aLen.eq_def) <| And.intro (@aSlice.eq_def) <| And.intro (@aIndexAddr.eq_def) <| And.intro (@aIndex.eq_def) <| And.intro (@aBuild.eq_1) <| And.intro (@aBuildSlice.eq_1) <| (@aMakeSlice.eq_def)

theorem RetP {P : Program} {rs : List ResultVar} {s s' : AState} {ex : Exit} {e : Env} {r : AV} (l : List AV) (hl : resAll P e s' rs = some l := by simp only [push_cast, ↓EPM, ↓reduceIte, seval, reduceCtorEq] <;> rfl)
    (hk : Keeps s s' := by first | exact Keeps.base _ _ | (repeat (first | exact Keeps.base _ _ | refine Keeps.new ?_ _ | refine Keeps.set ?_ (by first | (simp; done) | omega | (simp only [EO]; omega)) _)))
    (hb : Bel s.next (packAV l) := by first | exact .v _ | (simp only [push_cast, List.forall_mem_map, List.map_nil, false_implies, List.mem_cons, List.not_mem_nil, or_false, forall_eq_or_imp, forall_eq, and_self, true_and, and_true]))
    (hex : ex = .normal ∨ ex = .ret := by exact .inr rfl) (hm : s'.base.marks = [] := by rfl) (hr : packAV l = r := by rfl) : Ret P rs s (fun d s2 => d = r ∧ s2 = s) ex e s' := Ret_pure hex hm hl hr hk (hr ▸ hb)
theorem RetW {P : Program} {rs : List ResultVar} {s s' : AState} {ex : Exit} {e : Env} {r : AV} (l m : List AV) (hl : resAll P e s' rs = some l := by simp only [push_cast, ↓EPM, ↓reduceIte, seval, reduceCtorEq] <;> rfl)
    (hw : WvL s' l m := by simp only [WvL, push_cast, ↓EPM, ↓reduceIte, seval, reduceCtorEq])
    (hk : Keeps s s' := by first | exact Keeps.base _ _ | (repeat (first | exact Keeps.base _ _ | refine Keeps.new ?_ _ | refine Keeps.set ?_ (by first | (simp; done) | omega | (simp only [EO]; omega)) _)))
    (hb : Bel s.next (packAV m) := by first | exact .v _ | (simp only [push_cast, List.forall_mem_map, List.map_nil, false_implies, List.mem_cons, List.not_mem_nil, or_false, forall_eq_or_imp, forall_eq, and_self, true_and, and_true]))
    (hex : ex = .normal ∨ ex = .ret := by exact .inr rfl) (hm : s'.base.marks = [] := by rfl) (hr : packAV m = r := by rfl) : Ret P rs s (fun d s2 => d = r ∧ s2 = s) ex e s' := Ret_weak hex hm hl hw hr hk (hr ▸ hb)
theorem enterA {P : Program} {f : FuncId} {args : List AV} {s : AState} {k : AV → AState → Prop} (C : Cfg) (c : Code) (rs : List ResultVar) {fn : Func} (hf : P.funcs[f]? = some fn)
    (h : s.Wf → (∀ d ∈ args, Bel s.next d) → aeval P C c (Ret P rs s k) (envA args) { s with base := ⟨s.next, []⟩ }) (hname : (fn.name == "runtime.NumGoroutine") = false := by kernel_rfl)
    (hb : fn.body = some c := by kernel_rfl) (hwf : codeBel fn.ntmps c = true := by kernel_rfl) (hlen : args.length ≤ fn.ntmps := by exact Nat.le_of_ble_eq_true rfl) (hrs : fn.results.toList = rs := by kernel_rfl) : ACalls P f args s k := ACalls_body hf hname hb hwf hlen hrs h
theorem drawA {P : Program} {C : Cfg} {ops : Array Oper} {K : Env → AState → Prop} {e : Env} {s : AState} (hm : P.follows .mixedOrders = true) 
    (h : aR P C ops s (fun e' => K e' s) ops.toList e) (hB : Region.lexB .any ops = true := by kernel_rfl) : aDraw P C ops K e s := aDraw_walk hm hB h
theorem chainA {P : Program} {C : Cfg} {ops : Array Oper} {K : Env → AState → Prop} {e : Env} {s : AState} (L : List AState) (bs : List (Option Nat)) (hm : P.follows .mixedOrders = true) (h : cS P C ops L K ops.toList bs 0 e) (hB : Region.lexB .any ops = true := by kernel_rfl)
    (hF : flagsB .any ops (flO bs) = true := by kernel_rfl) (hU : limB .any ops bs L.length = true := by kernel_rfl) (hL : L[0]? = some s := by rfl) : aDraw P C ops K e s := aDraw_chainS L bs hm hB hF hU hL h
end Go.Proofs

namespace Go.Proofs
open Go Go.Av
set_option linter.unusedSimpArgs false
set_option linter.unusedVariables false
set_option maxRecDepth 30000
set_option maxHeartbeats 2000000

def mergeC (a b : Cell) : Option Cell :=
  if a.n = 0 then some b else if b.n = 0 then some a else
  if addOk a.n b.n && addOk a.s b.s then some ⟨a.n + b.n, a.s + b.s, if b.lo.toInt < a.lo.toInt then b.lo else a.lo, if b.hi.toInt > a.hi.toInt then b.hi else a.hi⟩ else none

def zeroC : Cell := ⟨0, 0, 0, 0⟩
def resC : Option Cell → AV
  | some c => .tup [.agg c.av, boo true]
  | none => .tup [.agg zeroC.av, boo false]

theorem resC_bel (n : Nat) (o : Option Cell) : Bel n (resC o) = True := eq_true (by cases o <;> simp only [resC, Bel_tup, Bel_agg, Cell.av, List.mem_cons, List.not_mem_nil, or_false, forall_eq_or_imp, forall_eq, Bel_v, and_self])
attribute [push_cast] resC_bel
theorem i6_zero (a : Int64) : (a.toInt = 0) ↔ a = 0 := by
  rw [← Int64.toInt_inj]; rfl

theorem plus_law' (a b : Int64) :
    decide ((IntKind.i64.wrap ((BitVec.ofInt IntKind.i64.bits (IntKind.i64.wrap ((BitVec.ofInt IntKind.i64.bits a.toInt ^^^ BitVec.ofInt IntKind.i64.bits (a + b).toInt).toNat : Int)) &&&
      BitVec.ofInt IntKind.i64.bits (IntKind.i64.wrap ((BitVec.ofInt IntKind.i64.bits b.toInt ^^^ BitVec.ofInt IntKind.i64.bits (a + b).toInt).toNat : Int))).toNat : Int)).fdiv (2 ^ min 63 IntKind.i64.bits) = 0) = addOk a b := by
  have := plus_law a b
  simp only [wrap_add] at this
  exact this

theorem plus_spec (a b : Int64) : APure Try.prog 177 [i6 a, i6 b] (.tup [i6 (a + b), boo (addOk a b)]) := by
  intro s
  refine enterA ⟨[]⟩ (Try.f177.body.getD .skip) [.tmp 4, .tmp 5] Try.func177 fun hwf hbel => ?_; simp only [Try.f177, push_cast, ↓EPM, ↓reduceIte, seval, reduceCtorEq]
  simp only [wrap_add, plus_law']
  exact RetP [i6 (a + b), boo (addOk a b)]

theorem add_spec (a b : Int64) : APure Try.prog 260 [i6 a, i6 b] (if addOk a b then .tup [i6 (a + b), boo true] else .tup [i6 0, boo false]) := by
  intro s
  have ha := i64r a
  have hb := i64r b
  by_cases h0 : b.toInt < 0
  · have h1 : ¬ 0 ≤ b.toInt := by omega
    have e : IntKind.i64.wrap (-9223372036854775808 - b.toInt) = -9223372036854775808 - b.toInt := wrap_in (by omega) (by omega)
    by_cases h2 : a.toInt < -9223372036854775808 - b.toInt
    · have h3 : addOk a b = false := by unfold addOk; simp only [decide_eq_false_iff_not]; omega
      simp only [h3]
      refine enterA ⟨[]⟩ (Try.f260.body.getD .skip) [.tmp 4, .tmp 5] Try.func260 fun hwf hbel => ?_; simp only [h0, h1, h2, e,Try.f260, push_cast, ↓EPM, ↓reduceIte, seval, reduceCtorEq]
      exact RetP [i6 0, boo false]
    · have h3 : addOk a b = true := by unfold addOk; simp only [decide_eq_true_eq]; omega
      simp only [h3]
      refine enterA ⟨[]⟩ (Try.f260.body.getD .skip) [.tmp 4, .tmp 5] Try.func260 fun hwf hbel => ?_; simp only [h0, h1, h2, e,Try.f260, push_cast, ↓EPM, ↓reduceIte, seval, reduceCtorEq]
      simp only [wrap_add]; exact RetP [i6 (a + b), boo true]
  · have h1 : 0 ≤ b.toInt := by omega
    have e : IntKind.i64.wrap (9223372036854775807 - b.toInt) = 9223372036854775807 - b.toInt := wrap_in (by omega) (by omega)
    by_cases h2 : 9223372036854775807 - b.toInt < a.toInt
    · have h3 : addOk a b = false := by unfold addOk; simp only [decide_eq_false_iff_not]; omega
      simp only [h3]
      refine enterA ⟨[]⟩ (Try.f260.body.getD .skip) [.tmp 4, .tmp 5] Try.func260 fun hwf hbel => ?_; simp only [h0, h1, h2, e,Try.f260, push_cast, ↓EPM, ↓reduceIte, seval, reduceCtorEq]

      exact RetP [i6 0, boo false]
    · have h3 : addOk a b = true := by unfold addOk; simp only [decide_eq_true_eq]; omega
      simp only [h3]
      refine enterA ⟨[]⟩ (Try.f260.body.getD .skip) [.tmp 4, .tmp 5] Try.func260 fun hwf hbel => ?_; simp only [h0, h1, h2, e,Try.f260, push_cast, ↓EPM, ↓reduceIte, seval, reduceCtorEq]
      simp only [wrap_add]; exact RetP [i6 (a + b), boo true]

theorem merge_spec (a b : Cell) : APure Try.prog 100 [.agg a.av, .agg b.av] (resC (mergeC a b)) := by
  intro s
  by_cases h1 : a.n = 0
  · have h1' := (i6_zero a.n).2 h1
    rw [show mergeC a b = some b by simp [mergeC, h1]]
    refine enterA ⟨[2,3]⟩ (Try.f100.body.getD .skip) [.cell 4 79, .tmp 5] Try.func100 fun hwf hbel => ?_; simp only [h1',Try.f100, push_cast, ↓EPM, ↓reduceIte, seval, reduceCtorEq]
    exact RetP [.agg b.av, boo true]
  have h1' : ¬ a.n.toInt = 0 := fun h => h1 ((i6_zero a.n).1 h)
  by_cases h2 : b.n = 0
  · have h2' := (i6_zero b.n).2 h2
    rw [show mergeC a b = some a by simp [mergeC, h1, h2]]
    refine enterA ⟨[2,3]⟩ (Try.f100.body.getD .skip) [.cell 4 79, .tmp 5] Try.func100 fun hwf hbel => ?_; simp only [h1', h2',Try.f100, push_cast, ↓EPM, ↓reduceIte, seval, reduceCtorEq]
    exact RetP [.agg a.av, boo true]
  have h2' : ¬ b.n.toInt = 0 := fun h => h2 ((i6_zero b.n).1 h)
  have p1 := plus_spec a.n b.n
  have p2 := plus_spec a.s b.s
  by_cases o1 : addOk a.n b.n = true
  · by_cases o2 : addOk a.s b.s = true
    · simp only [o1, o2, if_true] at p1 p2
      rw [show mergeC a b = some ⟨a.n + b.n, a.s + b.s, if b.lo.toInt < a.lo.toInt then b.lo else a.lo, if b.hi.toInt > a.hi.toInt then b.hi else a.hi⟩ by simp [mergeC, h1, h2, o1, o2]]
      refine enterA ⟨[2,3]⟩ (Try.f100.body.getD .skip) [.cell 4 79, .tmp 5] Try.func100 fun hwf hbel => ?_; simp only [h1', h2',Try.f100, push_cast, ↓EPM, ↓reduceIte, seval, reduceCtorEq]
      refine p1.use ?_
      simp only [push_cast, ↓EPM, ↓reduceIte, seval, reduceCtorEq]
      refine p2.use ?_
      simp only [push_cast, ↓EPM, ↓reduceIte, seval, reduceCtorEq]
      exact RetP [.agg (Cell.av ⟨a.n + b.n, a.s + b.s, if b.lo.toInt < a.lo.toInt then b.lo else a.lo, if b.hi.toInt > a.hi.toInt then b.hi else a.hi⟩), boo true]
    · rw [show mergeC a b = none by simp [mergeC, h1, h2, o2]]
      have o2 : addOk a.s b.s = false := by simpa using o2
      simp only [o1, o2, if_true, if_false, Bool.false_eq_true] at p1 p2
      refine enterA ⟨[2,3]⟩ (Try.f100.body.getD .skip) [.cell 4 79, .tmp 5] Try.func100 fun hwf hbel => ?_; simp only [h1', h2',Try.f100, push_cast, ↓EPM, ↓reduceIte, seval, reduceCtorEq]
      refine p1.use ?_
      simp only [push_cast, ↓EPM, ↓reduceIte, seval, reduceCtorEq]
      refine p2.use ?_
      simp only [push_cast, ↓EPM, ↓reduceIte, seval, reduceCtorEq]
      exact RetP [.agg zeroC.av, boo false]
  · rw [show mergeC a b = none by simp [mergeC, h1, h2, o1]]
    have o1 : addOk a.n b.n = false := by simpa using o1
    simp only [o1, if_false, Bool.false_eq_true] at p1
    refine enterA ⟨[2,3]⟩ (Try.f100.body.getD .skip) [.cell 4 79, .tmp 5] Try.func100 fun hwf hbel => ?_; simp only [h1', h2',Try.f100, push_cast, ↓EPM, ↓reduceIte, seval, reduceCtorEq]
    refine p1.use ?_
    simp only [push_cast, ↓EPM, ↓reduceIte, seval, reduceCtorEq]
    refine p2.use ?_
    by_cases o2 : addOk a.s b.s = true
    · simp only [o2, push_cast, ↓EPM, ↓reduceIte, seval, reduceCtorEq]
      exact RetP [.agg zeroC.av, boo false]
    · have o2 : addOk a.s b.s = false := by simpa using o2
      simp only [o2, push_cast, ↓EPM, ↓reduceIte, seval, reduceCtorEq]
      exact RetP [.agg zeroC.av, boo false]

theorem rmerge_spec (a b : Cell) : APure Try.prog 183 [.agg a.av, .agg b.av] (resC (mergeC a b)) := by
  intro s
  by_cases h1 : a.n = 0
  · have h1' := (i6_zero a.n).2 h1
    rw [show mergeC a b = some b by simp [mergeC, h1]]
    refine enterA ⟨[2,3]⟩ (Try.f183.body.getD .skip) [.cell 4 79, .tmp 5] Try.func183 fun hwf hbel => ?_; simp only [h1',Try.f183, push_cast, ↓EPM, ↓reduceIte, seval, reduceCtorEq]
    exact RetP [.agg b.av, boo true]
  have h1' : ¬ a.n.toInt = 0 := fun h => h1 ((i6_zero a.n).1 h)
  by_cases h2 : b.n = 0
  · have h2' := (i6_zero b.n).2 h2
    rw [show mergeC a b = some a by simp [mergeC, h1, h2]]
    refine enterA ⟨[2,3]⟩ (Try.f183.body.getD .skip) [.cell 4 79, .tmp 5] Try.func183 fun hwf hbel => ?_; simp only [h1', h2',Try.f183, push_cast, ↓EPM, ↓reduceIte, seval, reduceCtorEq]
    exact RetP [.agg a.av, boo true]
  have h2' : ¬ b.n.toInt = 0 := fun h => h2 ((i6_zero b.n).1 h)
  have p1 := add_spec a.n b.n
  have p2 := add_spec a.s b.s
  by_cases o1 : addOk a.n b.n = true
  · by_cases o2 : addOk a.s b.s = true
    · simp only [o1, o2, if_true] at p1 p2
      rw [show mergeC a b = some ⟨a.n + b.n, a.s + b.s, if b.lo.toInt < a.lo.toInt then b.lo else a.lo, if b.hi.toInt > a.hi.toInt then b.hi else a.hi⟩ by simp [mergeC, h1, h2, o1, o2]]
      refine enterA ⟨[2,3]⟩ (Try.f183.body.getD .skip) [.cell 4 79, .tmp 5] Try.func183 fun hwf hbel => ?_; simp only [h1', h2',Try.f183, push_cast, ↓EPM, ↓reduceIte, seval, reduceCtorEq]
      refine p1.use ?_
      simp only [push_cast, ↓EPM, ↓reduceIte, seval, reduceCtorEq]
      refine p2.use ?_
      simp only [push_cast, ↓EPM, ↓reduceIte, seval, reduceCtorEq]
      exact RetP [.agg (Cell.av ⟨a.n + b.n, a.s + b.s, if b.lo.toInt < a.lo.toInt then b.lo else a.lo, if b.hi.toInt > a.hi.toInt then b.hi else a.hi⟩), boo true]
    · rw [show mergeC a b = none by simp [mergeC, h1, h2, o2]]
      have o2 : addOk a.s b.s = false := by simpa using o2
      simp only [o1, o2, if_true, if_false, Bool.false_eq_true] at p1 p2
      refine enterA ⟨[2,3]⟩ (Try.f183.body.getD .skip) [.cell 4 79, .tmp 5] Try.func183 fun hwf hbel => ?_; simp only [h1', h2',Try.f183, push_cast, ↓EPM, ↓reduceIte, seval, reduceCtorEq]
      refine p1.use ?_
      simp only [push_cast, ↓EPM, ↓reduceIte, seval, reduceCtorEq]
      refine p2.use ?_
      simp only [push_cast, ↓EPM, ↓reduceIte, seval, reduceCtorEq]
      exact RetP [.agg zeroC.av, boo false]
  · rw [show mergeC a b = none by simp [mergeC, h1, h2, o1]]
    have o1 : addOk a.n b.n = false := by simpa using o1
    simp only [o1, if_false, Bool.false_eq_true] at p1
    refine enterA ⟨[2,3]⟩ (Try.f183.body.getD .skip) [.cell 4 79, .tmp 5] Try.func183 fun hwf hbel => ?_; simp only [h1', h2',Try.f183, push_cast, ↓EPM, ↓reduceIte, seval, reduceCtorEq]
    refine p1.use ?_
    simp only [push_cast, ↓EPM, ↓reduceIte, seval, reduceCtorEq]
    refine p2.use ?_
    by_cases o2 : addOk a.s b.s = true
    · simp only [o2, push_cast, ↓EPM, ↓reduceIte, seval, reduceCtorEq]
      exact RetP [.agg zeroC.av, boo false]
    · have o2 : addOk a.s b.s = false := by simpa using o2
      simp only [o2, push_cast, ↓EPM, ↓reduceIte, seval, reduceCtorEq]
      exact RetP [.agg zeroC.av, boo false]


end Go.Proofs

namespace Go.Proofs
open Go Go.Av
set_option linter.unusedSimpArgs false
set_option linter.unusedVariables false
set_option maxRecDepth 30000

def cmpI (a b : Int) : Int := if a < b then -1 else if b < a then 1 else 0
def cmpB (a b : ByteArray) : Int := if Op.bytesLess a.toList b.toList then -1 else if a.toList == b.toList then 0 else 1
def cmpL : List ByteArray → List ByteArray → Int
  | [], [] => 0
  | [], _ :: _ => -1
  | _ :: _, [] => 1
  | a :: x, b :: y => if cmpB a b = 0 then cmpL x y else cmpB a b
def strs (l : List ByteArray) : List (List AV) := l.map fun x => [str x]

theorem less_irrefl : ∀ l : List UInt8, Op.bytesLess l l = false
  | [] => rfl
  | a :: l => by simp [Op.bytesLess, less_irrefl l]

theorem nan_spec (a : Int) : APure Try.prog 235 [i64 a] (boo false) := by
  intro s
  refine enterA ⟨[]⟩ (Try.f235.body.getD .skip) [.tmp 2] Try.func235 fun hwf hbel => ?_; simp only [Try.f235, push_cast, ↓EPM, ↓reduceIte, seval, reduceCtorEq]
  exact RetP [boo false]

theorem cmp_spec (a b : Int) : APure Try.prog 145 [i64 a, i64 b] (i64 (cmpI a b)) := by
  intro s
  refine enterA ⟨[]⟩ (Try.f145.body.getD .skip) [.tmp 4] Try.func145 fun hwf hbel => ?_; simp only [Try.f145, push_cast, ↓EPM, ↓reduceIte, seval, reduceCtorEq]
  refine (nan_spec a).use ?_
  simp only [push_cast, ↓EPM, ↓reduceIte, seval, reduceCtorEq]
  refine (nan_spec b).use ?_
  simp only [push_cast, ↓EPM, ↓reduceIte, seval, reduceCtorEq]
  refine condK_b (fun hb => ?_) (fun hb => ?_)
  · simp only [decide_eq_true_eq] at hb
    simp only [push_cast, ↓EPM, ↓reduceIte, seval, reduceCtorEq]
    rw [show cmpI a b = -1 by simp [cmpI, hb]]
    exact RetP [i64 (-1)]
  · simp only [decide_eq_false_iff_not] at hb
    simp only [push_cast, ↓EPM, ↓reduceIte, seval, reduceCtorEq]
    refine condK_b (fun hc => ?_) (fun hc => ?_)
    · simp only [decide_eq_true_eq] at hc
      simp only [push_cast, ↓EPM, ↓reduceIte, seval, reduceCtorEq]
      rw [show cmpI a b = 1 by simp [cmpI, hb, hc]]
      exact RetP [i64 1]
    · simp only [decide_eq_false_iff_not] at hc
      simp only [push_cast, ↓EPM, ↓reduceIte, seval, reduceCtorEq]
      rw [show cmpI a b = 0 by simp [cmpI, hb, hc]]
      exact RetP [i64 0]

theorem nans_spec (a : ByteArray) : APure Try.prog 278 [str a] (boo false) := by
  intro s
  refine enterA ⟨[]⟩ (Try.f278.body.getD .skip) [.tmp 2] Try.func278 fun hwf hbel => ?_; simp only [beq_self_eq_true,Try.f278, push_cast, ↓EPM, ↓reduceIte, seval, reduceCtorEq]
  exact RetP [boo false]

theorem cmps_spec (a b : ByteArray) : APure Try.prog 236 [str a, str b] (i64 (cmpB a b)) := by
  intro s
  refine enterA ⟨[]⟩ (Try.f236.body.getD .skip) [.tmp 4] Try.func236 fun hwf hbel => ?_; simp only [Try.f236, push_cast, ↓EPM, ↓reduceIte, seval, reduceCtorEq]
  refine (nans_spec a).use ?_
  simp only [push_cast, ↓EPM, ↓reduceIte, seval, reduceCtorEq]
  refine (nans_spec b).use ?_
  by_cases hb : Op.bytesLess a.toList b.toList = true
  · simp only [hb, push_cast, ↓EPM, ↓reduceIte, seval, reduceCtorEq]
    rw [show cmpB a b = -1 by simp [cmpB, hb]]
    exact RetP [i64 (-1)]
  · have hb : Op.bytesLess a.toList b.toList = false := by simpa using hb
    by_cases hc : (a.toList == b.toList) = true
    · simp only [hb, hc, push_cast, ↓EPM, ↓reduceIte, seval, reduceCtorEq]
      rw [show cmpB a b = 0 by simp only [cmpB, hb, hc]; rfl]
      exact RetP [i64 0]
    · have hc : (a.toList == b.toList) = false := by simpa using hc
      simp only [hb, hc, push_cast, ↓EPM, ↓reduceIte, seval, reduceCtorEq]
      rw [show cmpB a b = 1 by simp only [cmpB, hb, hc]; rfl]
      exact RetP [i64 1]

theorem strs_len (l : List ByteArray) : (strs l).length = l.length := by simp [strs]
theorem strs_get {l : List ByteArray} {i : Nat} {x : ByteArray} (h : l[i]? = some x) : (strs l).getD i [] = [str x] := by simp [strs, List.getD_eq_getElem?_getD, h]
theorem drop_get {α : Type} {l : List α} {i : Nat} {x : α} (h : l[i]? = some x) : l.drop i = x :: l.drop (i + 1) := by
  obtain ⟨h1, rfl⟩ := List.getElem?_eq_some_iff.1 h
  exact List.drop_eq_getElem_cons h1

theorem cmpl_spec (l m : List ByteArray) (hl : l.length ≤ 1000000) : APure Try.prog 146 [.sl 1 (strs l) .none, .sl 1 (strs m) .none] (i64 (cmpL l m)) := by
  intro s
  generalize hr : cmpL l m = r
  refine enterA ⟨[]⟩ (Try.f146.body.getD .skip) [.tmp 4] Try.func146 fun hwf hbel => ?_; simp only [strs_len,Try.f146, push_cast, ↓EPM, ↓reduceIte, seval, reduceCtorEq]
  refine ALoop_inv (ι := Nat) (fun i => i ≤ l.length ∧ r = cmpL (l.drop i) (m.drop i)) (fun i => envL [(0, .sl 1 (strs l) .none), (1, .sl 1 (strs m) .none), (9, .sl 1 (strs l) .none), (10, i64 l.length), (11, i64 i)]) (fun _ => { s with base := ⟨s.next, []⟩ }) (fun i => l.length - i) 0 ⟨Nat.zero_le _, by rw [← hr]; rfl⟩ (ent rfl ?_) (fun i hi => ?_)
  · simp only [push_cast, ↓EPM, ↓reduceIte, seval, reduceCtorEq]
  · obtain ⟨hi, hcmp⟩ := hi
    by_cases hlt : i < l.length
    · have hc : ((i : Int) < (l.length : Int)) := by omega
      have h0 : (0 : Int) ≤ (i : Int) := by omega
      obtain ⟨x, hx⟩ : ∃ x, l[i]? = some x := ⟨_, List.getElem?_eq_getElem hlt⟩
      have gx := strs_get hx
      rw [drop_get hx] at hcmp
      have hw : IntKind.i64.wrap ((i : Int) + 1) = (i : Int) + 1 := wrap_in (by omega) (by omega)
      by_cases hlm : i < m.length
      · have hd : ¬ ((m.length : Int) ≤ (i : Int)) := by omega
        have hd' : ((i : Int) < (m.length : Int)) := by omega
        obtain ⟨y, hy⟩ : ∃ x, m[i]? = some x := ⟨_, List.getElem?_eq_getElem hlm⟩
        have gy := strs_get hy
        rw [drop_get hy] at hcmp
        simp only [hc, hd, hd', h0, gx, gy, strs_len, push_cast, ↓EPM, ↓reduceIte, seval, reduceCtorEq]
        refine (cmps_spec x y).use ?_
        by_cases hq : cmpB x y = 0
        · simp only [hq, push_cast, ↓EPM, ↓reduceIte, seval, reduceCtorEq]
          simp only [cmpL, hq, if_true] at hcmp
          simp only [hw, push_cast, ↓EPM, ↓reduceIte, seval, reduceCtorEq]
          refine round_next (i + 1) ⟨by omega, hcmp⟩ (by omega) (ent rfl ?_)
          simp only [push_cast, ↓EPM, ↓reduceIte, seval, reduceCtorEq]
        · simp only [hq, push_cast, ↓EPM, ↓reduceIte, seval, reduceCtorEq]
          rw [show r = cmpB x y by simpa [cmpL, hq] using hcmp]
          exact RetP [i64 (cmpB x y)]
      · have hd : ((m.length : Int) ≤ (i : Int)) := by omega
        simp only [hc, hd, h0, gx, strs_len, push_cast, ↓EPM, ↓reduceIte, seval, reduceCtorEq]
        rw [show r = 1 by rw [hcmp, List.drop_eq_nil_of_le (by omega : m.length ≤ i), cmpL]]
        exact RetP [i64 1]
    · have hc : ¬ ((i : Int) < (l.length : Int)) := by omega
      have e1 : l.drop i = [] := List.drop_eq_nil_of_le (by omega)
      by_cases hlm : i < m.length
      · have hd : ((l.length : Int) < (m.length : Int)) := by omega
        obtain ⟨y, hy⟩ : ∃ x, m[i]? = some x := ⟨_, List.getElem?_eq_getElem hlm⟩
        simp only [hc, hd, strs_len, push_cast, ↓EPM, ↓reduceIte, seval, reduceCtorEq]
        rw [show r = -1 by rw [hcmp, e1, drop_get hy, cmpL]]
        exact RetP [i64 (-1)]
      · have hd : ¬ ((l.length : Int) < (m.length : Int)) := by omega
        simp only [hc, hd, strs_len, push_cast, ↓EPM, ↓reduceIte, seval, reduceCtorEq]
        rw [show r = 0 by rw [hcmp, e1, List.drop_eq_nil_of_le (by omega : m.length ≤ i), cmpL]]
        exact RetP [i64 0]
end Go.Proofs

namespace Go.Proofs
open Go Go.Av
set_option linter.unusedSimpArgs false
set_option linter.unusedVariables false
set_option maxRecDepth 30000

def ints (l : List Int) : List (List AV) := l.map fun x => [i64 x]
def orI : List Int → Int
  | [] => 0
  | a :: l => if a = 0 then orI l else a
theorem ints_len (l : List Int) : (ints l).length = l.length := by simp [ints]
theorem ints_get {l : List Int} {i : Nat} {x : Int} (h : l[i]? = some x) : (ints l).getD i [] = [i64 x] := by simp [ints, List.getD_eq_getElem?_getD, h]

theorem or_spec (l : List Int) (hl : l.length ≤ 1000000) : APure Try.prog 144 [.sl 1 (ints l) .none] (i64 (orI l)) := by
  intro s
  generalize hr : orI l = r
  refine enterA ⟨[]⟩ (Try.f144.body.getD .skip) [.tmp 2] Try.func144 fun hwf hbel => ?_; simp only [ints_len,Try.f144, push_cast, ↓EPM, ↓reduceIte, seval, reduceCtorEq]
  refine ALoop_inv (ι := Nat) (fun i => i ≤ l.length ∧ r = orI (l.drop i)) (fun i => envL [(0, .sl 1 (ints l) .none), (3, i64 0), (6, .sl 1 (ints l) .none), (7, i64 l.length), (8, i64 i)]) (fun _ => { s with base := ⟨s.next, []⟩ }) (fun i => l.length - i) 0 ⟨Nat.zero_le _, by rw [← hr]; rfl⟩ (ent rfl ?_) (fun i hi => ?_)
  · simp only [push_cast, ↓EPM, ↓reduceIte, seval, reduceCtorEq]
  · obtain ⟨hi, hcmp⟩ := hi
    by_cases hlt : i < l.length
    · have hc : ((i : Int) < (l.length : Int)) := by omega
      have h0 : (0 : Int) ≤ (i : Int) := by omega
      obtain ⟨x, hx⟩ : ∃ x, l[i]? = some x := ⟨_, List.getElem?_eq_getElem hlt⟩
      have gx := ints_get hx
      rw [drop_get hx, orI] at hcmp
      have hw : IntKind.i64.wrap ((i : Int) + 1) = (i : Int) + 1 := wrap_in (by omega) (by omega)
      by_cases hq : x = 0
      · subst hq
        simp only [if_true] at hcmp
        simp only [hc, h0, gx, ints_len, hw, push_cast, ↓EPM, ↓reduceIte, seval, reduceCtorEq]
        refine round_next (i + 1) ⟨by omega, hcmp⟩ (by omega) (ent rfl ?_)
        simp only [push_cast, ↓EPM, ↓reduceIte, seval, reduceCtorEq]
      · simp only [hq, if_false] at hcmp
        subst hcmp
        simp only [hc, h0, gx, ints_len, hw, hq, push_cast, ↓EPM, ↓reduceIte, seval, reduceCtorEq]
        exact RetP [i64 r]
    · have hc : ¬ ((i : Int) < (l.length : Int)) := by omega
      simp only [hc, push_cast, ↓EPM, ↓reduceIte, seval, reduceCtorEq]
      rw [show r = 0 by rw [hcmp, List.drop_eq_nil_of_le (by omega), orI]]
      exact RetP [i64 0]

def Key.dims (k : Key) : List ByteArray := [k.a, k.b, k.c, k.d]
def cmpK (x y : Key) : Int := if cmpI x.h.toInt y.h.toInt = 0 then cmpL x.dims y.dims else cmpI x.h.toInt y.h.toInt

theorem fcmp_spec (x y : Key) : APure Try.prog 73 [.agg x.av, .agg y.av] (i64 (cmpK x y)) := by
  intro s
  refine enterA ⟨[2,3]⟩ (Try.f73.body.getD .skip) [.tmp 4] Try.func73 fun hwf hbel => ?_; simp only [Try.f73, push_cast, ↓EPM, ↓reduceIte, seval, reduceCtorEq]
  refine drawA mixed ?_; simp only [push_cast, ↓EPM, ↓reduceIte, seval, reduceCtorEq]
  refine qcall (cmp_spec x.h.toInt y.h.toInt) rfl (by simp only [push_cast, ↓EPM, ↓reduceIte, seval, reduceCtorEq] <;> rfl) ?_; simp only [push_cast, ↓EPM, ↓reduceIte, seval, reduceCtorEq]
  refine qcall (cmpl_spec x.dims y.dims (by simp [Key.dims])) rfl (by simp only [push_cast, ↓EPM, ↓reduceIte, seval, reduceCtorEq] <;> rfl) ?_; simp only [push_cast, ↓EPM, ↓reduceIte, seval, reduceCtorEq]
  refine qcall (or_spec [cmpI x.h.toInt y.h.toInt, cmpL x.dims y.dims] (by simp)) rfl (by simp only [push_cast, ↓EPM, ↓reduceIte, seval, reduceCtorEq] <;> rfl) ?_; simp only [push_cast, ↓EPM, ↓reduceIte, seval, reduceCtorEq]
  rw [show cmpK x y = orI [cmpI x.h.toInt y.h.toInt, cmpL x.dims y.dims] by simp only [orI, cmpK]; split <;> rename_i h <;> simp [h]]
  exact RetP [i64 (orI [cmpI x.h.toInt y.h.toInt, cmpL x.dims y.dims])]

theorem cmpB_cases (a b : ByteArray) : (cmpB a b = -1 ∧ Op.bytesLess a.toList b.toList = true) ∨ (cmpB a b = 0 ∧ Op.bytesLess a.toList b.toList = false ∧ (a.toList == b.toList) = true) ∨
    (cmpB a b = 1 ∧ Op.bytesLess a.toList b.toList = false ∧ (a.toList == b.toList) = false) := by
  unfold cmpB
  cases h1 : Op.bytesLess a.toList b.toList
  · cases h2 : a.toList == b.toList
    · exact .inr (.inr ⟨rfl, rfl, rfl⟩)
    · exact .inr (.inl ⟨rfl, rfl, rfl⟩)
  · exact .inl ⟨rfl, rfl⟩

theorem rcmp_spec (x y : Key) : APure Try.prog 107 [.agg x.av, .agg y.av] (i64 (cmpK x y)) := by
  intro s
  generalize hr : cmpK x y = r
  unfold cmpK at hr
  by_cases hh : x.h.toInt = y.h.toInt
  · rw [if_pos (by simp [cmpI, hh])] at hr
    refine enterA ⟨[2,3]⟩ (Try.f107.body.getD .skip) [.tmp 4] Try.func107 fun hwf hbel => ?_; simp only [hh,Try.f107, push_cast, ↓EPM, ↓reduceIte, seval, reduceCtorEq]
    refine ALoop_inv (ι := Nat) (fun i => i ≤ 4 ∧ r = cmpL (x.dims.drop i) (y.dims.drop i)) (fun i => envL [(2, .ep x.av 0), (3, .ep y.av 0), (5, i64 i)]) (fun _ => { s with base := ⟨s.next, []⟩ }) (fun i => 4 - i) 0 ⟨Nat.zero_le _, by rw [← hr]; rfl⟩ (ent rfl ?_) (fun i hi => ?_)
    · simp only [hh, push_cast, ↓EPM, ↓reduceIte, seval, reduceCtorEq]
    · obtain ⟨hi, hcmp⟩ := hi
      obtain rfl | rfl | rfl | rfl | rfl : i = 0 ∨ i = 1 ∨ i = 2 ∨ i = 3 ∨ i = 4 := by omega
      · rcases cmpB_cases x.a y.a with ⟨e, q⟩ | ⟨e, q, q'⟩ | ⟨e, q, q'⟩
        · simp only [push_cast, ↓EPM, ↓reduceIte, seval, reduceCtorEq]; refine drawA mixed ?_; simp only [q, push_cast, ↓EPM, ↓reduceIte, seval, reduceCtorEq]
          rw [show r = -1 by rw [hcmp]; simp [Key.dims, cmpL, e]]
          exact RetP [i64 (-1)]
        · simp only [push_cast, ↓EPM, ↓reduceIte, seval, reduceCtorEq]; refine drawA mixed ?_; simp only [q, q', push_cast, ↓EPM, ↓reduceIte, seval, reduceCtorEq]; refine drawA mixed ?_; simp only [q, q', push_cast, ↓EPM, ↓reduceIte, seval, reduceCtorEq]
          have hw : IntKind.i64.wrap ((0 : Int) + 1) = (0 : Int) + 1 := wrap_in (by omega) (by omega)
          simp only [Int.reduceAdd] at hw
          simp only [hw, push_cast, ↓EPM, ↓reduceIte, seval, reduceCtorEq]
          refine round_next 1 ⟨by omega, by rw [hcmp]; simp [Key.dims, cmpL, e]⟩ (by omega) (ent rfl ?_)
          simp only [push_cast, ↓EPM, ↓reduceIte, seval, reduceCtorEq]
        · simp only [push_cast, ↓EPM, ↓reduceIte, seval, reduceCtorEq]; refine drawA mixed ?_; simp only [q, q', push_cast, ↓EPM, ↓reduceIte, seval, reduceCtorEq]; refine drawA mixed ?_; simp only [q, q', push_cast, ↓EPM, ↓reduceIte, seval, reduceCtorEq]
          rw [show r = 1 by rw [hcmp]; simp [Key.dims, cmpL, e]]
          exact RetP [i64 1]
      · rcases cmpB_cases x.b y.b with ⟨e, q⟩ | ⟨e, q, q'⟩ | ⟨e, q, q'⟩
        · simp only [push_cast, ↓EPM, ↓reduceIte, seval, reduceCtorEq]; refine drawA mixed ?_; simp only [q, push_cast, ↓EPM, ↓reduceIte, seval, reduceCtorEq]
          rw [show r = -1 by rw [hcmp]; simp [Key.dims, cmpL, e]]
          exact RetP [i64 (-1)]
        · simp only [push_cast, ↓EPM, ↓reduceIte, seval, reduceCtorEq]; refine drawA mixed ?_; simp only [q, q', push_cast, ↓EPM, ↓reduceIte, seval, reduceCtorEq]; refine drawA mixed ?_; simp only [q, q', push_cast, ↓EPM, ↓reduceIte, seval, reduceCtorEq]
          have hw : IntKind.i64.wrap ((1 : Int) + 1) = (1 : Int) + 1 := wrap_in (by omega) (by omega)
          simp only [Int.reduceAdd] at hw
          simp only [hw, push_cast, ↓EPM, ↓reduceIte, seval, reduceCtorEq]
          refine round_next 2 ⟨by omega, by rw [hcmp]; simp [Key.dims, cmpL, e]⟩ (by omega) (ent rfl ?_)
          simp only [push_cast, ↓EPM, ↓reduceIte, seval, reduceCtorEq]
        · simp only [push_cast, ↓EPM, ↓reduceIte, seval, reduceCtorEq]; refine drawA mixed ?_; simp only [q, q', push_cast, ↓EPM, ↓reduceIte, seval, reduceCtorEq]; refine drawA mixed ?_; simp only [q, q', push_cast, ↓EPM, ↓reduceIte, seval, reduceCtorEq]
          rw [show r = 1 by rw [hcmp]; simp [Key.dims, cmpL, e]]
          exact RetP [i64 1]
      · rcases cmpB_cases x.c y.c with ⟨e, q⟩ | ⟨e, q, q'⟩ | ⟨e, q, q'⟩
        · simp only [push_cast, ↓EPM, ↓reduceIte, seval, reduceCtorEq]; refine drawA mixed ?_; simp only [q, push_cast, ↓EPM, ↓reduceIte, seval, reduceCtorEq]
          rw [show r = -1 by rw [hcmp]; simp [Key.dims, cmpL, e]]
          exact RetP [i64 (-1)]
        · simp only [push_cast, ↓EPM, ↓reduceIte, seval, reduceCtorEq]; refine drawA mixed ?_; simp only [q, q', push_cast, ↓EPM, ↓reduceIte, seval, reduceCtorEq]; refine drawA mixed ?_; simp only [q, q', push_cast, ↓EPM, ↓reduceIte, seval, reduceCtorEq]
          have hw : IntKind.i64.wrap ((2 : Int) + 1) = (2 : Int) + 1 := wrap_in (by omega) (by omega)
          simp only [Int.reduceAdd] at hw
          simp only [hw, push_cast, ↓EPM, ↓reduceIte, seval, reduceCtorEq]
          refine round_next 3 ⟨by omega, by rw [hcmp]; simp [Key.dims, cmpL, e]⟩ (by omega) (ent rfl ?_)
          simp only [push_cast, ↓EPM, ↓reduceIte, seval, reduceCtorEq]
        · simp only [push_cast, ↓EPM, ↓reduceIte, seval, reduceCtorEq]; refine drawA mixed ?_; simp only [q, q', push_cast, ↓EPM, ↓reduceIte, seval, reduceCtorEq]; refine drawA mixed ?_; simp only [q, q', push_cast, ↓EPM, ↓reduceIte, seval, reduceCtorEq]
          rw [show r = 1 by rw [hcmp]; simp [Key.dims, cmpL, e]]
          exact RetP [i64 1]
      · rcases cmpB_cases x.d y.d with ⟨e, q⟩ | ⟨e, q, q'⟩ | ⟨e, q, q'⟩
        · simp only [push_cast, ↓EPM, ↓reduceIte, seval, reduceCtorEq]; refine drawA mixed ?_; simp only [q, push_cast, ↓EPM, ↓reduceIte, seval, reduceCtorEq]
          rw [show r = -1 by rw [hcmp]; simp [Key.dims, cmpL, e]]
          exact RetP [i64 (-1)]
        · simp only [push_cast, ↓EPM, ↓reduceIte, seval, reduceCtorEq]; refine drawA mixed ?_; simp only [q, q', push_cast, ↓EPM, ↓reduceIte, seval, reduceCtorEq]; refine drawA mixed ?_; simp only [q, q', push_cast, ↓EPM, ↓reduceIte, seval, reduceCtorEq]
          have hw : IntKind.i64.wrap ((3 : Int) + 1) = (3 : Int) + 1 := wrap_in (by omega) (by omega)
          simp only [Int.reduceAdd] at hw
          simp only [hw, push_cast, ↓EPM, ↓reduceIte, seval, reduceCtorEq]
          refine round_next 4 ⟨by omega, by rw [hcmp]; simp [Key.dims, cmpL, e]⟩ (by omega) (ent rfl ?_)
          simp only [push_cast, ↓EPM, ↓reduceIte, seval, reduceCtorEq]
        · simp only [push_cast, ↓EPM, ↓reduceIte, seval, reduceCtorEq]; refine drawA mixed ?_; simp only [q, q', push_cast, ↓EPM, ↓reduceIte, seval, reduceCtorEq]; refine drawA mixed ?_; simp only [q, q', push_cast, ↓EPM, ↓reduceIte, seval, reduceCtorEq]
          rw [show r = 1 by rw [hcmp]; simp [Key.dims, cmpL, e]]
          exact RetP [i64 1]
      · simp only [push_cast, ↓EPM, ↓reduceIte, seval, reduceCtorEq]
        subst hcmp
        exact RetP [i64 0]
  · by_cases hl : x.h.toInt < y.h.toInt
    · rw [if_neg (by simp [cmpI, hl])] at hr
      refine enterA ⟨[2,3]⟩ (Try.f107.body.getD .skip) [.tmp 4] Try.func107 fun hwf hbel => ?_; simp only [hh, hl,Try.f107, push_cast, ↓EPM, ↓reduceIte, seval, reduceCtorEq]
      rw [show r = -1 by rw [← hr]; simp [cmpI, hl]]
      exact RetP [i64 (-1)]
    · have hg : y.h.toInt < x.h.toInt := by omega
      rw [if_neg (by simp [cmpI, hl, hg])] at hr
      refine enterA ⟨[2,3]⟩ (Try.f107.body.getD .skip) [.tmp 4] Try.func107 fun hwf hbel => ?_; simp only [hh, hl,Try.f107, push_cast, ↓EPM, ↓reduceIte, seval, reduceCtorEq]
      rw [show r = 1 by rw [← hr]; simp [cmpI, hl, hg]]
      exact RetP [i64 1]

end Go.Proofs

namespace Go.Proofs
open Go Go.Av
set_option linter.unusedSimpArgs false
set_option linter.unusedVariables false
set_option maxRecDepth 30000

theorem i64_beq (a b : Int64) : (a.toInt == b.toInt) = decide (a = b) := by
  by_cases h : a = b
  · simp [h]
  · have : a.toInt ≠ b.toInt := fun e => h (Int64.toInt_inj.1 e)
    simp [h, this]
theorem str_beq (a b : ByteArray) : (a.toList == b.toList) = decide (a = b) := by
  by_cases h : a = b
  · simp [h]
  · have : a.toList ≠ b.toList := fun e => h (by
      rw [ByteArray.toList_eq, ByteArray.toList_eq] at e
      exact ByteArray.ext (Array.toList_inj.1 e))
    simp [h, this]

theorem cell_beq (c d : Cell) : ((c.n.toInt == d.n.toInt) && ((c.s.toInt == d.s.toInt) && ((c.lo.toInt == d.lo.toInt) && ((c.hi.toInt == d.hi.toInt) && true)))) = decide (c = d) := by
  obtain ⟨a1, a2, a3, a4⟩ := c
  obtain ⟨b1, b2, b3, b4⟩ := d
  simp only [i64_beq, Bool.and_true, Cell.mk.injEq]
  rw [Bool.eq_iff_iff]; simp
theorem key_beq (c d : Key) : ((c.h.toInt == d.h.toInt) && (((c.a.toList == d.a.toList) && ((c.b.toList == d.b.toList) && ((c.c.toList == d.c.toList) && ((c.d.toList == d.d.toList) && true)))) && true)) = decide (c = d) := by
  obtain ⟨a1, a2, a3, a4, a5⟩ := c
  obtain ⟨b1, b2, b3, b4, b5⟩ := d
  simp only [i64_beq, str_beq, Bool.and_true, Key.mk.injEq]
  rw [Bool.eq_iff_iff]; simp

theorem aeq_cell (c d : Cell) : AEq Try.prog 79 (.agg c.av) (.agg d.av) (decide (c = d)) := by
  rw [← cell_beq]
  exact AEq_agg (by kernel_rfl) (by kernel_rfl)
theorem aeq_key (c d : Key) : AEq Try.prog 82 (.agg c.av) (.agg d.av) (decide (c = d)) := by
  rw [← key_beq]
  exact AEq_agg (by kernel_rfl) (by kernel_rfl)
theorem row_beq (c d : Row) : (((c.k.h.toInt == d.k.h.toInt) && (((c.k.a.toList == d.k.a.toList) && ((c.k.b.toList == d.k.b.toList) && ((c.k.c.toList == d.k.c.toList) && ((c.k.d.toList == d.k.d.toList) && true)))) && true)) &&
    (((c.c.n.toInt == d.c.n.toInt) && ((c.c.s.toInt == d.c.s.toInt) && ((c.c.lo.toInt == d.c.lo.toInt) && ((c.c.hi.toInt == d.c.hi.toInt) && true)))) && true)) = decide (c = d) := by
  obtain ⟨⟨a1, a2, a3, a4, a5⟩, ⟨a6, a7, a8, a9⟩⟩ := c
  obtain ⟨⟨b1, b2, b3, b4, b5⟩, ⟨b6, b7, b8, b9⟩⟩ := d
  simp only [i64_beq, str_beq, Bool.and_true, Row.mk.injEq, Key.mk.injEq, Cell.mk.injEq]
  rw [Bool.eq_iff_iff]; simp
theorem aeq_row (c d : Row) : AEq Try.prog 84 (.agg c.av) (.agg d.av) (decide (c = d)) := by
  rw [← row_beq]
  exact AEq_agg (by kernel_rfl) (by kernel_rfl)
def Cell.right (c : Cell) : Bool :=
  if c.n = 0 then decide (c = zeroC) else if c.n = 1 then decide (c = ⟨1, c.s, c.s, c.s⟩) else decide (0 < c.n.toInt) && decide (c.lo.toInt ≤ c.hi.toInt)

theorem i6_one (a : Int64) : (a.toInt = 1) ↔ a = 1 := by
  rw [← Int64.toInt_inj]; rfl

theorem of_spec (a : Int64) : APure Try.prog 224 [i6 a] (.agg (Cell.av ⟨1, a, a, a⟩)) := by
  intro s
  refine enterA ⟨[]⟩ (Try.f224.body.getD .skip) [.cell 2 79] Try.func224 fun hwf hbel => ?_; simp only [Try.f224, push_cast, ↓EPM, ↓reduceIte, seval, reduceCtorEq]
  exact RetP [.agg (Cell.av ⟨1, a, a, a⟩)]

theorem right_spec (c : Cell) : APure Try.prog 141 [.agg c.av] (boo c.right) := by
  intro s
  by_cases h0 : c.n = 0
  · have h0' : decide (c.n.toInt = 0) = true := by simp [(i6_zero c.n).2 h0]
    rw [show c.right = decide (c = zeroC) by simp [Cell.right, h0]]
    refine enterA ⟨[1]⟩ (Try.f141.body.getD .skip) [.tmp 2] Try.func141 fun hwf hbel => ?_; simp only [h0',Try.f141, push_cast, ↓EPM, ↓reduceIte, seval, reduceCtorEq]
    refine eqK_use (aeq_cell c zeroC) ?_
    simp only [push_cast, ↓EPM, ↓reduceIte, seval, reduceCtorEq]
    exact RetP [boo (decide (c = zeroC))]
  have h0' : decide (c.n.toInt = 0) = false := by rw [decide_eq_false_iff_not]; exact fun h => h0 ((i6_zero c.n).1 h)
  by_cases h1 : c.n = 1
  · have h1' : decide (c.n.toInt = 1) = true := by simp [(i6_one c.n).2 h1]
    rw [show c.right = decide (c = ⟨1, c.s, c.s, c.s⟩) by simp [Cell.right, h1]]
    refine enterA ⟨[1]⟩ (Try.f141.body.getD .skip) [.tmp 2] Try.func141 fun hwf hbel => ?_; simp only [h0', h1',Try.f141, push_cast, ↓EPM, ↓reduceIte, seval, reduceCtorEq]
    refine drawA mixed ?_; simp only [push_cast, ↓EPM, ↓reduceIte, seval, reduceCtorEq]
    refine qcall (of_spec c.s) rfl (by simp only [push_cast, ↓EPM, ↓reduceIte, seval, reduceCtorEq] <;> rfl) ?_; simp only [push_cast, ↓EPM, ↓reduceIte, seval, reduceCtorEq]
    refine eqK_use (aeq_cell c ⟨1, c.s, c.s, c.s⟩) ?_
    simp only [push_cast, ↓EPM, ↓reduceIte, seval, reduceCtorEq]
    exact RetP [boo (decide (c = ⟨1, c.s, c.s, c.s⟩))]
  have h1' : decide (c.n.toInt = 1) = false := by rw [decide_eq_false_iff_not]; exact fun h => h1 ((i6_one c.n).1 h)
  rw [show c.right = (decide (0 < c.n.toInt) && decide (c.lo.toInt ≤ c.hi.toInt)) by simp [Cell.right, h0, h1]]
  by_cases h2 : 0 < c.n.toInt
  · refine enterA ⟨[1]⟩ (Try.f141.body.getD .skip) [.tmp 2] Try.func141 fun hwf hbel => ?_; simp only [h0', h1', h2,Try.f141, push_cast, ↓EPM, ↓reduceIte, seval, reduceCtorEq]
    exact RetP [boo (decide (c.lo.toInt ≤ c.hi.toInt))]
  · simp only [h2]
    refine enterA ⟨[1]⟩ (Try.f141.body.getD .skip) [.tmp 2] Try.func141 fun hwf hbel => ?_; simp only [h0', h1', h2,Try.f141, push_cast, ↓EPM, ↓reduceIte, seval, reduceCtorEq]
    exact RetP [boo false]

theorem rright_spec (c : Cell) : APure Try.prog 108 [.agg c.av] (boo c.right) := by
  intro s
  by_cases h0 : c.n = 0
  · have h0' : decide (c.n.toInt = 0) = true := by simp [(i6_zero c.n).2 h0]
    rw [show c.right = decide (c = zeroC) by simp [Cell.right, h0]]
    refine enterA ⟨[1]⟩ (Try.f108.body.getD .skip) [.tmp 2] Try.func108 fun hwf hbel => ?_; simp only [h0',Try.f108, push_cast, ↓EPM, ↓reduceIte, seval, reduceCtorEq]
    refine eqK_use (aeq_cell c zeroC) ?_
    simp only [push_cast, ↓EPM, ↓reduceIte, seval, reduceCtorEq]
    exact RetP [boo (decide (c = zeroC))]
  have h0' : decide (c.n.toInt = 0) = false := by rw [decide_eq_false_iff_not]; exact fun h => h0 ((i6_zero c.n).1 h)
  by_cases h2 : 0 < c.n.toInt
  · by_cases h3 : c.lo.toInt ≤ c.hi.toInt
    · by_cases h1 : c.n = 1
      · have h1' : ¬ 1 < c.n.toInt := by simp [(i6_one c.n).2 h1]
        rw [show c.right = (decide (c.s.toInt = c.lo.toInt) && decide (c.s.toInt = c.hi.toInt)) by
          obtain ⟨n, s, lo, hi⟩ := c
          simp only at h1; subst h1
          simp only [Cell.right, Cell.mk.injEq, Int64.toInt_inj]
          simp only [show ((1 : Int64) = 0) = False by decide, if_false, if_true, true_and]
          rw [Bool.eq_iff_iff]; simp
          constructor
          · rintro ⟨rfl, rfl⟩; exact ⟨rfl, rfl⟩
          · rintro ⟨rfl, rfl⟩; exact ⟨rfl, rfl⟩]
        by_cases h4 : c.s.toInt = c.lo.toInt
        · have h4' : decide (c.s.toInt = c.lo.toInt) = true := by simp [h4]
          simp only [h4', Bool.true_and]
          refine enterA ⟨[1]⟩ (Try.f108.body.getD .skip) [.tmp 2] Try.func108 fun hwf hbel => ?_; simp only [h0', h1', h2, h3, h4',Try.f108, push_cast, ↓EPM, ↓reduceIte, seval, reduceCtorEq]
          exact RetP [boo (decide (c.s.toInt = c.hi.toInt))]
        · simp only [h4]
          refine enterA ⟨[1]⟩ (Try.f108.body.getD .skip) [.tmp 2] Try.func108 fun hwf hbel => ?_; simp only [h0', h1', h2, h3, h4,Try.f108, push_cast, ↓EPM, ↓reduceIte, seval, reduceCtorEq]
          exact RetP [boo false]
      · have h1' : 1 < c.n.toInt := by
          have : c.n.toInt ≠ 1 := fun h => h1 ((i6_one c.n).1 h)
          omega
        rw [show c.right = true by simp [Cell.right, h0, h1, h2, h3]]
        refine enterA ⟨[1]⟩ (Try.f108.body.getD .skip) [.tmp 2] Try.func108 fun hwf hbel => ?_; simp only [h0', h1', h2, h3,Try.f108, push_cast, ↓EPM, ↓reduceIte, seval, reduceCtorEq]
        exact RetP [boo true]
    · have h1 : c.n = 1 → False ∨ c.right = false := fun h1 => .inr (by
        obtain ⟨n, s, lo, hi⟩ := c
        simp only at h1; subst h1
        simp only [Cell.right, Cell.mk.injEq]
        simp only [show ((1 : Int64) = 0) = False by decide, if_false, if_true, true_and]
        rw [decide_eq_false_iff_not]
        rintro ⟨rfl, rfl⟩
        exact h3 (Int.le_refl _))
      rw [show c.right = false by
        by_cases h : c.n = 1
        · exact (h1 h).resolve_left id
        · simp [Cell.right, h0, h, h3]]
      refine enterA ⟨[1]⟩ (Try.f108.body.getD .skip) [.tmp 2] Try.func108 fun hwf hbel => ?_; simp only [h0', h2, h3,Try.f108, push_cast, ↓EPM, ↓reduceIte, seval, reduceCtorEq]
      exact RetP [boo false]
  · rw [show c.right = false by
      have : c.n ≠ 1 := fun h => by rw [h] at h2; exact h2 (by decide)
      simp [Cell.right, h0, this, h2]]
    refine enterA ⟨[1]⟩ (Try.f108.body.getD .skip) [.tmp 2] Try.func108 fun hwf hbel => ?_; simp only [h0', h2,Try.f108, push_cast, ↓EPM, ↓reduceIte, seval, reduceCtorEq]
    exact RetP [boo false]

end Go.Proofs

namespace Go.Proofs
open Go Go.Av
def rowsA (l : List Row) : List (List AV) := l.map Row.av
theorem rowsA_len (l : List Row) : (rowsA l).length = l.length := by simp [rowsA]
theorem rowsA_get {l : List Row} {i : Nat} {x : Row} (h : l[i]? = some x) : (rowsA l).getD i [] = x.av := by simp [rowsA, List.getD_eq_getElem?_getD, h]
def factsA (l : List Fact) : List (List AV) := l.map Fact.av
theorem factsA_len (l : List Fact) : (factsA l).length = l.length := by simp [factsA]
theorem factsA_get {l : List Fact} {i : Nat} {x : Fact} (h : l[i]? = some x) : (factsA l).getD i [] = x.av := by simp [factsA, List.getD_eq_getElem?_getD, h]

/-- A segment: nil, or its rows. -/
def segA : Option (List Row) → AV
  | none => .v (.pointer none)
  | some l => .ep [.sl 9 (rowsA l) .none] 0

theorem untok_segA (o : Option (List Row)) : AV.untok (segA o) = segA o := by cases o <;> rfl
theorem rowsA_nil : rowsA [] = [] := rfl
theorem factsA_nil : factsA [] = [] := rfl
def zeroR : Row := ⟨⟨0, .empty, .empty, .empty, .empty⟩, ⟨0, 0, 0, 0⟩⟩
theorem rowsA_app (l m : List Row) : rowsA l ++ rowsA m = rowsA (l ++ m) := by simp [rowsA]
theorem rowsA_one (x : Row) : [x.av] = rowsA [x] := rfl

theorem take_get {α : Type} {l : List α} {i : Nat} {x : α} (h : l[i]? = some x) : l.take (i + 1) = l.take i ++ [x] := by
  rw [List.take_add_one, h]; rfl
theorem rowsA_take {l : List Row} {i : Nat} {x : Row} (h : l[i]? = some x) : rowsA (l.take (i + 1)) = rowsA (l.take i) ++ [x.av] := by rw [take_get h, ← rowsA_app]; rfl
theorem len_take {α : Type} {l : List α} {i : Nat} (h : i ≤ l.length) : (l.take i).length = i := by rw [List.length_take]; omega

theorem rowsA_bel (n : Nat) (l : List Row) : (∀ x ∈ rowsA l, ∀ c ∈ x, Bel n c) = True := eq_true (by
  simp only [rowsA, List.forall_mem_map, Row.av, List.mem_cons, List.not_mem_nil, or_false, forall_eq_or_imp, forall_eq, Bel_v, and_self, implies_true])
theorem factsA_bel (n : Nat) (l : List Fact) : (∀ x ∈ factsA l, ∀ c ∈ x, Bel n c) = True := eq_true (by
  simp only [factsA, List.forall_mem_map, Fact.av, List.mem_cons, List.not_mem_nil, or_false, forall_eq_or_imp, forall_eq, Bel_v, and_self, implies_true])
theorem segA_bel (n : Nat) (o : Option (List Row)) : Bel n (segA o) = True := eq_true (by
  cases o with
  | none => exact .v _
  | some l => simp only [segA, Bel_ep, List.mem_cons, List.not_mem_nil, or_false, forall_eq, Bel_sl, rowsA_bel, tokBel, and_self])

def resS (o : Option (List Row)) (f : Int) : AV := .tup [segA o, i64 f]
theorem resS_bel (n : Nat) (o : Option (List Row)) (f : Int) : Bel n (resS o f) = True := eq_true (by simp only [resS, Bel_tup, List.mem_cons, List.not_mem_nil, or_false, forall_eq_or_imp, forall_eq, segA_bel, Bel_v, and_self])
attribute [push_cast] untok_segA rowsA_len factsA_len rowsA_nil factsA_nil rowsA_bel factsA_bel segA_bel resS_bel

end Go.Proofs

namespace Go.Proofs
open Go Go.Av
set_option linter.unusedSimpArgs false
set_option linter.unusedVariables false
set_option maxRecDepth 30000

theorem same_spec (l m : List Row) (hl : l.length ≤ 1000000) : APure Try.prog 35 [.sl 9 (rowsA l) .none, .sl 9 (rowsA m) .none] (boo (decide (l = m))) := by
  intro s
  by_cases hlen : l.length = m.length
  · have hd : ((l.length : Int) = (m.length : Int)) := by omega
    refine enterA ⟨[]⟩ (Try.f35.body.getD .skip) [.tmp 4] Try.func35 fun hwf hbel => ?_; simp only [hd,Try.f35, push_cast, ↓EPM, ↓reduceIte, seval, reduceCtorEq]
    refine ALoop_inv (ι := Nat) (fun i => i ≤ l.length ∧ l.take i = m.take i) (fun i => envL [(0, .sl 9 (rowsA l) .none), (1, .sl 9 (rowsA m) .none), (5, i64 i)]) (fun _ => { s with base := ⟨s.next, []⟩ }) (fun i => l.length - i) 0 ⟨Nat.zero_le _, rfl⟩ (ent rfl ?_) (fun i hi => ?_)
    · simp only [push_cast, ↓EPM, ↓reduceIte, seval, reduceCtorEq]
    · obtain ⟨hi, hs⟩ := hi
      by_cases hlt : i < l.length
      · have h0 : (0 : Int) ≤ (i : Int) := by omega
        have hc : ((i : Int) < (l.length : Int)) := by omega
        have hc' : ((i : Int) < (m.length : Int)) := by omega
        have hw : IntKind.i64.wrap ((i : Int) + 1) = (i : Int) + 1 := wrap_in (by omega) (by omega)
        obtain ⟨x, hx⟩ : ∃ x, l[i]? = some x := ⟨_, List.getElem?_eq_getElem hlt⟩
        obtain ⟨y, hy⟩ : ∃ x, m[i]? = some x := ⟨_, List.getElem?_eq_getElem (hlen ▸ hlt)⟩
        have gx := rowsA_get hx
        have gy := rowsA_get hy
        simp only [hc, push_cast, ↓EPM, ↓reduceIte, seval, reduceCtorEq]
        refine drawA mixed ?_; simp only [h0, hc, hc', gx, gy, push_cast, ↓EPM, ↓reduceIte, seval, reduceCtorEq]
        refine eqK_use (aeq_row x y) ?_
        by_cases hq : x = y
        · subst hq
          simp only [decide_true]
          simp only [hw, push_cast, ↓EPM, ↓reduceIte, seval, reduceCtorEq]
          refine round_next (i + 1) ⟨by omega, by rw [take_get hx, take_get hy, hs]⟩ (by omega) (ent rfl ?_)
          simp only [push_cast, ↓EPM, ↓reduceIte, seval, reduceCtorEq]
        · have hq' : decide (x = y) = false := by simp [hq]
          rw [hq']
          simp only [push_cast, ↓EPM, ↓reduceIte, seval, reduceCtorEq]
          rw [show decide (l = m) = false by
            rw [decide_eq_false_iff_not]; rintro rfl
            rw [hx] at hy; exact hq (Option.some.inj hy)]
          exact RetP [boo false]
      · have hc : ¬ ((i : Int) < (l.length : Int)) := by omega
        simp only [hc, push_cast, ↓EPM, ↓reduceIte, seval, reduceCtorEq]
        rw [show decide (l = m) = true by
          rw [decide_eq_true_eq]
          rwa [List.take_of_length_le (by omega), List.take_of_length_le (by omega)] at hs]
        exact RetP [boo true]
  · have hd : ¬ ((l.length : Int) = (m.length : Int)) := by omega
    refine enterA ⟨[]⟩ (Try.f35.body.getD .skip) [.tmp 4] Try.func35 fun hwf hbel => ?_; simp only [hd,Try.f35, push_cast, ↓EPM, ↓reduceIte, seval, reduceCtorEq]
    rw [show decide (l = m) = false by rw [decide_eq_false_iff_not]; rintro rfl; exact hlen rfl]
    exact RetP [boo false]

end Go.Proofs

namespace Go.Proofs
open Go Go.Av
set_option linter.unusedSimpArgs false
set_option linter.unusedVariables false
set_option maxRecDepth 30000

theorem clone_spec (l : List Row) (hl : l.length ≤ 1000000) : APure Try.prog 243 [.sl 9 (rowsA l) .none] (.sl 9 (rowsA l) .none) := by
  intro s
  refine ACalls_split (pre := []) (post := []) (fun hn => ?_) ?_
  · rw [hn]
    simp only [List.nil_append]
    refine enterA ⟨[]⟩ (Try.f243.body.getD .skip) [.tmp 2] Try.func243 fun hwf hbel => ?_; simp only [Try.f243, push_cast, ↓EPM, ↓reduceIte, seval, reduceCtorEq]
    refine eqK_use (AEq_slnil (e := 84) (by kernel_rfl)) ?_
    simp only [push_cast, ↓EPM, ↓reduceIte, seval, reduceCtorEq]
    exact RetW [.v (.slice none 0 0)] [.sl 9 [] .none]
  · simp only [List.nil_append]
    refine enterA ⟨[]⟩ (Try.f243.body.getD .skip) [.tmp 2] Try.func243 fun hwf hbel => ?_; simp only [Try.f243, push_cast, ↓EPM, ↓reduceIte, seval, reduceCtorEq]
    refine eqK_use (AEq_slnn (e := 84) (by kernel_rfl)) ?_
    simp only [push_cast, ↓EPM, ↓reduceIte, seval, reduceCtorEq]
    refine ⟨fun hn => ?_, fun hn => ⟨by unfold room; omega, ?_⟩⟩
    · rw [hn]
      exact RetW [.sl 9 [] .exact] [.sl 9 [] .none]
    · exact RetW [.sl 9 (rowsA l) (.row s.next l.length)] [.sl 9 (rowsA l) .none]

end Go.Proofs

namespace Go.Proofs
open Go Go.Av
set_option linter.unusedSimpArgs false
set_option linter.unusedVariables false
set_option maxRecDepth 30000

def okRow (prev : Option Key) (x : Row) : Bool := (match prev with | none => true | some p => decide (cmpK p x.k < 0)) && (decide (1 ≤ x.c.n.toInt) && x.c.right)
def rightL : Option Key → List Row → Bool
  | _, [] => true
  | prev, x :: l => okRow prev x && rightL (some x.k) l
def prevK (l : List Row) : Nat → Option Key
  | 0 => none
  | i + 1 => (l[i]?).map Row.k

theorem okRow_false_n {p : Option Key} {x : Row} (h : x.c.n.toInt < 1) : okRow p x = false := by
  have : ¬ (1 ≤ x.c.n.toInt) := by omega
  simp [okRow, this]
theorem okRow_false_r {p : Option Key} {x : Row} (h : x.c.right = false) : okRow p x = false := by simp [okRow, h]
theorem okRow_false_c {p : Key} {x : Row} (h : 0 ≤ cmpK p x.k) : okRow (some p) x = false := by
  have : ¬ (cmpK p x.k < 0) := by omega
  simp [okRow, this]
theorem okRow_true0 {x : Row} (h1 : ¬ x.c.n.toInt < 1) (h2 : x.c.right = true) : okRow none x = true := by
  have : 1 ≤ x.c.n.toInt := by omega
  simp [okRow, this, h2]
theorem okRow_true1 {p : Key} {x : Row} (h0 : ¬ 0 ≤ cmpK p x.k) (h1 : ¬ x.c.n.toInt < 1) (h2 : x.c.right = true) : okRow (some p) x = true := by
  have : 1 ≤ x.c.n.toInt := by omega
  have : cmpK p x.k < 0 := by omega
  simp [okRow, *]

theorem rright_list (l : List Row) (hl : l.length ≤ 1000000) : APure Try.prog 40 [.sl 9 (rowsA l) .none] (boo (rightL none l)) := by
  intro s
  generalize hr : rightL none l = r
  refine enterA ⟨[]⟩ (Try.f40.body.getD .skip) [.tmp 2] Try.func40 fun hwf hbel => ?_; simp only [Try.f40, push_cast, ↓EPM, ↓reduceIte, seval, reduceCtorEq]
  refine ALoop_inv (ι := Nat) (fun i => i ≤ l.length ∧ r = rightL (prevK l i) (l.drop i)) (fun i => envL [(0, .sl 9 (rowsA l) .none), (3, i64 i)]) (fun _ => { s with base := ⟨s.next, []⟩ }) (fun i => l.length - i) 0 ⟨Nat.zero_le _, by rw [← hr]; rfl⟩ (ent rfl ?_) (fun i hi => ?_)
  · simp only [push_cast, ↓EPM, ↓reduceIte, seval, reduceCtorEq]
  · obtain ⟨hi, hs⟩ := hi
    by_cases hlt : i < l.length
    · obtain ⟨x, hx⟩ : ∃ x, l[i]? = some x := ⟨_, List.getElem?_eq_getElem hlt⟩
      have gx := rowsA_get hx
      rw [drop_get hx, rightL] at hs
      have next : okRow (prevK l i) x = true → i + 1 ≤ l.length ∧ r = rightL (prevK l (i + 1)) (l.drop (i + 1)) := fun ho => ⟨by omega, by rw [hs, ho]; simp [prevK, hx]⟩
      have stop : okRow (prevK l i) x = false → r = false := fun ho => by rw [hs, ho]; rfl
      cases i with
      | zero =>
        have hc : ((0 : Int) < (l.length : Int)) := by omega
        have hw : IntKind.i64.wrap ((0 : Int) + 1) = 1 := wrap_in (by omega) (by omega)
        simp only [Int.reduceAdd] at hw
        by_cases hB : x.c.n.toInt < 1
        · simp only [hc, push_cast, ↓EPM, ↓reduceIte, seval, reduceCtorEq]
          refine drawA mixed ?_; simp only [hc, gx, hB, push_cast, ↓EPM, ↓reduceIte, seval, reduceCtorEq]
          rw [stop (okRow_false_n hB)]
          exact RetP [boo false]
        · simp only [hc, push_cast, ↓EPM, ↓reduceIte, seval, reduceCtorEq]
          refine drawA mixed ?_; simp only [hc, gx, hB, push_cast, ↓EPM, ↓reduceIte, seval, reduceCtorEq]
          refine qcall (rright_spec x.c) rfl (by simp only [push_cast, ↓EPM, ↓reduceIte, seval, reduceCtorEq] <;> rfl) ?_; simp only [push_cast, ↓EPM, ↓reduceIte, seval, reduceCtorEq]
          cases hC : x.c.right with
          | false =>
            simp only [push_cast, ↓EPM, ↓reduceIte, seval, reduceCtorEq]
            rw [stop (okRow_false_r hC)]
            exact RetP [boo false]
          | true =>
            simp only [hw, push_cast, ↓EPM, ↓reduceIte, seval, reduceCtorEq]
            refine round_next 1 (next (okRow_true0 hB hC)) (by omega) (ent rfl ?_)
            simp only [push_cast, ↓EPM, ↓reduceIte, seval, reduceCtorEq]
      | succ j =>
        obtain ⟨y, hy⟩ : ∃ y, l[j]? = some y := ⟨_, List.getElem?_eq_getElem (by omega)⟩
        have gy := rowsA_get hy
        have hp : prevK l (j + 1) = some y.k := by simp [prevK, hy]
        rw [hp] at stop next
        have hc : ((j : Int) + 1 < (l.length : Int)) := by omega
        have hc' : ((j : Int) < (l.length : Int)) := by omega
        have h0 : (0 : Int) ≤ (j : Int) := by omega
        have h0' : (0 : Int) ≤ (j : Int) + 1 := by omega
        have h0'' : (0 : Int) < (j : Int) + 1 := by omega
        have hw : IntKind.i64.wrap ((j : Int) + 1 + 1) = (j : Int) + 1 + 1 := wrap_in (by omega) (by omega)
        have hw' : IntKind.i64.wrap ((j : Int) + 1 - 1) = (j : Int) := by rw [wrap_in (by omega) (by omega)]; omega
        have ht : ((j : Int) + 1).toNat = j + 1 := by omega
        by_cases hA : 0 ≤ cmpK y.k x.k
        · simp only [hc, push_cast, ↓EPM, ↓reduceIte, seval, reduceCtorEq]
          refine drawA mixed ?_; simp only [hc, hc', h0, h0', h0'', hw', ht, gx, gy, push_cast, ↓EPM, ↓reduceIte, seval, reduceCtorEq]
          refine qcall (rcmp_spec y.k x.k) rfl (by simp only [push_cast, ↓EPM, ↓reduceIte, seval, reduceCtorEq] <;> rfl) ?_; simp only [push_cast, ↓EPM, ↓reduceIte, seval, reduceCtorEq]
          simp only [hA, push_cast, ↓EPM, ↓reduceIte, seval, reduceCtorEq]
          rw [stop (okRow_false_c hA)]
          exact RetP [boo false]
        · by_cases hB : x.c.n.toInt < 1
          · simp only [hc, push_cast, ↓EPM, ↓reduceIte, seval, reduceCtorEq]
            refine drawA mixed ?_; simp only [hc, hc', h0, h0', h0'', hw', ht, gx, gy, push_cast, ↓EPM, ↓reduceIte, seval, reduceCtorEq]
            refine qcall (rcmp_spec y.k x.k) rfl (by simp only [push_cast, ↓EPM, ↓reduceIte, seval, reduceCtorEq] <;> rfl) ?_; simp only [push_cast, ↓EPM, ↓reduceIte, seval, reduceCtorEq]
            simp only [hA, hc, hc', h0, h0', h0'', hw', ht, gx, gy, hB, push_cast, ↓EPM, ↓reduceIte, seval, reduceCtorEq]
            rw [stop (okRow_false_n hB)]
            exact RetP [boo false]
          · simp only [hc, push_cast, ↓EPM, ↓reduceIte, seval, reduceCtorEq]
            refine drawA mixed ?_; simp only [hc, hc', h0, h0', h0'', hw', ht, gx, gy, push_cast, ↓EPM, ↓reduceIte, seval, reduceCtorEq]
            refine qcall (rcmp_spec y.k x.k) rfl (by simp only [push_cast, ↓EPM, ↓reduceIte, seval, reduceCtorEq] <;> rfl) ?_; simp only [push_cast, ↓EPM, ↓reduceIte, seval, reduceCtorEq]
            simp only [hA, hc, hc', h0, h0', h0'', hw', ht, gx, gy, hB, push_cast, ↓EPM, ↓reduceIte, seval, reduceCtorEq]
            refine qcall (rright_spec x.c) rfl (by simp only [push_cast, ↓EPM, ↓reduceIte, seval, reduceCtorEq] <;> rfl) ?_; simp only [push_cast, ↓EPM, ↓reduceIte, seval, reduceCtorEq]
            cases hC : x.c.right with
            | false =>
              simp only [push_cast, ↓EPM, ↓reduceIte, seval, reduceCtorEq]
              rw [stop (okRow_false_r hC)]
              exact RetP [boo false]
            | true =>
              simp only [hw, push_cast, ↓EPM, ↓reduceIte, seval, reduceCtorEq]
              refine round_next (j + 1 + 1) (next (okRow_true1 hA hB hC)) (by omega) (ent rfl ?_)
              simp only [push_cast, ↓EPM, ↓reduceIte, seval, reduceCtorEq]
    · have hc : ¬ ((i : Int) < (l.length : Int)) := by omega
      simp only [hc, push_cast, ↓EPM, ↓reduceIte, seval, reduceCtorEq]
      rw [show r = true by rw [hs, List.drop_eq_nil_of_le (by omega), rightL]]
      exact RetP [boo true]

end Go.Proofs

namespace Go.Proofs
open Go Go.Av
set_option linter.unusedSimpArgs false
set_option linter.unusedVariables false
set_option maxRecDepth 30000


theorem srows_spec (l : List Row) (hl : l.length ≤ 1000000) : APure Try.prog 151 [.sl 9 (rowsA l) .none] (if rightL none l then resS (some l) 0 else resS none 4) := by
  intro s
  generalize hr : rightL none l = r
  refine enterA ⟨[43]⟩ (Try.f151.body.getD .skip) [.tmp 2, .tmp 3] Try.func151 fun hwf hbel => ?_; simp only [Try.f151, push_cast, ↓EPM, ↓reduceIte, seval, reduceCtorEq]
  refine ALoop_inv (ι := Nat) (fun i => i ≤ l.length ∧ r = rightL (prevK l i) (l.drop i)) (fun i => envL [(0, .sl 9 (rowsA l) .none), (6, .sl 9 (rowsA l) .none), (7, i64 l.length), (8, i64 i)]) (fun _ => { s with base := ⟨s.next, []⟩ }) (fun i => l.length - i) 0 ⟨Nat.zero_le _, by rw [← hr]; rfl⟩ (ent rfl ?_) (fun i hi => ?_)
  · simp only [push_cast, ↓EPM, ↓reduceIte, seval, reduceCtorEq]
  · obtain ⟨hi, hs⟩ := hi
    by_cases hlt : i < l.length
    · obtain ⟨x, hx⟩ : ∃ x, l[i]? = some x := ⟨_, List.getElem?_eq_getElem hlt⟩
      have gx := rowsA_get hx
      rw [drop_get hx, rightL] at hs
      have next : okRow (prevK l i) x = true → i + 1 ≤ l.length ∧ r = rightL (prevK l (i + 1)) (l.drop (i + 1)) := fun ho => ⟨by omega, by rw [hs, ho]; simp [prevK, hx]⟩
      have stop : okRow (prevK l i) x = false → r = false := fun ho => by rw [hs, ho]; rfl
      cases i with
      | zero =>
        have hc : ((0 : Int) < (l.length : Int)) := by omega
        have hw : IntKind.i64.wrap ((0 : Int) + 1) = 1 := wrap_in (by omega) (by omega)
        simp only [Int.reduceAdd] at hw
        by_cases hB : x.c.n.toInt < 1
        · simp only [hc, gx, push_cast, ↓EPM, ↓reduceIte, seval, reduceCtorEq]
          refine drawA mixed ?_; simp only [hc, gx, hB, push_cast, ↓EPM, ↓reduceIte, seval, reduceCtorEq]
          rw [stop (okRow_false_n hB)]
          exact RetP [segA none, i64 4]
        · simp only [hc, gx, push_cast, ↓EPM, ↓reduceIte, seval, reduceCtorEq]
          refine drawA mixed ?_; simp only [hc, gx, hB, push_cast, ↓EPM, ↓reduceIte, seval, reduceCtorEq]
          refine qcall (right_spec x.c) rfl (by simp only [push_cast, ↓EPM, ↓reduceIte, seval, reduceCtorEq] <;> rfl) ?_; simp only [push_cast, ↓EPM, ↓reduceIte, seval, reduceCtorEq]
          cases hC : x.c.right with
          | false =>
            simp only [push_cast, ↓EPM, ↓reduceIte, seval, reduceCtorEq]
            rw [stop (okRow_false_r hC)]
            exact RetP [segA none, i64 4]
          | true =>
            simp only [hw, push_cast, ↓EPM, ↓reduceIte, seval, reduceCtorEq]
            refine round_next 1 (next (okRow_true0 hB hC)) (by omega) (AEnt_drop rfl rfl (Nat.le_refl _) ⟨by simp only [EO]; omega, fun id hid => by simp only [EO] at hid ⊢; (repeat' split) <;> first | rfl | omega | (subst_vars; simp_all)⟩ (hwf.base _) (EntB_all ?_))
            simp only [push_cast, ↓EPM, ↓reduceIte, seval, reduceCtorEq]
            (try first | omega | ((repeat' apply And.intro) <;> first | omega | (simp only [push_cast, ↓EPM, ↓reduceIte, seval, reduceCtorEq, List.mem_cons, List.not_mem_nil, or_false, forall_eq_or_imp, forall_eq, and_self, true_and, and_true, zeroR]; done) | (simp only [push_cast, ↓EPM, ↓reduceIte, seval, reduceCtorEq, List.mem_cons, List.not_mem_nil, or_false, forall_eq_or_imp, forall_eq, and_self, true_and, and_true, zeroR]; omega)))
      | succ j =>
        obtain ⟨y, hy⟩ : ∃ y, l[j]? = some y := ⟨_, List.getElem?_eq_getElem (by omega)⟩
        have gy := rowsA_get hy
        have hp : prevK l (j + 1) = some y.k := by simp [prevK, hy]
        rw [hp] at stop next
        have hc : ((j : Int) + 1 < (l.length : Int)) := by omega
        have hc' : ((j : Int) < (l.length : Int)) := by omega
        have h0 : (0 : Int) ≤ (j : Int) := by omega
        have h0' : (0 : Int) ≤ (j : Int) + 1 := by omega
        have h0'' : (0 : Int) < (j : Int) + 1 := by omega
        have hw : IntKind.i64.wrap ((j : Int) + 1 + 1) = (j : Int) + 1 + 1 := wrap_in (by omega) (by omega)
        have hw' : IntKind.i64.wrap ((j : Int) + 1 - 1) = (j : Int) := by rw [wrap_in (by omega) (by omega)]; omega
        have ht : ((j : Int) + 1).toNat = j + 1 := by omega
        by_cases hA : 0 ≤ cmpK y.k x.k
        · simp only [hc, hc', h0, h0', h0'', hw', ht, gx, gy, push_cast, ↓EPM, ↓reduceIte, seval, reduceCtorEq]
          refine drawA mixed ?_; simp only [hc, hc', h0, h0', h0'', hw', ht, gx, gy, push_cast, ↓EPM, ↓reduceIte, seval, reduceCtorEq]
          refine qcall (fcmp_spec y.k x.k) rfl (by simp only [push_cast, ↓EPM, ↓reduceIte, seval, reduceCtorEq] <;> rfl) ?_; simp only [push_cast, ↓EPM, ↓reduceIte, seval, reduceCtorEq]
          simp only [hA, push_cast, ↓EPM, ↓reduceIte, seval, reduceCtorEq]
          rw [stop (okRow_false_c hA)]
          exact RetP [segA none, i64 4]
        · by_cases hB : x.c.n.toInt < 1
          · simp only [hc, hc', h0, h0', h0'', hw', ht, gx, gy, push_cast, ↓EPM, ↓reduceIte, seval, reduceCtorEq]
            refine drawA mixed ?_; simp only [hc, hc', h0, h0', h0'', hw', ht, gx, gy, push_cast, ↓EPM, ↓reduceIte, seval, reduceCtorEq]
            refine qcall (fcmp_spec y.k x.k) rfl (by simp only [push_cast, ↓EPM, ↓reduceIte, seval, reduceCtorEq] <;> rfl) ?_; simp only [push_cast, ↓EPM, ↓reduceIte, seval, reduceCtorEq]
            simp only [hA, hc, hc', h0, h0', h0'', hw', ht, gx, gy, hB, push_cast, ↓EPM, ↓reduceIte, seval, reduceCtorEq]
            rw [stop (okRow_false_n hB)]
            exact RetP [segA none, i64 4]
          · simp only [hc, hc', h0, h0', h0'', hw', ht, gx, gy, push_cast, ↓EPM, ↓reduceIte, seval, reduceCtorEq]
            refine drawA mixed ?_; simp only [hc, hc', h0, h0', h0'', hw', ht, gx, gy, push_cast, ↓EPM, ↓reduceIte, seval, reduceCtorEq]
            refine qcall (fcmp_spec y.k x.k) rfl (by simp only [push_cast, ↓EPM, ↓reduceIte, seval, reduceCtorEq] <;> rfl) ?_; simp only [push_cast, ↓EPM, ↓reduceIte, seval, reduceCtorEq]
            simp only [hA, hc, hc', h0, h0', h0'', hw', ht, gx, gy, hB, push_cast, ↓EPM, ↓reduceIte, seval, reduceCtorEq]
            refine qcall (right_spec x.c) rfl (by simp only [push_cast, ↓EPM, ↓reduceIte, seval, reduceCtorEq] <;> rfl) ?_; simp only [push_cast, ↓EPM, ↓reduceIte, seval, reduceCtorEq]
            cases hC : x.c.right with
            | false =>
              simp only [push_cast, ↓EPM, ↓reduceIte, seval, reduceCtorEq]
              rw [stop (okRow_false_r hC)]
              exact RetP [segA none, i64 4]
            | true =>
              simp only [hw, push_cast, ↓EPM, ↓reduceIte, seval, reduceCtorEq]
              refine round_next (j + 1 + 1) (next (okRow_true1 hA hB hC)) (by omega) (AEnt_drop rfl rfl (Nat.le_refl _) ⟨by simp only [EO]; omega, fun id hid => by simp only [EO] at hid ⊢; (repeat' split) <;> first | rfl | omega | (subst_vars; simp_all)⟩ (hwf.base _) (EntB_all ?_))
              simp only [push_cast, ↓EPM, ↓reduceIte, seval, reduceCtorEq]
              (try first | omega | ((repeat' apply And.intro) <;> first | omega | (simp only [push_cast, ↓EPM, ↓reduceIte, seval, reduceCtorEq, List.mem_cons, List.not_mem_nil, or_false, forall_eq_or_imp, forall_eq, and_self, true_and, and_true, zeroR]; done) | (simp only [push_cast, ↓EPM, ↓reduceIte, seval, reduceCtorEq, List.mem_cons, List.not_mem_nil, or_false, forall_eq_or_imp, forall_eq, and_self, true_and, and_true, zeroR]; omega)))
    · have hc : ¬ ((i : Int) < (l.length : Int)) := by omega
      simp only [hc, push_cast, ↓EPM, ↓reduceIte, seval, reduceCtorEq]
      refine (clone_spec l hl).use ?_
      simp only [push_cast, ↓EPM, ↓reduceIte, seval, reduceCtorEq]
      rw [show r = true by rw [hs, List.drop_eq_nil_of_le (by omega), rightL]]
      exact RetP [segA (some l), i64 0]

end Go.Proofs

namespace Go.Proofs
open Go Go.Av
set_option linter.unusedSimpArgs false
set_option linter.unusedVariables false
set_option maxRecDepth 30000

def short (b : ByteArray) : Bool := decide (b.size ≤ 40)
def lightF (l : List Fact) : Bool := decide (l.length ≤ 100) && l.all fun f => f.k.dims.all short

theorem lightF_spec (l : List Fact) : APure Try.prog 52 [.sl 6 (factsA l) .none] (boo (lightF l)) := by
  intro s
  by_cases hl : l.length ≤ 100
  · have hb : ¬ (100 < (l.length : Int)) := by omega
    rw [show lightF l = l.all (fun f => f.k.dims.all short) by simp [lightF, hl]]
    generalize hr : l.all (fun f => f.k.dims.all short) = r
    refine enterA ⟨[]⟩ (Try.f52.body.getD .skip) [.tmp 2] Try.func52 fun hwf hbel => ?_; simp only [hb,Try.f52, push_cast, ↓EPM, ↓reduceIte, seval, reduceCtorEq]
    refine ALoop_inv (ι := Nat) (fun i => i ≤ l.length ∧ r = (l.drop i).all (fun f => f.k.dims.all short)) (fun i => envL [(0, .sl 6 (factsA l) .none), (3, i64 i)]) (fun _ => { s with base := ⟨s.next, []⟩ }) (fun i => l.length - i) 0 ⟨Nat.zero_le _, by rw [← hr]; rfl⟩ (ent rfl ?_) (fun i hi => ?_)
    · simp only [push_cast, ↓EPM, ↓reduceIte, seval, reduceCtorEq]
    · obtain ⟨hi, hs⟩ := hi
      by_cases hlt : i < l.length
      · obtain ⟨x, hx⟩ : ∃ x, l[i]? = some x := ⟨_, List.getElem?_eq_getElem hlt⟩
        have gx := factsA_get hx
        rw [drop_get hx, List.all_cons] at hs
        have hc : ((i : Int) < (l.length : Int)) := by omega
        have h0 : (0 : Int) ≤ (i : Int) := by omega
        have hw : IntKind.i64.wrap ((i : Int) + 1) = (i : Int) + 1 := wrap_in (by omega) (by omega)
        simp only [hc, push_cast, ↓EPM, ↓reduceIte, seval, reduceCtorEq]
        refine ALoop_inv (ι := Nat) (fun k => k ≤ 4 ∧ r = ((x.k.dims.drop k).all short && (l.drop (i + 1)).all (fun f => f.k.dims.all short))) (fun k => envL [(0, .sl 6 (factsA l) .none), (3, i64 i), (4, i64 k)]) (fun _ => { s with base := ⟨s.next, []⟩ }) (fun k => 4 - k) 0 ⟨Nat.zero_le _, hs⟩ (ent rfl ?_) (fun k hk => ?_)
        · simp only [push_cast, ↓EPM, ↓reduceIte, seval, reduceCtorEq]
        · obtain ⟨hk, hs⟩ := hk
          obtain rfl | rfl | rfl | rfl | rfl : k = 0 ∨ k = 1 ∨ k = 2 ∨ k = 3 ∨ k = 4 := by omega
          · by_cases hq : 40 < (x.k.a.size : Int)
            · simp only [hc, h0, gx, hq, push_cast, ↓EPM, ↓reduceIte, seval, reduceCtorEq]
              rw [show r = false by
                have : ¬ x.k.a.size ≤ 40 := by omega
                rw [hs]; simp [Key.dims, short, this]]
              exact RetP [boo false]
            · have hw' : IntKind.i64.wrap ((0 : Int) + 1) = (0 : Int) + 1 := wrap_in (by omega) (by omega)
              simp only [Int.reduceAdd] at hw'
              simp only [hc, h0, gx, hq, hw', push_cast, ↓EPM, ↓reduceIte, seval, reduceCtorEq]
              refine round_next 1 ⟨by omega, ?_⟩ (by omega) (ent rfl ?_)
              · have : x.k.a.size ≤ 40 := by omega
                rw [hs]; simp [Key.dims, short, this]
              · simp only [push_cast, ↓EPM, ↓reduceIte, seval, reduceCtorEq]
          · by_cases hq : 40 < (x.k.b.size : Int)
            · simp only [hc, h0, gx, hq, push_cast, ↓EPM, ↓reduceIte, seval, reduceCtorEq]
              rw [show r = false by
                have : ¬ x.k.b.size ≤ 40 := by omega
                rw [hs]; simp [Key.dims, short, this]]
              exact RetP [boo false]
            · have hw' : IntKind.i64.wrap ((1 : Int) + 1) = (1 : Int) + 1 := wrap_in (by omega) (by omega)
              simp only [Int.reduceAdd] at hw'
              simp only [hc, h0, gx, hq, hw', push_cast, ↓EPM, ↓reduceIte, seval, reduceCtorEq]
              refine round_next 2 ⟨by omega, ?_⟩ (by omega) (ent rfl ?_)
              · have : x.k.b.size ≤ 40 := by omega
                rw [hs]; simp [Key.dims, short, this]
              · simp only [push_cast, ↓EPM, ↓reduceIte, seval, reduceCtorEq]
          · by_cases hq : 40 < (x.k.c.size : Int)
            · simp only [hc, h0, gx, hq, push_cast, ↓EPM, ↓reduceIte, seval, reduceCtorEq]
              rw [show r = false by
                have : ¬ x.k.c.size ≤ 40 := by omega
                rw [hs]; simp [Key.dims, short, this]]
              exact RetP [boo false]
            · have hw' : IntKind.i64.wrap ((2 : Int) + 1) = (2 : Int) + 1 := wrap_in (by omega) (by omega)
              simp only [Int.reduceAdd] at hw'
              simp only [hc, h0, gx, hq, hw', push_cast, ↓EPM, ↓reduceIte, seval, reduceCtorEq]
              refine round_next 3 ⟨by omega, ?_⟩ (by omega) (ent rfl ?_)
              · have : x.k.c.size ≤ 40 := by omega
                rw [hs]; simp [Key.dims, short, this]
              · simp only [push_cast, ↓EPM, ↓reduceIte, seval, reduceCtorEq]
          · by_cases hq : 40 < (x.k.d.size : Int)
            · simp only [hc, h0, gx, hq, push_cast, ↓EPM, ↓reduceIte, seval, reduceCtorEq]
              rw [show r = false by
                have : ¬ x.k.d.size ≤ 40 := by omega
                rw [hs]; simp [Key.dims, short, this]]
              exact RetP [boo false]
            · have hw' : IntKind.i64.wrap ((3 : Int) + 1) = (3 : Int) + 1 := wrap_in (by omega) (by omega)
              simp only [Int.reduceAdd] at hw'
              simp only [hc, h0, gx, hq, hw', push_cast, ↓EPM, ↓reduceIte, seval, reduceCtorEq]
              refine round_next 4 ⟨by omega, ?_⟩ (by omega) (ent rfl ?_)
              · have : x.k.d.size ≤ 40 := by omega
                rw [hs]; simp [Key.dims, short, this]
              · simp only [push_cast, ↓EPM, ↓reduceIte, seval, reduceCtorEq]
          · simp only [hw, push_cast, ↓EPM, ↓reduceIte, seval, reduceCtorEq]
            refine round_next (i + 1) ⟨by omega, hs⟩ (by omega) (ent rfl ?_)
            simp only [push_cast, ↓EPM, ↓reduceIte, seval, reduceCtorEq]
      · have hc : ¬ ((i : Int) < (l.length : Int)) := by omega
        simp only [hc, push_cast, ↓EPM, ↓reduceIte, seval, reduceCtorEq]
        rw [show r = true by rw [hs, List.drop_eq_nil_of_le (by omega)]; rfl]
        exact RetP [boo true]
  · have hb : 100 < (l.length : Int) := by omega
    rw [show lightF l = false by simp [lightF, hl]]
    refine enterA ⟨[]⟩ (Try.f52.body.getD .skip) [.tmp 2] Try.func52 fun hwf hbel => ?_; simp only [hb,Try.f52, push_cast, ↓EPM, ↓reduceIte, seval, reduceCtorEq]
    exact RetP [boo false]

end Go.Proofs
