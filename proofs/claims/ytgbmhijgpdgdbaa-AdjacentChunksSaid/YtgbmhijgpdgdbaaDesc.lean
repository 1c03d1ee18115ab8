/- The next description of an adjacency: the four cases together. -/
import Derived.Test.YtgbmhijgpdgdbaaDescSl
import Derived.Test.YtgbmhijgpdgdbaaDescSb
import Derived.Test.YtgbmhijgpdgdbaaDescMl
import Derived.Test.YtgbmhijgpdgdbaaDescMb
